/- recastref1.within, Place, Offset, Indent. -/
import Derived.Test.YtnonbonegbdfpaaDoorSpPlLaw
namespace Go.Proofs.YtnonbonegbdfpaaDoor
open Go Go.RowKit

theorem byte_is {s : ByteArray} {j : Nat} (h : j < s.size) (c : UInt8) : (((s[j].toNat : Nat) : Int) == ((c.toNat : Nat) : Int)) = decide (s.data.toList[j]? = some c) := by
  have hl : j < s.data.toList.length := by rw [Array.length_toList]; exact h
  have he : s.data.toList[j]? = some s[j] := by rw [List.getElem?_eq_getElem hl]; rfl
  rw [he, Bool.eq_iff_iff]
  simp only [beq_iff_eq, decide_eq_true_eq, Option.some.injEq]
  constructor
  · intro e; exact UInt8.toNat_inj.1 (by omega)
  · intro e; rw [e]
theorem byte10 {s : ByteArray} {j : Nat} (h : j < s.size) : (((s[j].toNat : Nat) : Int) == 10) = decide (s.data.toList[j]? = some 10) := byte_is h 10
theorem byte32 {s : ByteArray} {j : Nat} (h : j < s.size) : (((s[j].toNat : Nat) : Int) == 32) = decide (s.data.toList[j]? = some 32) := byte_is h 32
theorem byte9 {s : ByteArray} {j : Nat} (h : j < s.size) : (((s[j].toNat : Nat) : Int) == 9) = decide (s.data.toList[j]? = some 9) := byte_is h 9

theorem refWithin_calls {s : ByteArray} {i : Int} {w : World} (hs : s.size ≤ 9223372036854775807) :
    Calls Tryd.prog 22 #[.string s, .int .i64 i] w fun e w' => e = .returned (.int .i64 ((inS s i : Nat) : Int)) ∧ w' = w := by
  by_cases h1 : i < 0
  · have HF : Hid (((inS s i : Nat) : Int) = 0) := by unfold Hid inS; omega
    have hd : decide (i < 0) = true := decide_eq_true h1
    go_enter Tryd.func22, Tryd.ntmps22
    go_wp2_with fail
    go_ret
    exact ⟨by rw [HF.out]; rfl, rfl⟩
  have hd : decide (i < 0) = false := decide_eq_false h1
  by_cases h2 : (s.size : Int) < i
  · have HF : Hid (((inS s i : Nat) : Int) = (s.size : Int)) := by unfold Hid inS; omega
    have hd2 : decide ((s.size : Int) < i) = true := decide_eq_true h2
    go_enter Tryd.func22, Tryd.ntmps22
    go_wp2_with fail
    go_ret
    exact ⟨by rw [HF.out]; rfl, rfl⟩
  · have HF : Hid (((inS s i : Nat) : Int) = i) := by unfold Hid inS; omega
    have hd2 : decide ((s.size : Int) < i) = false := decide_eq_false h2
    go_enter Tryd.func22, Tryd.ntmps22
    go_wp2_with fail
    go_ret
    exact ⟨by rw [HF.out]; rfl, rfl⟩

set_option maxHeartbeats 2000000 in
theorem refPlace_calls {s : ByteArray} {i : Int} {w : World} (hs : s.size ≤ 140737488355328) :
    Calls Tryd.prog 11 #[.string s, .int .i64 i] w fun e w' => e = .returned (.tuple #[.int .i64 (pln s i : Nat), .int .i64 (pcol s i)]) ∧ w' = w := by
  have hk := inS_le s i
  have HW : Hid (∀ w, Calls Tryd.prog 22 #[.string s, .int .i64 i] w fun e w' => e = .returned (.int .i64 ((inS s i : Nat) : Int)) ∧ w' = w) := fun w => refWithin_calls (by omega)
  have HP : Hid (∀ k, inS s i = k → pln s i = 1 + cntB s k) := by
    rintro k rfl
    rw [pln_in, pln_at (inS_le s i)]
  have HC : Hid (∀ k o, inS s i = k → bolB s k o → pcol s i = (k : Int) - o + 1) := by
    rintro k o rfl hb
    rw [pcol_in, pcol_at (inS_le s i) hb]
  obtain ⟨k, hkk⟩ : ∃ k, inS s i = k := ⟨_, rfl⟩
  rw [hkk] at hk HW
  have HK := Lib.hid hkk
  clear hkk
  go_enter Tryd.func11, Tryd.ntmps11
  go_wp2_with fail
  go_loopg [6, 7, 8] k (fun d lv cv iv wr => ∃ (j o m : Nat), d = k - j ∧ j ≤ k ∧ lv = .int .i64 ((1 + cntB s j : Nat) : Int) ∧ cv = .int .i64 ((m + 1 : Nat) : Int) ∧ iv = .int .i64 j ∧ m ≤ j ∧ Hid (m + o = j) ∧ Hid (bolB s j o) ∧ wr = w)
  case atStart => exact ⟨0, 0, 0, by simp, by omega, by simp [cntB], rfl, rfl, by omega, rfl, bol_zero s, rfl⟩
  case round =>
    obtain ⟨j, o, m, rfl, hj, rfl, rfl, rfl, hm, HM, HB, rfl⟩ := hrel
    have hcl := cntB_le s j
    by_cases hlt : j < k
    · have hltI : (j : Int) < (k : Int) := by omega
      have hjs : j < s.size := by omega
      have hc1 := cntB_succ hjs
      have hbt := byte10 hjs
      cases hb : decide (s.data.toList[j]? = some 10) with
      | true =>
        rw [hb] at hbt
        have HC1 : Hid (cntB s (j + 1) = cntB s j + 1) := hc1.trans (by rw [if_pos (of_decide_eq_true hb)])
        have HBN : Hid (bolB s (j + 1) (j + 1)) := bol_nl (of_decide_eq_true hb)
        clear hb hc1
        go_wp2_with (go_at_call 22; refine (HW.out _).mono ?_; rintro e w' ⟨rfl, rfl⟩)
        go_roundg (k - (j + 1))
        case measure => omega
        case rel => exact ⟨j + 1, j + 1, 0, rfl, by omega, by rw [HC1.out]; go_num, rfl, by go_num, by omega, (by unfold Hid; omega), HBN.out, rfl⟩
      | false =>
        rw [hb] at hbt
        have HC1 : Hid (cntB s (j + 1) = cntB s j) := hc1.trans (by rw [if_neg (of_decide_eq_false hb)]; rfl)
        have HBN : Hid (bolB s (j + 1) o) := bol_next HB.out (of_decide_eq_false hb)
        clear hb hc1
        go_wp2_with (go_at_call 22; refine (HW.out _).mono ?_; rintro e w' ⟨rfl, rfl⟩)
        go_roundg (k - (j + 1))
        case measure => omega
        case rel => exact ⟨j + 1, o, m + 1, rfl, by omega, by rw [HC1.out]; go_num, by go_num, by go_num, by omega, (by have := HM.out; unfold Hid; omega), HBN.out, rfl⟩
    · obtain rfl : j = k := by omega
      have HR1 : Hid (pln s i = 1 + cntB s j) := HP.out j HK.out
      have HR2 : Hid (pcol s i = ((m + 1 : Nat) : Int)) := by
        have := HC.out j o HK.out HB.out
        have h2 := HM.out
        unfold Hid; omega
      go_wp2_with (go_at_call 22; refine (HW.out _).mono ?_; rintro e w' ⟨rfl, rfl⟩)
      go_ret2
      exact ⟨by rw [HR1.out, HR2.out]; rfl, rfl⟩

set_option maxHeartbeats 4000000 in
theorem refOffset_calls {s : ByteArray} {line col : Int} {w : World} (hs : s.size ≤ 140737488355328) :
    Calls Tryd.prog 13 #[.string s, .int .i64 line, .int .i64 col] w (OffRes s line col w) := by
  have HR : Hid (∀ e w', OffRes s line col w e w' → OffRes s line col w e w') := fun _ _ h => h
  go_enter Tryd.func13, Tryd.ntmps13
  go_wp2_with fail
  go_loopg [8, 9, 10] (s.size + 1) (fun d lv cv iv wr => ∃ (j L C : Nat), d = s.size + 1 - j ∧ j ≤ s.size + 1 ∧ lv = .int .i64 (L : Int) ∧ cv = .int .i64 (C : Int) ∧ iv = .int .i64 j ∧ L ≤ j + 1 ∧ C ≤ j + 1 ∧ Hid (j ≤ s.size → L = 1 + cntB s j ∧ ∃ o, bolB s j o ∧ C + o = j + 1) ∧ Hid (∀ x : Nat, x < j → x ≤ s.size → ¬(((pln s (x : Int) : Nat) : Int) = line ∧ pcol s (x : Int) = col)) ∧ wr = w)
  case atStart => exact ⟨0, 1, 1, by simp, by omega, rfl, rfl, rfl, by omega, by omega, (fun _ => ⟨by simp [cntB], 0, bol_zero s, rfl⟩), (fun x h => by omega), rfl⟩
  case round =>
    obtain ⟨j, L, C, rfl, hj, rfl, rfl, rfl, hL, hC, HLC, HN, rfl⟩ := hrel
    by_cases hle : j ≤ s.size
    · obtain ⟨e1, o, hb, e2⟩ := HLC.out hle
      have HPL : Hid (((pln s (j : Int) : Nat) : Int) = (L : Int)) := by unfold Hid; rw [pln_at hle]; omega
      have HPC : Hid (pcol s (j : Int) = (C : Int)) := by unfold Hid; rw [pcol_at hle hb]; omega
      have HB := Lib.hid hb
      have HE1 := Lib.hid e1
      have HE2 := Lib.hid e2
      have hleI : (j : Int) ≤ (s.size : Int) := by omega
      clear e1 e2 hb HLC
      by_cases hm : (L : Int) = line ∧ (C : Int) = col
      · have HO : Hid (offP s line col = some (j : Int)) := offP_at hle (HPL.out.trans hm.1) (HPC.out.trans hm.2)
        have hb1 : ((L : Int) == line) = true := by simpa using hm.1
        have hb2 : ((C : Int) == col) = true := by simpa using hm.2
        clear hm
        go_wp2_with fail
        go_ret2
        exact HR.out _ _ ⟨.inl ⟨_, HO.out, rfl⟩, rfl⟩
      · have HNN : Hid (∀ x : Nat, x < j + 1 → x ≤ s.size → ¬(((pln s (x : Int) : Nat) : Int) = line ∧ pcol s (x : Int) = col)) := fun x h1 h2 h3 => by
          by_cases e : x < j
          · exact HN.out x e h2 h3
          · obtain rfl : x = j := by omega
            rw [HPL.out, HPC.out] at h3
            exact hm h3
        have hb0 : (((L : Int) == line) = false) ∨ (((L : Int) == line) = true ∧ ((C : Int) == col) = false) := by
          cases h1 : ((L : Int) == line) with
          | false => exact .inl rfl
          | true =>
            refine .inr ⟨rfl, ?_⟩
            cases h2 : ((C : Int) == col) with
            | false => rfl
            | true => exact absurd ⟨by simpa using h1, by simpa using h2⟩ hm
        clear hm HN HPL HPC
        by_cases hlt : j < s.size
        · have hltI : (j : Int) < (s.size : Int) := by omega
          have hc1 := cntB_succ hlt
          have hbt := byte10 hlt
          cases hb : decide (s.data.toList[j]? = some 10) with
          | true =>
            rw [hb] at hbt
            have HLN : Hid (j + 1 ≤ s.size → L + 1 = 1 + cntB s (j + 1) ∧ ∃ o, bolB s (j + 1) o ∧ 1 + o = j + 1 + 1) := fun _ => ⟨by rw [hc1, if_pos (of_decide_eq_true hb)]; have := HE1.out; omega, j + 1, bol_nl (of_decide_eq_true hb), by omega⟩
            clear hb hc1
            rcases hb0 with hb1 | ⟨hb1, hb2⟩
            · go_wp2_with fail
              go_roundg (s.size + 1 - (j + 1))
              case measure => omega
              case rel => exact ⟨j + 1, L + 1, 1, rfl, by omega, by go_num, rfl, by go_num, by omega, by omega, HLN.out, HNN.out, rfl⟩
            · go_wp2_with fail
              go_roundg (s.size + 1 - (j + 1))
              case measure => omega
              case rel => exact ⟨j + 1, L + 1, 1, rfl, by omega, by go_num, rfl, by go_num, by omega, by omega, HLN.out, HNN.out, rfl⟩
          | false =>
            rw [hb] at hbt
            have HLN : Hid (j + 1 ≤ s.size → L = 1 + cntB s (j + 1) ∧ ∃ o, bolB s (j + 1) o ∧ C + 1 + o = j + 1 + 1) := fun _ => ⟨by rw [hc1, if_neg (of_decide_eq_false hb)]; exact HE1.out, o, bol_next HB.out (of_decide_eq_false hb), by have := HE2.out; omega⟩
            clear hb hc1
            rcases hb0 with hb1 | ⟨hb1, hb2⟩
            · go_wp2_with fail
              go_roundg (s.size + 1 - (j + 1))
              case measure => omega
              case rel => exact ⟨j + 1, L, C + 1, rfl, by omega, rfl, by go_num, by go_num, by omega, by omega, HLN.out, HNN.out, rfl⟩
            · go_wp2_with fail
              go_roundg (s.size + 1 - (j + 1))
              case measure => omega
              case rel => exact ⟨j + 1, L, C + 1, rfl, by omega, rfl, by go_num, by go_num, by omega, by omega, HLN.out, HNN.out, rfl⟩
        · have hltI : ¬(j : Int) < (s.size : Int) := by omega
          rcases hb0 with hb1 | ⟨hb1, hb2⟩
          · go_wp2_with fail
            go_roundg (s.size + 1 - (j + 1))
            case measure => omega
            case rel => exact ⟨j + 1, L, C, rfl, by omega, rfl, rfl, by go_num, by omega, by omega, (fun h => by omega), HNN.out, rfl⟩
          · go_wp2_with fail
            go_roundg (s.size + 1 - (j + 1))
            case measure => omega
            case rel => exact ⟨j + 1, L, C, rfl, by omega, rfl, rfl, by go_num, by omega, by omega, (fun h => by omega), HNN.out, rfl⟩
    · have hleI : ¬(j : Int) ≤ (s.size : Int) := by omega
      have HO : Hid (offP s line col = none) := by
        unfold Hid
        cases h : offP s line col with
        | none => rfl
        | some y =>
          obtain ⟨x, h1, h2, h3, -⟩ := offP_ex h
          exact absurd ⟨h2, h3⟩ (HN.out x (by omega) h1)
      clear HN HLC
      go_wp2_with fail
      go_ret2
      exact HR.out _ _ ⟨.inr ⟨HO.out, rfl⟩, rfl⟩

set_option maxHeartbeats 4000000 in
theorem refIndent_calls {s : ByteArray} {i : Int} {w : World} {b n : Nat} (hs : s.size ≤ 140737488355328) (hb : bolB s (inS s i) b) (hn : blkB s b n) :
    Calls Tryd.prog 14 #[.string s, .int .i64 i] w fun e w' => e = .returned (.string (s.extract b n)) ∧ w' = w := by
  have hk := inS_le s i
  have HW : Hid (∀ w, Calls Tryd.prog 22 #[.string s, .int .i64 i] w fun e w' => e = .returned (.int .i64 ((inS s i : Nat) : Int)) ∧ w' = w) := fun w => refWithin_calls (by omega)
  obtain ⟨k, hkk⟩ : ∃ k, inS s i = k := ⟨_, rfl⟩
  rw [hkk] at hk HW hb
  clear hkk
  have hbk := hb.1
  have HB := Lib.hid hb
  have HN := Lib.hid hn
  have hbn := hn.1
  have hns := hn.2.1
  clear hb hn
  go_enter Tryd.func14, Tryd.ntmps14
  go_wp2_with (go_at_call 22; refine (HW.out _).mono ?_; rintro e w' ⟨rfl, rfl⟩)
  go_loopg [5] k (fun d iv wr => ∃ (j : Nat), j = d ∧ b ≤ j ∧ j ≤ k ∧ iv = .int .i64 j ∧ wr = w')
  case atStart => exact ⟨k, rfl, hbk, by omega, rfl, rfl⟩
  case round =>
    obtain ⟨j, rfl, hbj, hjk, rfl, rfl⟩ := hrel
    by_cases hlt : b < j
    · obtain ⟨m, hm⟩ : ∃ m, j = m + 1 := ⟨j - 1, by omega⟩
      have hms : m < s.size := by omega
      have hbt := byte10 hms
      rw [decide_eq_false (HB.out.2.1 m (by omega) (by omega))] at hbt
      have hd : decide (0 < j) = true := decide_eq_true (by omega)
      have hd' : 0 < j := by omega
      have hmI : (j : Int) - 1 = (m : Int) := by omega
      have hmw : IntKind.i64.wrap (m : Int) = m := by rw [IntKind.wrap_i64]; omega
      have HM := Lib.hid hm
      clear hm
      go_wp2_with fail
      go_roundg m
      case measure => have := HM.out; omega
      case rel => exact ⟨m, rfl, by have := HM.out; omega, by have := HM.out; omega, by go_num, rfl⟩
    · obtain rfl : b = j := by omega
      have hst : (b = 0) ∨ (∃ p, b = p + 1 ∧ s.data.toList[p]? = some 10) := HB.out.2.2
      rcases hst with h0 | ⟨p, hp, hp1⟩
      · subst h0
        rename World => wz
        go_wp2_with fail
        go_loopg [6] n (fun d iv wr => ∃ (j : Nat), d = n - j ∧ j ≤ n ∧ iv = .int .i64 j ∧ wr = wz)
        case atStart => exact ⟨0, by simp, by omega, rfl, rfl⟩
        case round =>
          obtain ⟨j, rfl, hj, rfl, rfl⟩ := hrel
          by_cases hjn : j < n
          · have hjs : j < s.size := by omega
            have hltI : (j : Int) < (s.size : Int) := by omega
            have h32 := byte32 hjs
            have h9 := byte9 hjs
            rcases HN.out.2.2.1 j (by omega) hjn with e | e
            · rw [decide_eq_true e] at h32
              clear h9
              go_wp2_with fail
              go_roundg (n - (j + 1))
              case measure => omega
              case rel => exact ⟨j + 1, rfl, by omega, by go_num, rfl⟩
            · rw [decide_eq_true e] at h9
              rw [decide_eq_false (by rw [e]; simp)] at h32
              go_wp2_with fail
              go_roundg (n - (j + 1))
              case measure => omega
              case rel => exact ⟨j + 1, rfl, by omega, by go_num, rfl⟩
          · obtain rfl : j = n := by omega
            by_cases hjs : j < s.size
            · have h32 := byte32 hjs
              have h9 := byte9 hjs
              rw [decide_eq_false (fun e => HN.out.2.2.2 (.inl e))] at h32
              rw [decide_eq_false (fun e => HN.out.2.2.2 (.inr e))] at h9
              have hltI : (j : Int) < (s.size : Int) := by omega
              go_wp2_with fail
              go_ret
              exact ⟨rfl, rfl⟩
            · have hltI : ¬(j : Int) < (s.size : Int) := by omega
              go_wp2_with fail
              go_ret
              exact ⟨rfl, rfl⟩
      · have hms : p < s.size := by omega
        have hbt := byte10 hms
        rw [decide_eq_true hp1] at hbt
        have hd : decide (0 < b) = true := decide_eq_true (by omega)
        have hd' : 0 < b := by omega
        have hmI : (b : Int) - 1 = (p : Int) := by omega
        have hmw : IntKind.i64.wrap (p : Int) = p := by rw [IntKind.wrap_i64]; omega
        have HP := Lib.hid hp
        clear hp hp1
        rename World => wz
        go_wp2_with fail
        go_loopg [6] (n - b) (fun d iv wr => ∃ (j : Nat), d = n - j ∧ b ≤ j ∧ j ≤ n ∧ iv = .int .i64 j ∧ wr = wz)
        case atStart => exact ⟨b, rfl, by omega, by omega, rfl, rfl⟩
        case round =>
          clear hbt hmI hmw
          obtain ⟨j, rfl, hbj2, hj, rfl, rfl⟩ := hrel
          by_cases hjn : j < n
          · have hjs : j < s.size := by omega
            have hltI : (j : Int) < (s.size : Int) := by omega
            have h32 := byte32 hjs
            have h9 := byte9 hjs
            rcases HN.out.2.2.1 j (by omega) hjn with e | e
            · rw [decide_eq_true e] at h32
              clear h9
              go_wp2_with fail
              go_roundg (n - (j + 1))
              case measure => omega
              case rel => exact ⟨j + 1, rfl, by omega, by omega, by go_num, rfl⟩
            · rw [decide_eq_true e] at h9
              rw [decide_eq_false (by rw [e]; simp)] at h32
              go_wp2_with fail
              go_roundg (n - (j + 1))
              case measure => omega
              case rel => exact ⟨j + 1, rfl, by omega, by omega, by go_num, rfl⟩
          · obtain rfl : j = n := by omega
            have hbjI : (b : Int) ≤ (j : Int) := by omega
            by_cases hjs : j < s.size
            · have h32 := byte32 hjs
              have h9 := byte9 hjs
              rw [decide_eq_false (fun e => HN.out.2.2.2 (.inl e))] at h32
              rw [decide_eq_false (fun e => HN.out.2.2.2 (.inr e))] at h9
              have hltI : (j : Int) < (s.size : Int) := by omega
              go_wp2_with fail
              go_ret
              exact ⟨rfl, rfl⟩
            · have hltI : ¬(j : Int) < (s.size : Int) := by omega
              go_wp2_with fail
              go_ret
              exact ⟨rfl, rfl⟩
end Go.Proofs.YtnonbonegbdfpaaDoor
