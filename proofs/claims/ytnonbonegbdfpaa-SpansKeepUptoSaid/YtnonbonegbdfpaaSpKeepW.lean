/- recastlaw1.SpansKeep: the walk: true. -/
import Derived.Test.YtnonbonegbdfpaaSpMoved
import Derived.Test.YtnonbonegbdfpaaSpApp
import Derived.Test.YtnonbonegbdfpaaSpMuch
namespace Go.Proofs.Ytnonbonegbdfpaa
open Go Go.RowKit

theorem movR_one {l : List Ed} {p : ByteArray} {n : Nat} (hok : okAll (sortd l) = true) (hp : ∀ x ∈ l, x.p = p) (hch : chain n 0 (sortd l)) (j : Nat) :
    movR l p (j : Int) = match mv 0 (sortd l) j with | none => (0, false) | some k => (wrap64 (k : Int), true) := by
  unfold movR
  rw [if_pos ⟨hok, by omega⟩, mvJ_mvI (fun x hx => hp x (sortd_iff.1 hx)) (Nat.le_refl _), List.take_length, mvI_mv hch (Nat.zero_le _)]
  cases mv 0 (sortd l) j with
  | none => rfl
  | some k => simp
theorem wrap_nat {k : Nat} (h : k ≤ 9223372036854775807) : wrap64 (k : Int) = k := by unfold wrap64; omega
def sumT (c : List Ed) (i : Nat) : Nat := ((c.take i).map fun x => x.tx.size).sum
theorem sumT_succ {c : List Ed} {i : Nat} (h : i < c.length) : sumT c (i + 1) = sumT c i + c[i].tx.size := by
  unfold sumT
  rw [List.take_succ_eq_append_getElem h, List.map_append, List.sum_append]; simp
theorem sumT_le (c : List Ed) (i : Nat) : sumT c i ≤ txS c := by
  unfold sumT txS
  exact sub_sum ((List.take_sublist i c).map _)
theorem cnt_le (f : Nat → Bool) : ∀ n, cnt f n ≤ n
  | 0 => Nat.le_refl _
  | n + 1 => by have := cnt_le f n; rw [cnt]; split <;> omega
theorem below_drewI' {B : Nat} {a b : World} {q : Nat} (h : Below (a.drewN q).heap.size (a.drewN q) b) (hB : B ≤ a.heap.size) : Below B a b :=
  ((below_drewN (Below.refl a.heap.size a) q).trans (h.mono (by simp))).mono hB
def aB : ByteArray := ⟨#[97]⟩
theorem aB_list : aB.toList = [97] := by rw [ByteArray.toList_eq]; rfl
def fmv (c : List Ed) (i : Nat) : Bool := (mv 0 c i).isSome
theorem size_list (s : ByteArray) : s.data.toList.length = s.size := Array.length_toList
theorem keep_byte {s T : ByteArray} {c : List Ed} {j k : Nat} (hch : chain s.size 0 c) (hT : T.data.toList = bld s.data.toList 0 c) (hj : j < s.size) (hm : mv 0 c j = some k) : ∃ h : k < T.size, T[k] = s[j] := by
  have h1 := mv_at (s := s.data.toList) (by rw [size_list]; exact hch) (Nat.zero_le _) (by rw [size_list]; exact hj) hm
  have h2 := mv_lt (s := s.data.toList) (by rw [size_list]; exact hch) (Nat.zero_le _) (by rw [size_list]; exact hj) hm
  rw [← hT] at h1 h2
  rw [size_list] at h2
  refine ⟨h2, ?_⟩
  rw [List.getElem?_eq_getElem (by rw [size_list]; exact h2), List.getElem?_eq_getElem (by rw [size_list]; exact hj)] at h1
  exact Option.some.inj h1
theorem keep_sum {s T : ByteArray} {c : List Ed} (hch : chain s.size 0 c) (hT : T.data.toList = bld s.data.toList 0 c) : cnt (fmv c) s.size + txS c = T.size := by
  have h := (mv_cnt (s := s.data.toList) (c := c) (q := 0) (by rw [size_list]; exact hch)).1
  rw [← hT, size_list, size_list] at h
  have e : fmv c = fun i => (mv 0 c i).isSome := rfl
  rw [e]
  simpa [cnt, txS] using h

set_option maxHeartbeats 8000000 in
set_option maxRecDepth 100000 in
theorem spansKeep_walk {s : ByteArray} {l : List Ed} {u : Value} {w : World} (h2 : Row w (fun b => b < w.heap.size) 4 u l.length (flat l))
    (hs : s.size ≤ 2000000) (hb2 : l.length ≤ 2000000) (hq : ∀ x ∈ l, x.p.size ≤ 2000000) (ht : txS l ≤ 2000000) :
    Calls Try.prog 8 #[.string s, u] w fun e w' => e = .returned (.bool true) ∧ Below w.heap.size w w' := by
  have HA : Hid (∀ w, Calls Try.prog 11 #[] w fun e w' => e = .returned (.bool true) ∧ Below w.heap.size w w') := fun w => awake_calls
  obtain ⟨B, cap2, rfl, hlen2⟩ := h2.form
  have H2 := Lib.hid h2
  have HQ := Lib.hid hq
  have HT := Lib.hid ht
  clear h2 hq ht
  go_enter Try.func8, Try.ntmps8
  by_cases hbig : 300 < s.size
  · have hd : decide (300 < s.size) = true := decide_eq_true hbig
    go_wp2_with (go_at_call 11; refine (HA.out _).mono ?_; rintro e w' ⟨rfl, hb⟩)
    go_ret
    exact ⟨by simp, hb⟩
  have hd : decide (300 < s.size) = false := decide_eq_false hbig
  go_wp2_with fail
  refine (much_calls H2.out (by omega)).mono ?_
  rintro e w2 ⟨⟨r, rfl⟩, hb2'⟩
  have HW2 := Lib.hid hb2'
  have hz2 := HW2.out.size
  clear hb2'
  cases r with
  | true =>
    go_wp2_with (go_at_call 11; refine (HA.out _).mono ?_; rintro e w' ⟨rfl, hb⟩)
    go_ret
    exact ⟨by simp, HW2.out.trans (hb.mono hz2)⟩
  | false =>
    have HR2 : Hid (Row w2 (fun b => b < w.heap.size) 4 (.slice B l.length cap2) l.length (flat l)) := H2.out.keep (SameOn.of_below HW2.out (fun b hb => hb))
    go_wp2_with fail
    go_loopg [5] l.length (fun d iv wr => ∃ (j q : Nat), d = l.length - j ∧ j ≤ l.length ∧ iv = .int .i64 j ∧ Hid (∀ i, i < j → (eAt l i).p = aB) ∧ wr = w2.drewN q)
    case atStart => exact ⟨0, 0, by simp, by omega, rfl, fun i h => by omega, rfl⟩
    case round =>
      obtain ⟨j, q, rfl, hj, rfl, HPP, rfl⟩ := hrel
      by_cases hlt : j < l.length
      · obtain ⟨b, o, rfl, -, hnc, a0, a1, a2, a3⟩ := row_at4 HR2.out hlt rfl
        cases hp : (l[j].p.toList == aB.toList) with
        | false =>
          have hp2 : (l[j].p.toList == [97]) = false := by rw [← aB_list]; exact hp
          go_wp2_with (go_at_call 11; refine (HA.out _).mono ?_; rintro e w' ⟨rfl, hb⟩)
          go_ret
          exact ⟨by simp, HW2.out.trans (below_drewI' hb hz2)⟩
        | true =>
          have hp2 : (l[j].p.toList == [97]) = true := by rw [← aB_list]; exact hp
          have HPN : Hid (∀ i, i < j + 1 → (eAt l i).p = aB) := fun i hi => by
            by_cases e : i < j
            · exact HPP.out i e
            · obtain rfl : i = j := by omega
              rw [eAt_at hlt]; exact beq_path hp
          clear HPP
          go_wp2_with fail
          go_roundg (l.length - (j + 1))
          case measure => omega
          case rel => exact ⟨j + 1, _, rfl, by omega, by go_num, HPN.out, rfl⟩
      · obtain rfl : j = l.length := by omega
        have HPA : Hid (∀ x ∈ l, x.p = aB) := fun x hx => by
          obtain ⟨i, hi, rfl⟩ := List.getElem_of_mem hx
          rw [← eAt_at hi]; exact HPP.out i hi
        have HBA : Hid (Below w.heap.size w ((w2.drewN q).alloc (.cells #[.string ⟨#[97]⟩, .string s] 43))) := (below_drewN HW2.out q).alloc (by simpa using hz2) _
        have hzA : w.heap.size ≤ ((w2.drewN q).alloc (.cells #[.string ⟨#[97]⟩, .string s] 43)).heap.size := HBA.out.size
        have HAP := apply_ok (fs := [⟨aB, s⟩]) (l := l) (v := .slice (some ⟨(w2.drewN q).heap.size, 0, none⟩) 1 1) (u := .slice B l.length cap2) (w := (w2.drewN q).alloc (.cells #[.string ⟨#[97]⟩, .string s] 43)) (S := fun b => b < ((w2.drewN q).alloc (.cells #[.string ⟨#[97]⟩, .string s] 43)).heap.size)
          (row_blk (Blk.new (w2.drewN q) 43 #[.string ⟨#[97]⟩, .string s]) rfl (by decide) (by simp)) ((H2.out.keep (SameOn.of_below HBA.out (fun b hb => hb))).more (fun b hb => Nat.lt_of_lt_of_le hb hzA)) (fun b hb => hb) (by simp) (by omega)
          (fun f hf => by obtain rfl := List.mem_singleton.1 hf; show aB.size ≤ maxLen; decide) (fun x hx => by have := HQ.out x hx; unfold maxLen; omega) (fun f hf => by obtain rfl := List.mem_singleton.1 hf; have := HT.out; show s.size + txS l ≤ _; omega)
        have HAPH := Lib.hid HAP
        clear HAP HPP
        go_wp2_with fail
        refine HAPH.out.mono ?_
        rintro e w4 ⟨⟨gs, hgs, u4, rfl, ho⟩ | ⟨hn, rfl⟩, hb4⟩
        case inr =>
          have HB4 : Hid (Below w.heap.size w w4) := HBA.out.trans (hb4.mono hzA)
          have hz4 := HB4.out.size
          clear hb4 HAPH HBA hzA hn
          go_wp2_with (go_at_call 11; refine (HA.out _).mono ?_; rintro e w' ⟨rfl, hb⟩)
          go_ret
          exact ⟨by simp, HB4.out.trans (hb.mono hz4)⟩
        obtain ⟨T, rfl, hok, hch, hTT⟩ := apply_one HPA.out hgs
        have HO4 := Lib.hid ho
        obtain ⟨g, c4, rfl, -⟩ := ho.form (by simp)
        have HB4 : Hid (Below w.heap.size w w4) := HBA.out.trans (hb4.mono hzA)
        have hz4 := HB4.out.size
        have HMV : Hid (∀ j : Nat, movR l aB (j : Int) = match mv 0 (sortd l) j with | none => (0, false) | some k => (wrap64 (k : Int), true)) := fun j => movR_one hok HPA.out hch j
        have HOK := Lib.hid hok
        have HBY : Hid (∀ j k, (hj : j < s.size) → mv 0 (sortd l) j = some k → ∃ h : k < T.size, T[k] = s[j]) := fun j k hj hm => keep_byte hch hTT hj hm
        have HMO : Hid (∀ i i' k k', i < i' → mv 0 (sortd l) i = some k → mv 0 (sortd l) i' = some k' → k < k') := fun i i' k k' h1 h2 h3 => mv_mono hch (Nat.zero_le _) h1 h2 h3
        have HSU : Hid (cnt (fmv (sortd l)) s.size + txS (sortd l) = T.size) := keep_sum hch hTT
        have htx : T.size ≤ 4000000 := by
          have h1 := HSU.out
          have h2 := cnt_le (fmv (sortd l)) s.size
          have h3 := sortd_txS l
          rw [sumB_all] at h3
          have h4 := HT.out
          unfold txS at h1 h4 h3
          omega
        clear hb4 HAPH HBA hzA hgs hok hch hTT ho
        go_wp2_with fail
        go_loopg [8, 9, 10] s.size (fun d nv lv iv wr => ∃ (j : Nat) (last : Int), d = s.size - j ∧ j ≤ s.size ∧ nv = .int .i64 (cnt (fmv (sortd l)) j : Nat) ∧ lv = .int .i64 last ∧ iv = .int .i64 j ∧ Hid (∀ i k, j ≤ i → mv 0 (sortd l) i = some k → last < (k : Int)) ∧ Hid (Below w4.heap.size w4 wr))
        case atStart => exact ⟨0, -1, by simp, by omega, rfl, rfl, rfl, fun i k _ _ => by omega, Below.refl _ _⟩
        case round =>
          obtain ⟨j, last, rfl, hj, rfl, rfl, rfl, HLA, HBL⟩ := hrel
          have hzr := HBL.out.size
          have HBW : Hid (Below w.heap.size w wr) := HB4.out.trans (HBL.out.mono hz4)
          have hzw := HBW.out.size
          have HR5 : Hid (Row wr (fun b => b < w.heap.size) 4 (.slice B l.length cap2) l.length (flat l)) := H2.out.keep (SameOn.of_below HBW.out (fun b hb => hb))
          have hcj := cnt_le (fmv (sortd l)) j
          by_cases hlt : j < s.size
          · have HM := moved_calls (l := l) (p := aB) (i := (j : Int)) (by omega) HR5.out (fun b hb => Nat.lt_of_lt_of_le hb hzw) (by omega)
            unfold MovRes at HM
            rw [HMV.out j] at HM
            cases hm : mv 0 (sortd l) j with
            | none =>
              rw [hm] at HM
              have HMH : Hid (Calls Try.prog 20 #[.slice B l.length cap2, .string ⟨#[97]⟩, .int .i64 (j : Int)] wr fun e w' => e = .returned (.tuple #[.int .i64 0, .bool false]) ∧ Below wr.heap.size wr w') := HM
              have HCN : Hid (cnt (fmv (sortd l)) (j + 1) = cnt (fmv (sortd l)) j) := by unfold Hid; rw [cnt, fmv, hm]; rfl
              have HLN : Hid (∀ i k, j + 1 ≤ i → mv 0 (sortd l) i = some k → last < (k : Int)) := fun i k h1 h2 => HLA.out i k (by omega) h2
              clear HM hm HLA
              go_wp2_with (go_at_call 20; refine HMH.out.mono ?_; rintro e w5 ⟨rfl, hb5⟩)
              go_roundg (s.size - (j + 1))
              case measure => omega
              case rel => exact ⟨j + 1, last, rfl, by omega, by rw [HCN.out], rfl, by go_num, HLN.out, HBL.out.trans (hb5.mono hzr)⟩
            | some k =>
              rw [hm] at HM
              obtain ⟨hkT, hby⟩ := HBY.out j k hlt hm
              simp only [wrap_nat (show k ≤ 9223372036854775807 by omega)] at HM
              have HMH : Hid (Calls Try.prog 20 #[.slice B l.length cap2, .string ⟨#[97]⟩, .int .i64 (j : Int)] wr fun e w' => e = .returned (.tuple #[.int .i64 (k : Int), .bool true]) ∧ Below wr.heap.size wr w') := HM
              have HCN : Hid (cnt (fmv (sortd l)) (j + 1) = cnt (fmv (sortd l)) j + 1) := by unfold Hid; rw [cnt, fmv, hm]; rfl
              have HLN : Hid (∀ i k', j + 1 ≤ i → mv 0 (sortd l) i = some k' → (k : Int) < (k' : Int)) := fun i k' h1 h2 => by
                have := HMO.out j i k k' (by omega) hm h2
                omega
              have hl1 : decide ((k : Int) ≤ last) = false := decide_eq_false (by have := HLA.out j k (Nat.le_refl _) hm; omega)
              have hl2 : decide (T.size ≤ k) = false := decide_eq_false (by omega)
              clear HM hm HLA
              go_wp2_with (go_at_call 20; refine HMH.out.mono ?_; rintro e w5 ⟨rfl, hb5⟩)
              have HB5 : Hid (Below w4.heap.size w4 w5) := HBL.out.trans (hb5.mono hzr)
              obtain ⟨z0, z1⟩ := own_at2 (own_below HO4.out HB5.out) (i := 0) (by simp) rfl
              simp only [Nat.zero_mul, Nat.zero_add] at z0 z1
              clear hb5 HMH
              go_wp2_with fail
              go_quiet (fail)
              go_wp2_with fail
              go_roundg (s.size - (j + 1))
              case measure => omega
              case rel => exact ⟨j + 1, (k : Int), rfl, by omega, by rw [HCN.out]; go_num, rfl, by go_num, HLN.out, below_drewN HB5.out _⟩
          · obtain rfl : j = s.size := by omega
            clear HLA HMV HBY HMO
            go_wp2_with fail
            refine (sorted_calls (l := l) (by omega) HR5.out (fun b hb => Nat.lt_of_lt_of_le hb hzw)).mono ?_
            rintro e w6 ⟨⟨-, u6, rfl, ho6⟩ | ⟨hno, -⟩, hb6⟩
            case inr => rw [HOK.out] at hno; cases hno
            have HB6 : Hid (Below w4.heap.size w4 w6) := HBL.out.trans (hb6.mono hzr)
            have HW6 : Hid (Below w.heap.size w w6) := HB4.out.trans (HB6.out.mono hz4)
            have hcl : (sortd l).length ≤ l.length := sortd_len l
            have HTX : Hid (txS (sortd l) ≤ 2000000) := by
              have h3 := sortd_txS l
              rw [sumB_all] at h3
              have := HT.out
              unfold Hid; unfold txS at *; omega
            obtain ⟨c, hc⟩ : ∃ c, sortd l = c := ⟨_, rfl⟩
            rw [hc] at ho6 hcl HSU HTX
            obtain ⟨n0, hn0⟩ : ∃ n0, cnt (fmv (sortd l)) s.size = n0 := ⟨_, rfl⟩
            rw [hn0] at hcj
            rw [← hc, hn0, hc] at HSU
            rw [hn0]
            have HO6 := Lib.hid ho6
            obtain ⟨D, d6, rfl⟩ := own_form ho6
            have hz6 := HB6.out.size
            clear ho6 hb6 hc hn0
            go_wp2_with fail
            go_loopg [8, 15] c.length (fun d nv iv wr => ∃ (i : Nat), d = c.length - i ∧ i ≤ c.length ∧ nv = .int .i64 (n0 + sumT c i : Nat) ∧ iv = .int .i64 i ∧ Hid (Below w6.heap.size w6 wr))
            case atStart => exact ⟨0, by simp, by omega, by simp [sumT], rfl, Below.refl _ _⟩
            case round =>
              obtain ⟨i, rfl, hi, rfl, rfl, HBR⟩ := hrel
              have hsi := sumT_le c i
              have hst := HTX.out
              by_cases hil : i < c.length
              · have HO7 : Hid (wr.ownsRow _ 33 4 (.slice D c.length d6) c.length (flat c)) := own_below HO6.out HBR.out
                obtain ⟨g7, cp, hv, -⟩ := HO7.out.form (by omega)
                cases hv
                obtain ⟨a0, a1, a2, a3⟩ := own_at4 HO7.out hil rfl
                have hs7 := sumT_succ hil
                have hs8 := sumT_le c (i + 1)
                have HS7 := Lib.hid hs7
                have htz : c[i].tx.size ≤ 2000000 := by omega
                clear hs7 hs8
                go_wp2_with fail
                go_roundg (c.length - (i + 1))
                case measure => omega
                case rel => exact ⟨i + 1, rfl, by omega, by rw [HS7.out]; go_num, by go_num, HBR.out⟩
              · obtain rfl : i = c.length := by omega
                have HSE : Hid (n0 + sumT c c.length = T.size) := by
                  have := HSU.out
                  unfold Hid sumT
                  rw [List.take_length]
                  exact this
                have HB8 : Hid (Below w4.heap.size w4 wr) := HB6.out.trans (HBR.out.mono hz6)
                have HW8 : Hid (Below w.heap.size w wr) := HW6.out.trans (HBR.out.mono HW6.out.size)
                have hz8 := HW8.out.size
                obtain ⟨z0, z1⟩ := own_at2 (own_below HO4.out HB8.out) (i := 0) (by simp) rfl
                simp only [Nat.zero_mul, Nat.zero_add] at z0 z1
                rw [HSE.out]
                clear hsi hst HSE
                go_wp2_with (go_at_call 11; refine (HA.out _).mono ?_; rintro e w' ⟨rfl, hb⟩)
                go_ret
                exact ⟨by simp, HW8.out.trans (hb.mono hz8)⟩
end Go.Proofs.Ytnonbonegbdfpaa
