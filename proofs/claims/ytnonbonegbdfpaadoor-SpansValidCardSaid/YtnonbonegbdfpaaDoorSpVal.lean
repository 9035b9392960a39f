/- recastref1.size: how many bytes the rune at the beginning has; 0: none. -/
import Derived.Test.YtnonbonegbdfpaaDoorSpValLaw
namespace Go.Proofs.YtnonbonegbdfpaaDoor
open Go Go.RowKit Go.Lib

theorem gb_at {s : ByteArray} {i : Nat} (h : i < s.size) : s[i].toNat = gb s i := by
  unfold gb
  congr 1
  show _ = s.data[i]!
  rw [getElem!_pos s.data i h]; rfl
theorem uS_le (s : ByteArray) {U : Nat} (hU : U ≤ 31) : ∀ k, k ≤ 3 → uS s U k ≤ 8388607
  | 0, _ => by unfold uS; omega
  | 1, _ => by simp only [uS]; omega
  | 2, _ => by simp only [uS]; omega
  | 3, _ => by simp only [uS]; omega

set_option maxHeartbeats 8000000 in
set_option maxRecDepth 100000 in
theorem refSize_calls {s : ByteArray} {w : World} (h0 : 0 < s.size) (hs : s.size ≤ 140737488355328) :
    Calls Tryd.prog 16 #[.string s] w fun e w' => e = .returned (.int .i64 ((szR s : Nat) : Int)) ∧ w' = w := by
  have h0I : (0 : Int) < (s.size : Int) := by omega
  have hBlt := gb_lt s 0
  have hb0 := gb_at h0
  obtain ⟨B, hB⟩ : ∃ B, gb s 0 = B := ⟨_, rfl⟩
  rw [hB] at hb0 hBlt
  have HB := Lib.hid hB
  clear hB
  by_cases c1 : B < 128
  · have HF : Hid (szR s = 1) := sz_ascii (by rw [HB.out]; exact c1)
    have hd1 : decide (B < 128) = true := decide_eq_true c1
    go_enter Tryd.func16, Tryd.ntmps16
    go_wp2_with fail
    go_ret
    exact ⟨by rw [HF.out]; rfl, rfl⟩
  have hd1 : decide (B < 128) = false := decide_eq_false c1
  by_cases c2 : B < 194
  · have HF : Hid (szR s = 0) := sz_none (by rw [HB.out]; omega)
    have hd2 : decide (194 ≤ B) = false := decide_eq_false (by omega)
    have hd3 : decide (224 ≤ B) = false := decide_eq_false (by omega)
    have hd4 : decide (240 ≤ B) = false := decide_eq_false (by omega)
    go_enter Tryd.func16, Tryd.ntmps16
    go_wp2_with fail
    go_ret
    exact ⟨by rw [HF.out]; rfl, rfl⟩
  have hd2 : decide (194 ≤ B) = true := decide_eq_true (by omega)
  by_cases c5 : 245 ≤ B
  · have HF : Hid (szR s = 0) := sz_none (by rw [HB.out]; omega)
    have hd3 : decide (B < 224) = false := decide_eq_false (by omega)
    have hd4 : decide (224 ≤ B) = true := decide_eq_true (by omega)
    have hd5 : decide (B < 240) = false := decide_eq_false (by omega)
    have hd6 : decide (240 ≤ B) = true := decide_eq_true (by omega)
    have hd7 : decide (B < 245) = false := decide_eq_false (by omega)
    go_enter Tryd.func16, Tryd.ntmps16
    go_wp2_with fail
    go_ret
    exact ⟨by rw [HF.out]; rfl, rfl⟩
  by_cases c3 : B < 224
  · have hd3 : decide (B < 224) = true := decide_eq_true c3
    have HLD : Hid (lead (gb s 0) 2 128 (B % 32)) := by rw [HB.out]; unfold Hid lead; omega
    have hbd := band31 ⟨B, hBlt⟩
    simp only at hbd
    have hU31 : B % 32 ≤ 31 := by omega
    obtain ⟨U, hU⟩ : ∃ U, B % 32 = U := ⟨_, rfl⟩
    rw [hU] at hbd HLD hU31
    clear hU
    by_cases hsh : s.size < 2
    · have HF : Hid (szR s = 0) := sz_short HLD.out hsh
      have hd9 : decide (s.size < 2) = true := decide_eq_true hsh
      go_enter Tryd.func16, Tryd.ntmps16
      go_wp2_with fail
      go_ret
      exact ⟨by rw [HF.out]; rfl, rfl⟩
    have hd9 : decide (s.size < 2) = false := decide_eq_false hsh
    have HUL : Hid (∀ k, k ≤ 3 → uS s U k ≤ 8388607) := uS_le s hU31
    go_enter Tryd.func16, Tryd.ntmps16
    go_wp2_with fail
    go_loopg [6, 7] 2 (fun d uv iv wr => ∃ (j Q : Nat), d = 2 - j ∧ j < 2 ∧ iv = .int .i64 ((j + 1 : Nat) : Int) ∧ uv = .int .i64 (Q : Int) ∧ Q ≤ 8388607 ∧ Hid (Q = uS s U j) ∧ Hid (∀ x, 1 ≤ x → x < j + 1 → gb s x / 64 = 2) ∧ wr = w)
    case atStart => exact ⟨0, U, by simp, by omega, rfl, rfl, by omega, rfl, fun x h1 h2 => by omega, rfl⟩
    case round =>
      obtain ⟨j, Q, rfl, hj, rfl, rfl, hQ, HQ, HC, rfl⟩ := hrel
      by_cases hlt : j + 1 < 2
      · have hjs : j + 1 < s.size := by omega
        have hjsI : ((j + 1 : Nat) : Int) < (s.size : Int) := by omega
        have hbj := gb_at hjs
        have hClt := gb_lt s (j + 1)
        obtain ⟨C, hC⟩ : ∃ C, gb s (j + 1) = C := ⟨_, rfl⟩
        rw [hC] at hbj hClt
        have HCC := Lib.hid hC
        clear hC
        have h192 := band192 ⟨C, hClt⟩
        have h63 := band63 ⟨C, hClt⟩
        simp only at h192 h63
        obtain ⟨X, hX⟩ : ∃ X : Int, ((C / 64 * 64 : Nat) : Int) = X := ⟨_, rfl⟩
        obtain ⟨V, hV⟩ : ∃ V : Nat, C % 64 = V := ⟨_, rfl⟩
        rw [hX] at h192
        rw [hV] at h63
        have hltI : ((j : Int) + 1 < 2) := by omega
        by_cases hc : C / 64 = 2
        · have hx : (X == 128) = true := by rw [beq_iff_eq, ← hX, hc]; rfl
          have hbo := bor64 Q V (by omega) (by omega)
          have HUN : Hid (Q * 64 + V = uS s U (j + 1)) := by unfold Hid; rw [uS, ← HQ.out, HCC.out, hV]
          have hQ2 : Q * 64 + V ≤ 8388607 := by have := HUL.out (j + 1) (by omega); rw [← HUN.out] at this; exact this
          have HC2 : Hid (∀ x, 1 ≤ x → x < j + 1 + 1 → gb s x / 64 = 2) := fun x h1 h2 => by
            by_cases e : x < j + 1
            · exact HC.out x h1 e
            · obtain rfl : x = j + 1 := by omega
              rw [HCC.out]; exact hc
          clear hX hV hc HC HQ
          go_wp2_with fail
          go_roundg (2 - (j + 1))
          case measure => omega
          case rel => exact ⟨j + 1, Q * 64 + V, rfl, by omega, by go_num, rfl, hQ2, HUN.out, HC2.out, rfl⟩
        · have hx : (X == 128) = false := by
            cases e : (X == 128) with
            | false => rfl
            | true =>
              rw [beq_iff_eq, ← hX] at e
              exact absurd (by omega) hc
          have HF : Hid (szR s = 0) := sz_cont HLD.out (by omega) hlt (by rw [HCC.out]; exact hc)
          clear hX hV hc
          go_wp2_with fail
          go_ret
          exact ⟨by rw [HF.out]; rfl, rfl⟩
      · obtain rfl : j = 1 := by omega
        have HC2 : Hid (∀ x, 1 ≤ x → x < 2 → gb s x / 64 = 2) := fun x h1 h2 => HC.out x h1 (by omega)
        have HQ2 : Hid (Q = uS s U (2 - 1)) := HQ.out
        clear HC HQ
        by_cases b1 : Q < 128
        · have HF : Hid (szR s = 0) := sz_bad HLD.out HC2.out (by rw [← HQ2.out]; exact .inl b1)
          have e1 : decide (Q < 128) = true := decide_eq_true b1
          go_wp2_with fail
          go_ret
          exact ⟨by rw [HF.out]; rfl, rfl⟩
        have e1 : decide (Q < 128) = false := decide_eq_false b1
        by_cases b2 : 1114111 < Q
        · have HF : Hid (szR s = 0) := sz_bad HLD.out HC2.out (by rw [← HQ2.out]; exact .inr (.inl b2))
          have e2 : decide (1114111 < Q) = true := decide_eq_true b2
          go_wp2_with fail
          go_ret
          exact ⟨by rw [HF.out]; rfl, rfl⟩
        have e2 : decide (1114111 < Q) = false := decide_eq_false b2
        by_cases b3 : 55296 ≤ Q
        · have e3 : decide (55296 ≤ Q) = true := decide_eq_true b3
          by_cases b4 : Q ≤ 57343
          · have HF : Hid (szR s = 0) := sz_bad HLD.out HC2.out (by rw [← HQ2.out]; exact .inr (.inr ⟨b3, b4⟩))
            have e4 : decide (Q ≤ 57343) = true := decide_eq_true b4
            go_wp2_with fail
            go_ret
            exact ⟨by rw [HF.out]; rfl, rfl⟩
          · have HF : Hid (szR s = 2) := sz_good HLD.out (by omega) HC2.out (by rw [← HQ2.out]; unfold badU; omega)
            have e4 : decide (Q ≤ 57343) = false := decide_eq_false b4
            go_wp2_with fail
            go_ret
            exact ⟨by rw [HF.out]; rfl, rfl⟩
        · have HF : Hid (szR s = 2) := sz_good HLD.out (by omega) HC2.out (by rw [← HQ2.out]; unfold badU; omega)
          have e3 : decide (55296 ≤ Q) = false := decide_eq_false b3
          go_wp2_with fail
          go_ret
          exact ⟨by rw [HF.out]; rfl, rfl⟩
  have hd3 : decide (B < 224) = false := decide_eq_false c3
  have hd4 : decide (224 ≤ B) = true := decide_eq_true (by omega)
  by_cases c4 : B < 240
  · have hd5 : decide (B < 240) = true := decide_eq_true c4
    have HLD : Hid (lead (gb s 0) 3 2048 (B % 16)) := by rw [HB.out]; unfold Hid lead; omega
    have hbd := band15 ⟨B, hBlt⟩
    simp only at hbd
    have hU31 : B % 16 ≤ 31 := by omega
    obtain ⟨U, hU⟩ : ∃ U, B % 16 = U := ⟨_, rfl⟩
    rw [hU] at hbd HLD hU31
    clear hU
    by_cases hsh : s.size < 3
    · have HF : Hid (szR s = 0) := sz_short HLD.out hsh
      have hd9 : decide (s.size < 3) = true := decide_eq_true hsh
      go_enter Tryd.func16, Tryd.ntmps16
      go_wp2_with fail
      go_ret
      exact ⟨by rw [HF.out]; rfl, rfl⟩
    have hd9 : decide (s.size < 3) = false := decide_eq_false hsh
    have HUL : Hid (∀ k, k ≤ 3 → uS s U k ≤ 8388607) := uS_le s hU31
    go_enter Tryd.func16, Tryd.ntmps16
    go_wp2_with fail
    go_loopg [6, 7] 3 (fun d uv iv wr => ∃ (j Q : Nat), d = 3 - j ∧ j < 3 ∧ iv = .int .i64 ((j + 1 : Nat) : Int) ∧ uv = .int .i64 (Q : Int) ∧ Q ≤ 8388607 ∧ Hid (Q = uS s U j) ∧ Hid (∀ x, 1 ≤ x → x < j + 1 → gb s x / 64 = 2) ∧ wr = w)
    case atStart => exact ⟨0, U, by simp, by omega, rfl, rfl, by omega, rfl, fun x h1 h2 => by omega, rfl⟩
    case round =>
      obtain ⟨j, Q, rfl, hj, rfl, rfl, hQ, HQ, HC, rfl⟩ := hrel
      by_cases hlt : j + 1 < 3
      · have hjs : j + 1 < s.size := by omega
        have hjsI : ((j + 1 : Nat) : Int) < (s.size : Int) := by omega
        have hbj := gb_at hjs
        have hClt := gb_lt s (j + 1)
        obtain ⟨C, hC⟩ : ∃ C, gb s (j + 1) = C := ⟨_, rfl⟩
        rw [hC] at hbj hClt
        have HCC := Lib.hid hC
        clear hC
        have h192 := band192 ⟨C, hClt⟩
        have h63 := band63 ⟨C, hClt⟩
        simp only at h192 h63
        obtain ⟨X, hX⟩ : ∃ X : Int, ((C / 64 * 64 : Nat) : Int) = X := ⟨_, rfl⟩
        obtain ⟨V, hV⟩ : ∃ V : Nat, C % 64 = V := ⟨_, rfl⟩
        rw [hX] at h192
        rw [hV] at h63
        have hltI : ((j : Int) + 1 < 3) := by omega
        by_cases hc : C / 64 = 2
        · have hx : (X == 128) = true := by rw [beq_iff_eq, ← hX, hc]; rfl
          have hbo := bor64 Q V (by omega) (by omega)
          have HUN : Hid (Q * 64 + V = uS s U (j + 1)) := by unfold Hid; rw [uS, ← HQ.out, HCC.out, hV]
          have hQ2 : Q * 64 + V ≤ 8388607 := by have := HUL.out (j + 1) (by omega); rw [← HUN.out] at this; exact this
          have HC2 : Hid (∀ x, 1 ≤ x → x < j + 1 + 1 → gb s x / 64 = 2) := fun x h1 h2 => by
            by_cases e : x < j + 1
            · exact HC.out x h1 e
            · obtain rfl : x = j + 1 := by omega
              rw [HCC.out]; exact hc
          clear hX hV hc HC HQ
          go_wp2_with fail
          go_roundg (3 - (j + 1))
          case measure => omega
          case rel => exact ⟨j + 1, Q * 64 + V, rfl, by omega, by go_num, rfl, hQ2, HUN.out, HC2.out, rfl⟩
        · have hx : (X == 128) = false := by
            cases e : (X == 128) with
            | false => rfl
            | true =>
              rw [beq_iff_eq, ← hX] at e
              exact absurd (by omega) hc
          have HF : Hid (szR s = 0) := sz_cont HLD.out (by omega) hlt (by rw [HCC.out]; exact hc)
          clear hX hV hc
          go_wp2_with fail
          go_ret
          exact ⟨by rw [HF.out]; rfl, rfl⟩
      · obtain rfl : j = 2 := by omega
        have HC2 : Hid (∀ x, 1 ≤ x → x < 3 → gb s x / 64 = 2) := fun x h1 h2 => HC.out x h1 (by omega)
        have HQ2 : Hid (Q = uS s U (3 - 1)) := HQ.out
        clear HC HQ
        by_cases b1 : Q < 2048
        · have HF : Hid (szR s = 0) := sz_bad HLD.out HC2.out (by rw [← HQ2.out]; exact .inl b1)
          have e1 : decide (Q < 2048) = true := decide_eq_true b1
          go_wp2_with fail
          go_ret
          exact ⟨by rw [HF.out]; rfl, rfl⟩
        have e1 : decide (Q < 2048) = false := decide_eq_false b1
        by_cases b2 : 1114111 < Q
        · have HF : Hid (szR s = 0) := sz_bad HLD.out HC2.out (by rw [← HQ2.out]; exact .inr (.inl b2))
          have e2 : decide (1114111 < Q) = true := decide_eq_true b2
          go_wp2_with fail
          go_ret
          exact ⟨by rw [HF.out]; rfl, rfl⟩
        have e2 : decide (1114111 < Q) = false := decide_eq_false b2
        by_cases b3 : 55296 ≤ Q
        · have e3 : decide (55296 ≤ Q) = true := decide_eq_true b3
          by_cases b4 : Q ≤ 57343
          · have HF : Hid (szR s = 0) := sz_bad HLD.out HC2.out (by rw [← HQ2.out]; exact .inr (.inr ⟨b3, b4⟩))
            have e4 : decide (Q ≤ 57343) = true := decide_eq_true b4
            go_wp2_with fail
            go_ret
            exact ⟨by rw [HF.out]; rfl, rfl⟩
          · have HF : Hid (szR s = 3) := sz_good HLD.out (by omega) HC2.out (by rw [← HQ2.out]; unfold badU; omega)
            have e4 : decide (Q ≤ 57343) = false := decide_eq_false b4
            go_wp2_with fail
            go_ret
            exact ⟨by rw [HF.out]; rfl, rfl⟩
        · have HF : Hid (szR s = 3) := sz_good HLD.out (by omega) HC2.out (by rw [← HQ2.out]; unfold badU; omega)
          have e3 : decide (55296 ≤ Q) = false := decide_eq_false b3
          go_wp2_with fail
          go_ret
          exact ⟨by rw [HF.out]; rfl, rfl⟩
  have hd5 : decide (B < 240) = false := decide_eq_false c4
  have hd6 : decide (240 ≤ B) = true := decide_eq_true (by omega)
  have hd7 : decide (B < 245) = true := decide_eq_true (by omega)
  have HLD : Hid (lead (gb s 0) 4 65536 (B % 8)) := by rw [HB.out]; unfold Hid lead; omega
  have hbd := band7 ⟨B, hBlt⟩
  simp only at hbd
  have hU31 : B % 8 ≤ 31 := by omega
  obtain ⟨U, hU⟩ : ∃ U, B % 8 = U := ⟨_, rfl⟩
  rw [hU] at hbd HLD hU31
  clear hU
  by_cases hsh : s.size < 4
  · have HF : Hid (szR s = 0) := sz_short HLD.out hsh
    have hd9 : decide (s.size < 4) = true := decide_eq_true hsh
    go_enter Tryd.func16, Tryd.ntmps16
    go_wp2_with fail
    go_ret
    exact ⟨by rw [HF.out]; rfl, rfl⟩
  have hd9 : decide (s.size < 4) = false := decide_eq_false hsh
  have HUL : Hid (∀ k, k ≤ 3 → uS s U k ≤ 8388607) := uS_le s hU31
  go_enter Tryd.func16, Tryd.ntmps16
  go_wp2_with fail
  go_loopg [6, 7] 4 (fun d uv iv wr => ∃ (j Q : Nat), d = 4 - j ∧ j < 4 ∧ iv = .int .i64 ((j + 1 : Nat) : Int) ∧ uv = .int .i64 (Q : Int) ∧ Q ≤ 8388607 ∧ Hid (Q = uS s U j) ∧ Hid (∀ x, 1 ≤ x → x < j + 1 → gb s x / 64 = 2) ∧ wr = w)
  case atStart => exact ⟨0, U, by simp, by omega, rfl, rfl, by omega, rfl, fun x h1 h2 => by omega, rfl⟩
  case round =>
    obtain ⟨j, Q, rfl, hj, rfl, rfl, hQ, HQ, HC, rfl⟩ := hrel
    by_cases hlt : j + 1 < 4
    · have hjs : j + 1 < s.size := by omega
      have hjsI : ((j + 1 : Nat) : Int) < (s.size : Int) := by omega
      have hbj := gb_at hjs
      have hClt := gb_lt s (j + 1)
      obtain ⟨C, hC⟩ : ∃ C, gb s (j + 1) = C := ⟨_, rfl⟩
      rw [hC] at hbj hClt
      have HCC := Lib.hid hC
      clear hC
      have h192 := band192 ⟨C, hClt⟩
      have h63 := band63 ⟨C, hClt⟩
      simp only at h192 h63
      obtain ⟨X, hX⟩ : ∃ X : Int, ((C / 64 * 64 : Nat) : Int) = X := ⟨_, rfl⟩
      obtain ⟨V, hV⟩ : ∃ V : Nat, C % 64 = V := ⟨_, rfl⟩
      rw [hX] at h192
      rw [hV] at h63
      have hltI : ((j : Int) + 1 < 4) := by omega
      by_cases hc : C / 64 = 2
      · have hx : (X == 128) = true := by rw [beq_iff_eq, ← hX, hc]; rfl
        have hbo := bor64 Q V (by omega) (by omega)
        have HUN : Hid (Q * 64 + V = uS s U (j + 1)) := by unfold Hid; rw [uS, ← HQ.out, HCC.out, hV]
        have hQ2 : Q * 64 + V ≤ 8388607 := by have := HUL.out (j + 1) (by omega); rw [← HUN.out] at this; exact this
        have HC2 : Hid (∀ x, 1 ≤ x → x < j + 1 + 1 → gb s x / 64 = 2) := fun x h1 h2 => by
          by_cases e : x < j + 1
          · exact HC.out x h1 e
          · obtain rfl : x = j + 1 := by omega
            rw [HCC.out]; exact hc
        clear hX hV hc HC HQ
        go_wp2_with fail
        go_roundg (4 - (j + 1))
        case measure => omega
        case rel => exact ⟨j + 1, Q * 64 + V, rfl, by omega, by go_num, rfl, hQ2, HUN.out, HC2.out, rfl⟩
      · have hx : (X == 128) = false := by
          cases e : (X == 128) with
          | false => rfl
          | true =>
            rw [beq_iff_eq, ← hX] at e
            exact absurd (by omega) hc
        have HF : Hid (szR s = 0) := sz_cont HLD.out (by omega) hlt (by rw [HCC.out]; exact hc)
        clear hX hV hc
        go_wp2_with fail
        go_ret
        exact ⟨by rw [HF.out]; rfl, rfl⟩
    · obtain rfl : j = 3 := by omega
      have HC2 : Hid (∀ x, 1 ≤ x → x < 4 → gb s x / 64 = 2) := fun x h1 h2 => HC.out x h1 (by omega)
      have HQ2 : Hid (Q = uS s U (4 - 1)) := HQ.out
      clear HC HQ
      by_cases b1 : Q < 65536
      · have HF : Hid (szR s = 0) := sz_bad HLD.out HC2.out (by rw [← HQ2.out]; exact .inl b1)
        have e1 : decide (Q < 65536) = true := decide_eq_true b1
        go_wp2_with fail
        go_ret
        exact ⟨by rw [HF.out]; rfl, rfl⟩
      have e1 : decide (Q < 65536) = false := decide_eq_false b1
      by_cases b2 : 1114111 < Q
      · have HF : Hid (szR s = 0) := sz_bad HLD.out HC2.out (by rw [← HQ2.out]; exact .inr (.inl b2))
        have e2 : decide (1114111 < Q) = true := decide_eq_true b2
        go_wp2_with fail
        go_ret
        exact ⟨by rw [HF.out]; rfl, rfl⟩
      have e2 : decide (1114111 < Q) = false := decide_eq_false b2
      by_cases b3 : 55296 ≤ Q
      · have e3 : decide (55296 ≤ Q) = true := decide_eq_true b3
        by_cases b4 : Q ≤ 57343
        · exfalso; omega
        · have HF : Hid (szR s = 4) := sz_good HLD.out (by omega) HC2.out (by rw [← HQ2.out]; unfold badU; omega)
          have e4 : decide (Q ≤ 57343) = false := decide_eq_false b4
          go_wp2_with fail
          go_ret
          exact ⟨by rw [HF.out]; rfl, rfl⟩
      · exfalso; omega
end Go.Proofs.YtnonbonegbdfpaaDoor
