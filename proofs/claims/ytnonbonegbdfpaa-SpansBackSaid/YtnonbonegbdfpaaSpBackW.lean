/- recastlaw1.SpansBack: the walk: true. -/
import Derived.Test.YtnonbonegbdfpaaSpBackLaw
import Derived.Test.YtnonbonegbdfpaaSpAwake
namespace Go.Proofs.Ytnonbonegbdfpaa
open Go Go.RowKit

theorem byte_at {s : ByteArray} {j : Nat} (h : j < s.size) : (((s[j].toNat : Nat) : Int) == 10) = decide (s.data.toList[j]? = some 10) := by
  have hl : j < s.data.toList.length := by rw [Array.length_toList]; exact h
  have he : s.data.toList[j]? = some s[j] := by rw [List.getElem?_eq_getElem hl]; rfl
  rw [he, Bool.eq_iff_iff]
  simp only [beq_iff_eq, decide_eq_true_eq, Option.some.injEq]
  constructor
  · intro e; exact UInt8.toNat_inj.1 (by simp only [UInt8.reduceToNat]; omega)
  · intro e; rw [e]; rfl

set_option maxHeartbeats 4000000 in
set_option maxRecDepth 100000 in
theorem spansBack_walk {s : ByteArray} {i : Int} {w : World} (hs : s.size ≤ maxLen) :
    Calls Try.prog 9 #[.string s, .int .i64 i] w fun e w' => e = .returned (.bool true) ∧ Below w.heap.size w w' := by
  have HA : Hid (∀ w, Calls Try.prog 11 #[] w fun e w' => e = .returned (.bool true) ∧ Below w.heap.size w w') := fun w => awake_calls
  have hs2 : s.size ≤ 9223372036854775807 := by unfold maxLen at hs; omega
  clear hs
  by_cases h1 : (4000 : Int) < s.size
  · go_enter Try.func9, Try.ntmps9
    go_wp2_with (go_at_call 11; refine (HA.out _).mono ?_; rintro e w' ⟨rfl, hb⟩)
    go_ret
    exact ⟨by simp, hb⟩
  by_cases h2 : i < 0
  · go_enter Try.func9, Try.ntmps9
    go_wp2_with (go_at_call 11; refine (HA.out _).mono ?_; rintro e w' ⟨rfl, hb⟩)
    go_ret
    exact ⟨by simp, hb⟩
  by_cases h3 : (s.size : Int) < i
  · go_enter Try.func9, Try.ntmps9
    go_wp2_with (go_at_call 11; refine (HA.out _).mono ?_; rintro e w' ⟨rfl, hb⟩)
    go_ret
    exact ⟨by simp, hb⟩
  obtain ⟨a, ha⟩ : ∃ a : Nat, i = a := ⟨i.toNat, by omega⟩
  subst ha
  have hsz : s.size ≤ 4000 := by omega
  have has : a ≤ s.size := by omega
  clear h1 h2 h3 hs2
  obtain ⟨l1, l2, l3, l4⟩ := back_law has
  obtain ⟨L, hL⟩ : ∃ L, pln s a = L := ⟨_, rfl⟩
  obtain ⟨C, hC⟩ : ∃ C, pcol s a = C := ⟨_, rfl⟩
  have hcl : cntB s a ≤ s.size := by
    unfold cntB
    refine Nat.le_trans List.count_le_length ?_
    rw [List.length_take]; omega
  have HPL : Hid (∀ w, Calls Try.prog 22 #[.string s, .int .i64 a] w fun e w' => e = .returned (.tuple #[.int .i64 L, .int .i64 C]) ∧ w' = w) := fun w => by
    have := place_calls (s := s) (i := a) (w := w) (by omega)
    rwa [hL, hC] at this
  have HOF : Hid (∀ w, Calls Try.prog 23 #[.string s, .int .i64 L, .int .i64 C] w fun e w' => e = .returned (.tuple #[.int .i64 a, .bool true]) ∧ w' = w) := fun w => by
    rw [hL, hC] at l4
    rw [hL] at l1
    rw [hC] at l3
    refine (offset_calls (s := s) (line := L) (col := C) (w := w) (by omega) (by omega) (by omega)).mono ?_
    rintro e w' ⟨⟨x, hx, he⟩ | ⟨hx, -⟩, hw⟩
    · rw [l4] at hx; cases hx; exact ⟨he, hw⟩
    · rw [l4] at hx; cases hx
  rw [hL] at l1
  rw [hC] at l2
  have HL1 := Lib.hid l1
  clear l1 l3 l4 hL hC
  go_enter Try.func9, Try.ntmps9
  go_wp2_with (first
    | (go_at_call 22; refine (HPL.out _).mono ?_; rintro e w' ⟨rfl, rfl⟩)
    | (go_at_call 23; refine (HOF.out _).mono ?_; rintro e w' ⟨rfl, rfl⟩))
  go_loopg [10, 9] a (fun d i n wr => ∃ (j : Nat), d = a - j ∧ j ≤ a ∧ i = .int .i64 j ∧ n = .int .i64 ((1 + cntB s j : Nat) : Int) ∧ wr = w')
  case atStart => exact ⟨0, by simp, by omega, rfl, by simp [cntB], rfl⟩
  case round =>
    obtain ⟨j, rfl, hj, rfl, rfl, rfl⟩ := hrel
    by_cases hlt : j < a
    · have hltI : (j : Int) < (a : Int) := by omega
      have hjs : j < s.size := by omega
      have hc1 := cntB_succ hjs
      have hbt := byte_at hjs
      have hcj : cntB s j ≤ s.size := by
        unfold cntB
        refine Nat.le_trans List.count_le_length ?_
        rw [List.length_take]; omega
      cases hb : decide (s.data.toList[j]? = some 10) with
      | true =>
        rw [hb] at hbt
        have HC1 : Hid (cntB s (j + 1) = cntB s j + 1) := hc1.trans (by rw [if_pos (of_decide_eq_true hb)])
        clear hb hc1
        go_wp2_with fail
        go_roundg (a - (j + 1))
        case measure => omega
        case rel => exact ⟨j + 1, rfl, by omega, by go_num, by rw [HC1.out]; go_num, rfl⟩
      | false =>
        rw [hb] at hbt
        have HC1 : Hid (cntB s (j + 1) = cntB s j) := hc1.trans (by rw [if_neg (of_decide_eq_false hb)]; rfl)
        clear hb hc1
        go_wp2_with fail
        go_roundg (a - (j + 1))
        case measure => omega
        case rel => exact ⟨j + 1, rfl, by omega, by go_num, by rw [HC1.out], rfl⟩
    · obtain rfl : j = a := by omega
      have hLL := HL1.out
      subst hLL
      go_wp2_with (go_at_call 11; refine (HA.out _).mono ?_; rintro e w2 ⟨rfl, hb⟩)
      go_ret
      exact ⟨by simp, hb⟩
end Go.Proofs.Ytnonbonegbdfpaa
