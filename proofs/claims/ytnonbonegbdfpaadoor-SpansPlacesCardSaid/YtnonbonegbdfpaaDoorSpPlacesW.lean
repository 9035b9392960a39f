/- recastlaw1.SpansPlaces: the walk: true. -/
import Derived.Test.YtnonbonegbdfpaaDoorSpInd
import Derived.Test.YtnonbonegbdfpaaDoorSpAwake
namespace Go.Proofs.YtnonbonegbdfpaaDoor
open Go Go.RowKit

theorem i64_hi {n : Int} (h : (Lit.int .i64 n).wf = true) : n ≤ 9223372036854775807 := by
  simp [Lit.wf, IntKind.min, IntKind.max, IntKind.bits, IntKind.signed] at h
  omega

/-- Offset's two results, as one pair -/
theorem OffRes.un {s : ByteArray} {line col : Int} {w : World} {e : Ending} {w' : World} (h : OffRes s line col w e w') :
    e = .returned (.tuple #[.int .i64 ((offP s line col).getD 0), .bool (offP s line col).isSome]) ∧ w' = w := by
  obtain ⟨⟨x, h1, rfl⟩ | ⟨h1, rfl⟩, rfl⟩ := h
  · rw [h1]; exact ⟨rfl, rfl⟩
  · rw [h1]; exact ⟨rfl, rfl⟩

set_option maxHeartbeats 4000000 in
set_option maxRecDepth 100000 in
theorem spansPlaces_walk {s : ByteArray} {i line col : Int} {w : World} (hs : s.size ≤ maxLen) (hl : line ≤ 9223372036854775807) (hc : col ≤ 9223372036854775807) :
    Calls Tryd.prog 5 #[.string s, .int .i64 i, .int .i64 line, .int .i64 col] w fun e w' => e = .returned (.bool true) ∧ Below w.heap.size w w' := by
  have HA : Hid (∀ w, Calls Tryd.prog 8 #[] w fun e w' => e = .returned (.bool true) ∧ Below w.heap.size w w') := fun w => awake_calls
  have hs2 : s.size ≤ 9223372036854775807 := by unfold maxLen at hs; omega
  clear hs
  by_cases h1 : 4000 < s.size
  · have hd : decide (4000 < s.size) = true := decide_eq_true h1
    go_enter Tryd.func5, Tryd.ntmps5
    go_wp2_with (go_at_call 8; refine (HA.out _).mono ?_; rintro e w' ⟨rfl, hb⟩)
    go_ret
    exact ⟨by simp, hb⟩
  have hd : decide (4000 < s.size) = false := decide_eq_false h1
  obtain ⟨b, hb⟩ := bol_ex (inS_le s i)
  obtain ⟨n, hn⟩ := blk_ex s (s.size - b) b (by have := hb.1; have := inS_le s i; omega)
  obtain ⟨L, hL⟩ : ∃ L, pln s i = L := ⟨_, rfl⟩
  obtain ⟨C, hC⟩ : ∃ C, pcol s i = C := ⟨_, rfl⟩
  obtain ⟨X, hX⟩ : ∃ X, (offP s line col).getD 0 = X := ⟨_, rfl⟩
  obtain ⟨Y, hY⟩ : ∃ Y, (offP s line col).isSome = Y := ⟨_, rfl⟩
  obtain ⟨T, hT⟩ : ∃ T, s.extract b n = T := ⟨_, rfl⟩
  have HP1 : Hid (∀ w, Calls Tryd.prog 10 #[.string s, .int .i64 i] w fun e w' => e = .returned (.tuple #[.int .i64 L, .int .i64 C]) ∧ w' = w) := fun w => by
    have := place_calls (s := s) (i := i) (w := w) (by omega)
    rwa [hL, hC] at this
  have HP2 : Hid (∀ w, Calls Tryd.prog 11 #[.string s, .int .i64 i] w fun e w' => e = .returned (.tuple #[.int .i64 L, .int .i64 C]) ∧ w' = w) := fun w => by
    have := refPlace_calls (s := s) (i := i) (w := w) (by omega)
    rwa [hL, hC] at this
  have HO1 : Hid (∀ w, Calls Tryd.prog 12 #[.string s, .int .i64 line, .int .i64 col] w fun e w' => e = .returned (.tuple #[.int .i64 X, .bool Y]) ∧ w' = w) := fun w => by
    refine (offset_calls (s := s) (line := line) (col := col) (w := w) (by omega) hl hc).mono fun e w' h => ?_
    have := h.un
    rwa [hX, hY] at this
  have HO2 : Hid (∀ w, Calls Tryd.prog 13 #[.string s, .int .i64 line, .int .i64 col] w fun e w' => e = .returned (.tuple #[.int .i64 X, .bool Y]) ∧ w' = w) := fun w => by
    refine (refOffset_calls (s := s) (line := line) (col := col) (w := w) (by omega)).mono fun e w' h => ?_
    have := h.un
    rwa [hX, hY] at this
  have HI1 : Hid (∀ w, Calls Tryd.prog 9 #[.string s, .int .i64 i] w fun e w' => e = .returned (.string T) ∧ Below w.heap.size w w') := fun w => by
    have := indent_calls (w := w) (by omega) hb hn
    rwa [hT] at this
  have HI2 : Hid (∀ w, Calls Tryd.prog 14 #[.string s, .int .i64 i] w fun e w' => e = .returned (.string T) ∧ w' = w) := fun w => by
    have := refIndent_calls (w := w) (by omega) hb hn
    rwa [hT] at this
  clear hL hC hX hY hT hb hn
  go_enter Tryd.func5, Tryd.ntmps5
  go_wp2_with (first
    | (go_at_call 10; refine (HP1.out _).mono ?_; rintro e w1 ⟨rfl, rfl⟩)
    | (go_at_call 11; refine (HP2.out _).mono ?_; rintro e w2 ⟨rfl, rfl⟩)
    | (go_at_call 12; refine (HO1.out _).mono ?_; rintro e w3 ⟨rfl, rfl⟩)
    | (go_at_call 13; refine (HO2.out _).mono ?_; rintro e w4 ⟨rfl, rfl⟩)
    | (go_at_call 9; refine (HI1.out _).mono ?_; rintro e w5 ⟨rfl, hb5⟩)
    | (go_at_call 14; refine (HI2.out _).mono ?_; rintro e w6 ⟨rfl, rfl⟩)
    | (go_at_call 8; refine (HA.out _).mono ?_; rintro e w7 ⟨rfl, hb7⟩))
  go_ret
  exact ⟨by simp, hb5.trans (hb7.mono hb5.size)⟩
end Go.Proofs.YtnonbonegbdfpaaDoor
