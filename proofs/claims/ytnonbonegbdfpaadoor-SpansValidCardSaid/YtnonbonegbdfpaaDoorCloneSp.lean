/- slices.Clone at []api.Edit, []api.File: the clone is a new row of the same cells; nil stays nil. -/
import Derived.Test.YtnonbonegbdfpaaDoorApp
import Derived.Test.YtnonbonegbdfpaaDoorProg
namespace Go.Proofs.YtnonbonegbdfpaaDoor
open Go Go.RowKit

theorem info_edits : (Tryd.prog.info? 42).map (fun i => (i.zero, i.size, i.bytes)) = some (some (.agg #[.string ByteArray.empty, .int .i64 0, .int .i64 0, .string ByteArray.empty]), 4, 48) := by kernel_rfl
theorem clone_edits (w : World) (S : Nat → Prop) (v : Value) (n : Nat) (xs : List Value) (h : Row w S 4 v n xs) (hS : Old S w) (h1 : ∀ u ∈ xs, u.oneCell' = true)
    (hb : n * 48 ≤ 140737488355328) : Calls Tryd.prog 38 #[v] w (OwnRes w 42 4 n xs (v = .slice none 0 0)) := by
  obtain ⟨i0, hi, hz0, hz1, hz2⟩ := info_parts info_edits
  obtain ⟨A, cap, hv, hlen⟩ := h.form
  have hcap := h
  rcases A with _ | ad
  · obtain ⟨hl, A, c, e, hmc, hcm, h0, _⟩ := hcap
    rw [hv] at e; cases e
    obtain rfl : cap = 0 := h0 rfl
    obtain rfl : n = 0 := by omega
    obtain rfl : xs = [] := List.eq_nil_of_length_eq_zero (by simpa using hl)
    subst hv
    clear h h0 hl h1 hS hi hz0 hz1 hz2 hb
    have heq := fun wx : World => Lib.run_eql_slice_nil (P := Tryd.prog) wx 43 42 none 0 0 0 0 Tryd.underlying43
    simp only [Option.isNone] at heq
    go_enter Tryd.func38, Tryd.ntmps38
    go_wp2_with fail
    go_ret
    exact ⟨_, rfl, World.ownsRow_nil _ _ _ _, by simp, Below.refl _ _⟩
  · subst hv
    have heq := fun wx : World => Lib.run_eql_slice_nil (P := Tryd.prog) wx 43 42 (some ad) n cap 0 0 Tryd.underlying43
    simp only [Option.isNone] at heq
    have H := Lib.hid h
    have HS := Lib.hid hS
    have H1 := Lib.hid h1
    have hmx : n ≤ maxLen := by obtain ⟨hl, A, c, e, hmc, hcm, h0, _⟩ := hcap; cases e; omega
    have HM := Lib.hid hmx
    clear h hcap hS h1 hmx
    go_enter Tryd.func38, Tryd.ntmps38
    go_wp2_with (at_builtin; refine wpList_append_row _ rfl _ _ 43 rfl w.heap.size 42 i0 _ 4 48 Tryd.underlying43 hi hz0 hz1 hz2 rfl (by omega) (.slice (some ⟨w.heap.size, 0, none⟩) 0 0) 0 [] rfl ?c1 S (.slice (some ad) n cap) n xs rfl ?c2 H1.out ?c3 ?c4 ?c5 ?_)
    case c1 => exact World.ownsRow_lit w #[] 0 (Nat.le_refl _) (Nat.zero_le _) rfl
    case c2 => exact H.out.keep (SameOn.of_below ((Below.refl w.heap.size w).alloc (Nat.le_refl _) _) HS.out)
    case c3 => have := HM.out; omega
    case c4 => simpa using hb
    case c5 => simp
    intro v' w1 hown hg hnil hat
    go_wp2_with fail
    go_ret
    refine ⟨v', rfl, hown, ?_, ((Below.refl w.heap.size w).alloc (Nat.le_refl _) _).grown hg (by simp) (by simp [Value.ownBlock])⟩
    exact ⟨fun h => (hnil h).elim, fun h => by cases h⟩

theorem info_files : (Tryd.prog.info? 40).map (fun i => (i.zero, i.size, i.bytes)) = some (some (.agg #[.string ByteArray.empty, .string ByteArray.empty]), 2, 32) := by kernel_rfl
theorem clone_files (w : World) (S : Nat → Prop) (v : Value) (n : Nat) (xs : List Value) (h : Row w S 2 v n xs) (hS : Old S w) (h1 : ∀ u ∈ xs, u.oneCell' = true)
    (hb : n * 32 ≤ 140737488355328) : Calls Tryd.prog 26 #[v] w (OwnRes w 40 2 n xs (v = .slice none 0 0)) := by
  obtain ⟨i0, hi, hz0, hz1, hz2⟩ := info_parts info_files
  obtain ⟨A, cap, hv, hlen⟩ := h.form
  have hcap := h
  rcases A with _ | ad
  · obtain ⟨hl, A, c, e, hmc, hcm, h0, _⟩ := hcap
    rw [hv] at e; cases e
    obtain rfl : cap = 0 := h0 rfl
    obtain rfl : n = 0 := by omega
    obtain rfl : xs = [] := List.eq_nil_of_length_eq_zero (by simpa using hl)
    subst hv
    clear h h0 hl h1 hS hi hz0 hz1 hz2 hb
    have heq := fun wx : World => Lib.run_eql_slice_nil (P := Tryd.prog) wx 35 40 none 0 0 0 0 Tryd.underlying35
    simp only [Option.isNone] at heq
    go_enter Tryd.func26, Tryd.ntmps26
    go_wp2_with fail
    go_ret
    exact ⟨_, rfl, World.ownsRow_nil _ _ _ _, by simp, Below.refl _ _⟩
  · subst hv
    have heq := fun wx : World => Lib.run_eql_slice_nil (P := Tryd.prog) wx 35 40 (some ad) n cap 0 0 Tryd.underlying35
    simp only [Option.isNone] at heq
    have H := Lib.hid h
    have HS := Lib.hid hS
    have H1 := Lib.hid h1
    have hmx : n ≤ maxLen := by obtain ⟨hl, A, c, e, hmc, hcm, h0, _⟩ := hcap; cases e; omega
    have HM := Lib.hid hmx
    clear h hcap hS h1 hmx
    go_enter Tryd.func26, Tryd.ntmps26
    go_wp2_with (at_builtin; refine wpList_append_row _ rfl _ _ 35 rfl w.heap.size 40 i0 _ 2 32 Tryd.underlying35 hi hz0 hz1 hz2 rfl (by omega) (.slice (some ⟨w.heap.size, 0, none⟩) 0 0) 0 [] rfl ?c1 S (.slice (some ad) n cap) n xs rfl ?c2 H1.out ?c3 ?c4 ?c5 ?_)
    case c1 => exact World.ownsRow_lit w #[] 0 (Nat.le_refl _) (Nat.zero_le _) rfl
    case c2 => exact H.out.keep (SameOn.of_below ((Below.refl w.heap.size w).alloc (Nat.le_refl _) _) HS.out)
    case c3 => have := HM.out; omega
    case c4 => simpa using hb
    case c5 => simp
    intro v' w1 hown hg hnil hat
    go_wp2_with fail
    go_ret
    refine ⟨v', rfl, hown, ?_, ((Below.refl w.heap.size w).alloc (Nat.le_refl _) _).grown hg (by simp) (by simp [Value.ownBlock])⟩
    exact ⟨fun h => (hnil h).elim, fun h => by cases h⟩

end Go.Proofs.YtnonbonegbdfpaaDoor
