/- slices.Clone at []api.Edit, []api.File: the clone is a new row of the same cells; nil stays nil. -/
import Derived.Test.YtnonbonegbdfpaaApp
import Derived.Test.YtnonbonegbdfpaaProg
namespace Go.Proofs.Ytnonbonegbdfpaa
open Go Go.RowKit

theorem info_edits : (Try.prog.info? 33).map (fun i => (i.zero, i.size, i.bytes)) = some (some (.agg #[.string ByteArray.empty, .int .i64 0, .int .i64 0, .string ByteArray.empty]), 4, 48) := by kernel_rfl
theorem clone_edits (w : World) (S : Nat → Prop) (v : Value) (n : Nat) (xs : List Value) (h : Row w S 4 v n xs) (hS : Old S w) (h1 : ∀ u ∈ xs, u.oneCell' = true)
    (hb : n * 48 ≤ 140737488355328) : Calls Try.prog 24 #[v] w (OwnRes w 33 4 n xs (v = .slice none 0 0)) := by
  obtain ⟨i0, hi, hz0, hz1, hz2⟩ := info_parts info_edits
  obtain ⟨A, cap, hv, hlen⟩ := h.form
  have hcap := h
  rcases A with _ | ad
  · obtain ⟨hl, A, c, e, hmc, hcm, h0, _⟩ := hcap
    rw [hv] at e; cases e
    obtain rfl : cap = 0 := h0 rfl
    obtain rfl : n = 0 := by omega
    obtain rfl : xs = [] := List.eq_nil_of_length_eq_zero (by simpa using hl)
    subst hv
    clear h h0 hl h1 hS hi hz0 hz1 hz2 hb
    have heq := fun wx : World => Lib.run_eql_slice_nil (P := Try.prog) wx 22 33 none 0 0 0 0 Try.underlying22
    simp only [Option.isNone] at heq
    go_enter Try.func24, Try.ntmps24
    go_wp2_with fail
    go_ret
    exact ⟨_, rfl, World.ownsRow_nil _ _ _ _, by simp, Below.refl _ _⟩
  · subst hv
    have heq := fun wx : World => Lib.run_eql_slice_nil (P := Try.prog) wx 22 33 (some ad) n cap 0 0 Try.underlying22
    simp only [Option.isNone] at heq
    have H := Lib.hid h
    have HS := Lib.hid hS
    have H1 := Lib.hid h1
    have hmx : n ≤ maxLen := by obtain ⟨hl, A, c, e, hmc, hcm, h0, _⟩ := hcap; cases e; omega
    have HM := Lib.hid hmx
    clear h hcap hS h1 hmx
    go_enter Try.func24, Try.ntmps24
    go_wp2_with (at_builtin; refine wpList_append_row _ rfl _ _ 22 rfl w.heap.size 33 i0 _ 4 48 Try.underlying22 hi hz0 hz1 hz2 rfl (by omega) (.slice (some ⟨w.heap.size, 0, none⟩) 0 0) 0 [] rfl ?c1 S (.slice (some ad) n cap) n xs rfl ?c2 H1.out ?c3 ?c4 ?c5 ?_)
    case c1 => exact World.ownsRow_lit w #[] 0 (Nat.le_refl _) (Nat.zero_le _) rfl
    case c2 => exact H.out.keep (SameOn.of_below ((Below.refl w.heap.size w).alloc (Nat.le_refl _) _) HS.out)
    case c3 => have := HM.out; omega
    case c4 => simpa using hb
    case c5 => simp
    intro v' w1 hown hg hnil hat
    go_wp2_with fail
    go_ret
    refine ⟨v', rfl, hown, ?_, ((Below.refl w.heap.size w).alloc (Nat.le_refl _) _).grown hg (by simp) (by simp [Value.ownBlock])⟩
    exact ⟨fun h => (hnil h).elim, fun h => by cases h⟩

theorem info_files : (Try.prog.info? 43).map (fun i => (i.zero, i.size, i.bytes)) = some (some (.agg #[.string ByteArray.empty, .string ByteArray.empty]), 2, 32) := by kernel_rfl
theorem clone_files (w : World) (S : Nat → Prop) (v : Value) (n : Nat) (xs : List Value) (h : Row w S 2 v n xs) (hS : Old S w) (h1 : ∀ u ∈ xs, u.oneCell' = true)
    (hb : n * 32 ≤ 140737488355328) : Calls Try.prog 30 #[v] w (OwnRes w 43 2 n xs (v = .slice none 0 0)) := by
  obtain ⟨i0, hi, hz0, hz1, hz2⟩ := info_parts info_files
  obtain ⟨A, cap, hv, hlen⟩ := h.form
  have hcap := h
  rcases A with _ | ad
  · obtain ⟨hl, A, c, e, hmc, hcm, h0, _⟩ := hcap
    rw [hv] at e; cases e
    obtain rfl : cap = 0 := h0 rfl
    obtain rfl : n = 0 := by omega
    obtain rfl : xs = [] := List.eq_nil_of_length_eq_zero (by simpa using hl)
    subst hv
    clear h h0 hl h1 hS hi hz0 hz1 hz2 hb
    have heq := fun wx : World => Lib.run_eql_slice_nil (P := Try.prog) wx 34 43 none 0 0 0 0 Try.underlying34
    simp only [Option.isNone] at heq
    go_enter Try.func30, Try.ntmps30
    go_wp2_with fail
    go_ret
    exact ⟨_, rfl, World.ownsRow_nil _ _ _ _, by simp, Below.refl _ _⟩
  · subst hv
    have heq := fun wx : World => Lib.run_eql_slice_nil (P := Try.prog) wx 34 43 (some ad) n cap 0 0 Try.underlying34
    simp only [Option.isNone] at heq
    have H := Lib.hid h
    have HS := Lib.hid hS
    have H1 := Lib.hid h1
    have hmx : n ≤ maxLen := by obtain ⟨hl, A, c, e, hmc, hcm, h0, _⟩ := hcap; cases e; omega
    have HM := Lib.hid hmx
    clear h hcap hS h1 hmx
    go_enter Try.func30, Try.ntmps30
    go_wp2_with (at_builtin; refine wpList_append_row _ rfl _ _ 34 rfl w.heap.size 43 i0 _ 2 32 Try.underlying34 hi hz0 hz1 hz2 rfl (by omega) (.slice (some ⟨w.heap.size, 0, none⟩) 0 0) 0 [] rfl ?c1 S (.slice (some ad) n cap) n xs rfl ?c2 H1.out ?c3 ?c4 ?c5 ?_)
    case c1 => exact World.ownsRow_lit w #[] 0 (Nat.le_refl _) (Nat.zero_le _) rfl
    case c2 => exact H.out.keep (SameOn.of_below ((Below.refl w.heap.size w).alloc (Nat.le_refl _) _) HS.out)
    case c3 => have := HM.out; omega
    case c4 => simpa using hb
    case c5 => simp
    intro v' w1 hown hg hnil hat
    go_wp2_with fail
    go_ret
    refine ⟨v', rfl, hown, ?_, ((Below.refl w.heap.size w).alloc (Nat.le_refl _) _).grown hg (by simp) (by simp [Value.ownBlock])⟩
    exact ⟨fun h => (hnil h).elim, fun h => by cases h⟩

end Go.Proofs.Ytnonbonegbdfpaa
