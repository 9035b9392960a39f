/- slices.Clone at []api.Method, []int: the clone is a new row of the same cells; nil stays nil. -/
import Derived.Test.YtanhdklaponekaaClone
namespace Go.Proofs.Ytanhdklaponekaa
open Go Go.RowKit

theorem info_mes : (Try.prog.info? 89).map (fun i => (i.zero, i.size, i.bytes)) = some (some (.agg #[.string ByteArray.empty, .bool false, .int .i64 0, .string ByteArray.empty, .int .i64 0, .bool false, .slice none 0 0, .slice none 0 0, .slice none 0 0]), 9, 136) := by kernel_rfl
theorem clone_mes (w : World) (S : Nat → Prop) (v : Value) (n : Nat) (xs : List Value) (h : Row w S 9 v n xs) (hS : Old S w) (h1 : ∀ u ∈ xs, u.oneCell' = true)
    (hb : n * 136 ≤ 140737488355328) : Calls Try.prog 71 #[v] w (OwnRes w 89 9 n xs (v = .slice none 0 0)) := by
  obtain ⟨i0, hi, hz0, hz1, hz2⟩ := info_parts info_mes
  obtain ⟨A, cap, hv, hlen⟩ := h.form
  have hcap := h
  rcases A with _ | ad
  · obtain ⟨hl, A, c, e, hmc, hcm, h0, _⟩ := hcap
    rw [hv] at e; cases e
    obtain rfl : cap = 0 := h0 rfl
    obtain rfl : n = 0 := by omega
    obtain rfl : xs = [] := List.eq_nil_of_length_eq_zero (by simpa using hl)
    subst hv
    clear h h0 hl h1 hS hi hz0 hz1 hz2 hb
    have heq := fun wx : World => Lib.run_eql_slice_nil (P := Try.prog) wx 41 89 none 0 0 0 0 Try.underlying41
    simp only [Option.isNone] at heq
    go_enter Try.func71, Try.ntmps71
    go_wp2_with fail
    go_ret
    exact ⟨_, rfl, World.ownsRow_nil _ _ _ _, by simp, Below.refl _ _⟩
  · subst hv
    have heq := fun wx : World => Lib.run_eql_slice_nil (P := Try.prog) wx 41 89 (some ad) n cap 0 0 Try.underlying41
    simp only [Option.isNone] at heq
    have H := Lib.hid h
    have HS := Lib.hid hS
    have H1 := Lib.hid h1
    have hmx : n ≤ maxLen := by obtain ⟨hl, A, c, e, hmc, hcm, h0, _⟩ := hcap; cases e; omega
    have HM := Lib.hid hmx
    clear h hcap hS h1 hmx
    go_enter Try.func71, Try.ntmps71
    go_wp2_with (at_builtin; refine wpList_append_row _ rfl _ _ 41 rfl w.heap.size 89 i0 _ 9 136 Try.underlying41 hi hz0 hz1 hz2 rfl (by omega) (.slice (some ⟨w.heap.size, 0, none⟩) 0 0) 0 [] rfl ?c1 S (.slice (some ad) n cap) n xs rfl ?c2 H1.out ?c3 ?c4 ?c5 ?_)
    case c1 => exact World.ownsRow_lit w #[] 0 (Nat.le_refl _) (Nat.zero_le _) rfl
    case c2 => exact H.out.keep (SameOn.of_below ((Below.refl w.heap.size w).alloc (Nat.le_refl _) _) HS.out)
    case c3 => have := HM.out; omega
    case c4 => simpa using hb
    case c5 => simp
    intro v' w1 hown hg hnil hat
    go_wp2_with fail
    go_ret
    refine ⟨v', rfl, hown, ?_, ((Below.refl w.heap.size w).alloc (Nat.le_refl _) _).grown hg (by simp) (by simp [Value.ownBlock])⟩
    exact ⟨fun h => (hnil h).elim, fun h => by cases h⟩

theorem info_ints : (Try.prog.info? 3).map (fun i => (i.zero, i.size, i.bytes)) = some (some (.int .i64 0), 1, 8) := by kernel_rfl
theorem clone_ints (w : World) (S : Nat → Prop) (v : Value) (n : Nat) (xs : List Value) (h : Row w S 1 v n xs) (hS : Old S w) (h1 : ∀ u ∈ xs, u.oneCell' = true)
    (hb : n * 8 ≤ 140737488355328) : Calls Try.prog 87 #[v] w (OwnRes w 3 1 n xs (v = .slice none 0 0)) := by
  obtain ⟨i0, hi, hz0, hz1, hz2⟩ := info_parts info_ints
  obtain ⟨A, cap, hv, hlen⟩ := h.form
  have hcap := h
  rcases A with _ | ad
  · obtain ⟨hl, A, c, e, hmc, hcm, h0, _⟩ := hcap
    rw [hv] at e; cases e
    obtain rfl : cap = 0 := h0 rfl
    obtain rfl : n = 0 := by omega
    obtain rfl : xs = [] := List.eq_nil_of_length_eq_zero (by simpa using hl)
    subst hv
    clear h h0 hl h1 hS hi hz0 hz1 hz2 hb
    have heq := fun wx : World => Lib.run_eql_slice_nil (P := Try.prog) wx 56 3 none 0 0 0 0 Try.underlying56
    simp only [Option.isNone] at heq
    go_enter Try.func87, Try.ntmps87
    go_wp2_with fail
    go_ret
    exact ⟨_, rfl, World.ownsRow_nil _ _ _ _, by simp, Below.refl _ _⟩
  · subst hv
    have heq := fun wx : World => Lib.run_eql_slice_nil (P := Try.prog) wx 56 3 (some ad) n cap 0 0 Try.underlying56
    simp only [Option.isNone] at heq
    have H := Lib.hid h
    have HS := Lib.hid hS
    have H1 := Lib.hid h1
    have hmx : n ≤ maxLen := by obtain ⟨hl, A, c, e, hmc, hcm, h0, _⟩ := hcap; cases e; omega
    have HM := Lib.hid hmx
    clear h hcap hS h1 hmx
    go_enter Try.func87, Try.ntmps87
    go_wp2_with (at_builtin; refine wpList_append_row _ rfl _ _ 56 rfl w.heap.size 3 i0 _ 1 8 Try.underlying56 hi hz0 hz1 hz2 rfl (by omega) (.slice (some ⟨w.heap.size, 0, none⟩) 0 0) 0 [] rfl ?c1 S (.slice (some ad) n cap) n xs rfl ?c2 H1.out ?c3 ?c4 ?c5 ?_)
    case c1 => exact World.ownsRow_lit w #[] 0 (Nat.le_refl _) (Nat.zero_le _) rfl
    case c2 => exact H.out.keep (SameOn.of_below ((Below.refl w.heap.size w).alloc (Nat.le_refl _) _) HS.out)
    case c3 => have := HM.out; omega
    case c4 => simpa using hb
    case c5 => simp
    intro v' w1 hown hg hnil hat
    go_wp2_with fail
    go_ret
    refine ⟨v', rfl, hown, ?_, ((Below.refl w.heap.size w).alloc (Nat.le_refl _) _).grown hg (by simp) (by simp [Value.ownBlock])⟩
    exact ⟨fun h => (hnil h).elim, fun h => by cases h⟩

end Go.Proofs.Ytanhdklaponekaa
