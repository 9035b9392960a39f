/- slices.Clone at []string, []bool, []api.Type: the clone is a new row of the same cells; nil stays nil. -/
import Derived.Test.YtanhdklaponekaaApp
import Derived.Test.YtanhdklaponekaaProg
namespace Go.Proofs.Ytanhdklaponekaa
open Go Go.RowKit

theorem info_strs : (Try.prog.info? 9).map (fun i => (i.zero, i.size, i.bytes)) = some (some (.string ByteArray.empty), 1, 16) := by kernel_rfl
theorem clone_strs (w : World) (S : Nat → Prop) (v : Value) (n : Nat) (xs : List Value) (h : Row w S 1 v n xs) (hS : Old S w) (h1 : ∀ u ∈ xs, u.oneCell' = true)
    (hb : n * 16 ≤ 140737488355328) : Calls Try.prog 42 #[v] w (OwnRes w 9 1 n xs (v = .slice none 0 0)) := by
  obtain ⟨i0, hi, hz0, hz1, hz2⟩ := info_parts info_strs
  obtain ⟨A, cap, hv, hlen⟩ := h.form
  have hcap := h
  rcases A with _ | ad
  · obtain ⟨hl, A, c, e, hmc, hcm, h0, _⟩ := hcap
    rw [hv] at e; cases e
    obtain rfl : cap = 0 := h0 rfl
    obtain rfl : n = 0 := by omega
    obtain rfl : xs = [] := List.eq_nil_of_length_eq_zero (by simpa using hl)
    subst hv
    clear h h0 hl h1 hS hi hz0 hz1 hz2 hb
    have heq := fun wx : World => Lib.run_eql_slice_nil (P := Try.prog) wx 22 9 none 0 0 0 0 Try.underlying22
    simp only [Option.isNone] at heq
    go_enter Try.func42, Try.ntmps42
    go_wp2_with fail
    go_ret
    exact ⟨_, rfl, World.ownsRow_nil _ _ _ _, by simp, Below.refl _ _⟩
  · subst hv
    have heq := fun wx : World => Lib.run_eql_slice_nil (P := Try.prog) wx 22 9 (some ad) n cap 0 0 Try.underlying22
    simp only [Option.isNone] at heq
    have H := Lib.hid h
    have HS := Lib.hid hS
    have H1 := Lib.hid h1
    have hmx : n ≤ maxLen := by obtain ⟨hl, A, c, e, hmc, hcm, h0, _⟩ := hcap; cases e; omega
    have HM := Lib.hid hmx
    clear h hcap hS h1 hmx
    go_enter Try.func42, Try.ntmps42
    go_wp2_with (at_builtin; refine wpList_append_row _ rfl _ _ 22 rfl w.heap.size 9 i0 _ 1 16 Try.underlying22 hi hz0 hz1 hz2 rfl (by omega) (.slice (some ⟨w.heap.size, 0, none⟩) 0 0) 0 [] rfl ?c1 S (.slice (some ad) n cap) n xs rfl ?c2 H1.out ?c3 ?c4 ?c5 ?_)
    case c1 => exact World.ownsRow_lit w #[] 0 (Nat.le_refl _) (Nat.zero_le _) rfl
    case c2 => exact H.out.keep (SameOn.of_below ((Below.refl w.heap.size w).alloc (Nat.le_refl _) _) HS.out)
    case c3 => have := HM.out; omega
    case c4 => simpa using hb
    case c5 => simp
    intro v' w1 hown hg hnil hat
    go_wp2_with fail
    go_ret
    refine ⟨v', rfl, hown, ?_, ((Below.refl w.heap.size w).alloc (Nat.le_refl _) _).grown hg (by simp) (by simp [Value.ownBlock])⟩
    exact ⟨fun h => (hnil h).elim, fun h => by cases h⟩

theorem info_bools : (Try.prog.info? 4).map (fun i => (i.zero, i.size, i.bytes)) = some (some (.bool false), 1, 1) := by kernel_rfl
theorem clone_bools (w : World) (S : Nat → Prop) (v : Value) (n : Nat) (xs : List Value) (h : Row w S 1 v n xs) (hS : Old S w) (h1 : ∀ u ∈ xs, u.oneCell' = true)
    (hb : n * 1 ≤ 140737488355328) : Calls Try.prog 43 #[v] w (OwnRes w 4 1 n xs (v = .slice none 0 0)) := by
  obtain ⟨i0, hi, hz0, hz1, hz2⟩ := info_parts info_bools
  obtain ⟨A, cap, hv, hlen⟩ := h.form
  have hcap := h
  rcases A with _ | ad
  · obtain ⟨hl, A, c, e, hmc, hcm, h0, _⟩ := hcap
    rw [hv] at e; cases e
    obtain rfl : cap = 0 := h0 rfl
    obtain rfl : n = 0 := by omega
    obtain rfl : xs = [] := List.eq_nil_of_length_eq_zero (by simpa using hl)
    subst hv
    clear h h0 hl h1 hS hi hz0 hz1 hz2 hb
    have heq := fun wx : World => Lib.run_eql_slice_nil (P := Try.prog) wx 23 4 none 0 0 0 0 Try.underlying23
    simp only [Option.isNone] at heq
    go_enter Try.func43, Try.ntmps43
    go_wp2_with fail
    go_ret
    exact ⟨_, rfl, World.ownsRow_nil _ _ _ _, by simp, Below.refl _ _⟩
  · subst hv
    have heq := fun wx : World => Lib.run_eql_slice_nil (P := Try.prog) wx 23 4 (some ad) n cap 0 0 Try.underlying23
    simp only [Option.isNone] at heq
    have H := Lib.hid h
    have HS := Lib.hid hS
    have H1 := Lib.hid h1
    have hmx : n ≤ maxLen := by obtain ⟨hl, A, c, e, hmc, hcm, h0, _⟩ := hcap; cases e; omega
    have HM := Lib.hid hmx
    clear h hcap hS h1 hmx
    go_enter Try.func43, Try.ntmps43
    go_wp2_with (at_builtin; refine wpList_append_row _ rfl _ _ 23 rfl w.heap.size 4 i0 _ 1 1 Try.underlying23 hi hz0 hz1 hz2 rfl (by omega) (.slice (some ⟨w.heap.size, 0, none⟩) 0 0) 0 [] rfl ?c1 S (.slice (some ad) n cap) n xs rfl ?c2 H1.out ?c3 ?c4 ?c5 ?_)
    case c1 => exact World.ownsRow_lit w #[] 0 (Nat.le_refl _) (Nat.zero_le _) rfl
    case c2 => exact H.out.keep (SameOn.of_below ((Below.refl w.heap.size w).alloc (Nat.le_refl _) _) HS.out)
    case c3 => have := HM.out; omega
    case c4 => simpa using hb
    case c5 => simp
    intro v' w1 hown hg hnil hat
    go_wp2_with fail
    go_ret
    refine ⟨v', rfl, hown, ?_, ((Below.refl w.heap.size w).alloc (Nat.le_refl _) _).grown hg (by simp) (by simp [Value.ownBlock])⟩
    exact ⟨fun h => (hnil h).elim, fun h => by cases h⟩

theorem info_types : (Try.prog.info? 26).map (fun i => (i.zero, i.size, i.bytes)) = some (some (.agg #[.int .i64 0, .string ByteArray.empty, .int .i64 0, .bool false, .slice none 0 0, .slice none 0 0, .slice none 0 0]), 7, 112) := by kernel_rfl
theorem clone_types (w : World) (S : Nat → Prop) (v : Value) (n : Nat) (xs : List Value) (h : Row w S 7 v n xs) (hS : Old S w) (h1 : ∀ u ∈ xs, u.oneCell' = true)
    (hb : n * 112 ≤ 140737488355328) : Calls Try.prog 44 #[v] w (OwnRes w 26 7 n xs (v = .slice none 0 0)) := by
  obtain ⟨i0, hi, hz0, hz1, hz2⟩ := info_parts info_types
  obtain ⟨A, cap, hv, hlen⟩ := h.form
  have hcap := h
  rcases A with _ | ad
  · obtain ⟨hl, A, c, e, hmc, hcm, h0, _⟩ := hcap
    rw [hv] at e; cases e
    obtain rfl : cap = 0 := h0 rfl
    obtain rfl : n = 0 := by omega
    obtain rfl : xs = [] := List.eq_nil_of_length_eq_zero (by simpa using hl)
    subst hv
    clear h h0 hl h1 hS hi hz0 hz1 hz2 hb
    have heq := fun wx : World => Lib.run_eql_slice_nil (P := Try.prog) wx 24 26 none 0 0 0 0 Try.underlying24
    simp only [Option.isNone] at heq
    go_enter Try.func44, Try.ntmps44
    go_wp2_with fail
    go_ret
    exact ⟨_, rfl, World.ownsRow_nil _ _ _ _, by simp, Below.refl _ _⟩
  · subst hv
    have heq := fun wx : World => Lib.run_eql_slice_nil (P := Try.prog) wx 24 26 (some ad) n cap 0 0 Try.underlying24
    simp only [Option.isNone] at heq
    have H := Lib.hid h
    have HS := Lib.hid hS
    have H1 := Lib.hid h1
    have hmx : n ≤ maxLen := by obtain ⟨hl, A, c, e, hmc, hcm, h0, _⟩ := hcap; cases e; omega
    have HM := Lib.hid hmx
    clear h hcap hS h1 hmx
    go_enter Try.func44, Try.ntmps44
    go_wp2_with (at_builtin; refine wpList_append_row _ rfl _ _ 24 rfl w.heap.size 26 i0 _ 7 112 Try.underlying24 hi hz0 hz1 hz2 rfl (by omega) (.slice (some ⟨w.heap.size, 0, none⟩) 0 0) 0 [] rfl ?c1 S (.slice (some ad) n cap) n xs rfl ?c2 H1.out ?c3 ?c4 ?c5 ?_)
    case c1 => exact World.ownsRow_lit w #[] 0 (Nat.le_refl _) (Nat.zero_le _) rfl
    case c2 => exact H.out.keep (SameOn.of_below ((Below.refl w.heap.size w).alloc (Nat.le_refl _) _) HS.out)
    case c3 => have := HM.out; omega
    case c4 => simpa using hb
    case c5 => simp
    intro v' w1 hown hg hnil hat
    go_wp2_with fail
    go_ret
    refine ⟨v', rfl, hown, ?_, ((Below.refl w.heap.size w).alloc (Nat.le_refl _) _).grown hg (by simp) (by simp [Value.ownBlock])⟩
    exact ⟨fun h => (hnil h).elim, fun h => by cases h⟩

end Go.Proofs.Ytanhdklaponekaa
