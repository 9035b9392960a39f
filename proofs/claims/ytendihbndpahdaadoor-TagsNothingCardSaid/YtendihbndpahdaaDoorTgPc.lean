/- tags.pieces at recastlaw6.awake's line: the walk. -/
import Derived.Test.YtendihbndpahdaaDoorTgPieces
import Derived.LoopN
namespace Go.Proofs.YtendihbndpahdaaDoor
open Go Go.RowKit

theorem info_str : (Tryd.prog.info? 9).map (fun i => (i.zero, i.size, i.bytes)) = some (some (.string ByteArray.empty), 1, 16) := by kernel_rfl
theorem own_ge {w : World} {base : Nat} {e : TypeId} {size n : Nat} {v : Value} {xs : List Value} (h : w.ownsRow base e size v n xs) : ∀ k, v.ownBlock = some k → base ≤ k := by
  intro k hk
  rcases h.2 with ⟨rfl, rfl⟩ | ⟨g, cap, cur, rfl, hg, _⟩
  · cases hk
  · simp [Value.ownBlock] at hk; omega

set_option maxRecDepth 100000 in
set_option maxHeartbeats 8000000 in
theorem pieces_calls {w : World} : Calls Tryd.prog 20 #[.string ⟨#[97, 32, 38, 38, 32, 33, 98]⟩] w fun e w' =>
    ∃ v, e = .returned (.tuple #[v, .bool true]) ∧ w'.ownsRow w.heap.size 9 1 v 4 [.string ⟨#[97]⟩, .string ⟨#[38, 38]⟩, .string ⟨#[33]⟩, .string ⟨#[98]⟩] ∧ Below w.heap.size w w' := by
  obtain ⟨i0, hi, iz0, iz1, iz2⟩ : ∃ i, Tryd.prog.info? 9 = some i ∧ i.zero = some (.string ByteArray.empty) ∧ i.size = 1 ∧ i.bytes = 16 := by
    have := info_str
    revert this
    cases h : Tryd.prog.info? 9 with
    | none => intro h; cases h
    | some i => intro h; simp at h; exact ⟨i, rfl, h.1, h.2.1, h.2.2⟩
  have hE7_0_1 : (⟨#[97, 32, 38, 38, 32, 33, 98]⟩ : ByteArray).extract 0 1 = ⟨#[97]⟩ := by rfl
  have hE7_1_7 : (⟨#[97, 32, 38, 38, 32, 33, 98]⟩ : ByteArray).extract 1 7 = ⟨#[32, 38, 38, 32, 33, 98]⟩ := by rfl
  have hE5_0_2 : (⟨#[38, 38, 32, 33, 98]⟩ : ByteArray).extract 0 2 = ⟨#[38, 38]⟩ := by rfl
  have hE5_2_5 : (⟨#[38, 38, 32, 33, 98]⟩ : ByteArray).extract 2 5 = ⟨#[32, 33, 98]⟩ := by rfl
  have hE2_0_1 : (⟨#[33, 98]⟩ : ByteArray).extract 0 1 = ⟨#[33]⟩ := by rfl
  have hE2_1_2 : (⟨#[33, 98]⟩ : ByteArray).extract 1 2 = ⟨#[98]⟩ := by rfl
  have hE1_0_1 : (⟨#[98]⟩ : ByteArray).extract 0 1 = ⟨#[98]⟩ := by rfl
  have hE1_1_1 : (⟨#[98]⟩ : ByteArray).extract 1 1 = ⟨#[]⟩ := by rfl
  go_enter Tryd.func20, Tryd.ntmps20
  go_wp2_with fail
  refine wp_loop_rounds 5 ?_
  have HO0 : Hid (w.ownsRow w.heap.size 9 1 (.slice none 0 0) 0 []) := World.ownsRow_nil _ _ _ _
  have HB0 : Hid (Below w.heap.size w w) := Below.refl _ _
  rw [rounds_succ]
  go_wp2_with fail
  refine (tl_0 _).mono ?_
  rintro e wx ⟨rfl, hw⟩
  subst wx
  go_wp2_with fail
  refine wp_loop_rounds 2 ?_
  rw [rounds_succ]
  go_wp2_with fail
  rw [rounds_succ]
  go_wp2_with fail
  refine ident_a.mono ?_
  rintro e wx ⟨rfl, hw⟩
  subst wx
  go_wp2_with (at_builtin; (refine wpList_append_row _ rfl _ _ 22 rfl w.heap.size 9 i0 _ 1 16 Tryd.underlying22 hi iz0 iz1 iz2 rfl (by omega) (.slice none 0 0) 0 [] rfl ?c1 (fun b => b = w.heap.size) (.slice (some ⟨w.heap.size, 0, none⟩) 1 1) 1 [.string ⟨#[97]⟩] rfl ?c2 ?c3 ?c4 ?c5 ?c6 ?_))
  case c1 => exact own_below HO0.out ((Below.refl _ _).alloc (Nat.le_refl _) _)
  case c2 => exact row_new
  case c3 => intro u hu; simp at hu; subst hu; rfl
  case c4 => unfold maxLen; omega
  case c5 => omega
  case c6 => simp
  intro v1 wr1 ho hg _ _
  have HO1 : Hid (wr1.ownsRow w.heap.size 9 1 v1 1 [.string ⟨#[97]⟩]) := ho
  have HB1 : Hid (Below w.heap.size w wr1) := (HB0.out.alloc HB0.out.size _).grown hg (by simp) (own_ge (own_below HO0.out ((Below.refl _ _).alloc (Nat.le_refl _) (.cells #[.string ⟨#[97]⟩] 9))))
  clear ho hg HO0 HB0
  go_wp2_with fail
  rw [rounds_succ]
  go_wp2_with fail
  refine (tl_1 _).mono ?_
  rintro e wx ⟨rfl, hw⟩
  subst wx
  go_wp2_with fail
  refine wp_loop_rounds 1 ?_
  rw [rounds_succ]
  go_wp2_with fail
  refine (hp_1 _).mono ?_
  rintro e wx ⟨rfl, hw⟩
  subst wx
  go_wp2_with (at_builtin; (refine wpList_append_row _ rfl _ _ 22 rfl w.heap.size 9 i0 _ 1 16 Tryd.underlying22 hi iz0 iz1 iz2 rfl (by omega) v1 1 [.string ⟨#[97]⟩] rfl ?c1 (fun b => b = wr1.heap.size) (.slice (some ⟨wr1.heap.size, 0, none⟩) 1 1) 1 [.string ⟨#[38, 38]⟩] rfl ?c2 ?c3 ?c4 ?c5 ?c6 ?_))
  case c1 => exact own_below HO1.out ((Below.refl _ _).alloc (Nat.le_refl _) _)
  case c2 => exact row_new
  case c3 => intro u hu; simp at hu; subst hu; rfl
  case c4 => unfold maxLen; omega
  case c5 => omega
  case c6 => have := HB1.out.size; simp; omega
  intro v2 wr2 ho hg _ _
  have HO2 : Hid (wr2.ownsRow w.heap.size 9 1 v2 2 [.string ⟨#[97]⟩, .string ⟨#[38, 38]⟩]) := ho
  have HB2 : Hid (Below w.heap.size w wr2) := (HB1.out.alloc HB1.out.size _).grown hg (by have := HB1.out.size; simp; omega) (own_ge (own_below HO1.out ((Below.refl _ _).alloc (Nat.le_refl _) (.cells #[.string ⟨#[38, 38]⟩] 9))))
  clear ho hg HO1 HB1
  go_wp2_with fail
  rw [rounds_succ]
  go_wp2_with fail
  refine (tl_2 _).mono ?_
  rintro e wx ⟨rfl, hw⟩
  subst wx
  go_wp2_with fail
  refine wp_loop_rounds 1 ?_
  rw [rounds_succ]
  go_wp2_with fail
  refine (hp_2 _).mono ?_
  rintro e wx ⟨rfl, hw⟩
  subst wx
  go_wp2_with fail
  refine (hp_3 _).mono ?_
  rintro e wx ⟨rfl, hw⟩
  subst wx
  go_wp2_with fail
  refine (ib_0 _).mono ?_
  rintro e wx ⟨rfl, hw⟩
  subst wx
  go_wp2_with (at_builtin; (refine wpList_append_row _ rfl _ _ 22 rfl w.heap.size 9 i0 _ 1 16 Tryd.underlying22 hi iz0 iz1 iz2 rfl (by omega) v2 2 [.string ⟨#[97]⟩, .string ⟨#[38, 38]⟩] rfl ?c1 (fun b => b = wr2.heap.size) (.slice (some ⟨wr2.heap.size, 0, none⟩) 1 1) 1 [.string ⟨#[33]⟩] rfl ?c2 ?c3 ?c4 ?c5 ?c6 ?_))
  case c1 => exact own_below HO2.out ((Below.refl _ _).alloc (Nat.le_refl _) _)
  case c2 => exact row_new
  case c3 => intro u hu; simp at hu; subst hu; rfl
  case c4 => unfold maxLen; omega
  case c5 => omega
  case c6 => have := HB2.out.size; simp; omega
  intro v3 wr3 ho hg _ _
  have HO3 : Hid (wr3.ownsRow w.heap.size 9 1 v3 3 [.string ⟨#[97]⟩, .string ⟨#[38, 38]⟩, .string ⟨#[33]⟩]) := ho
  have HB3 : Hid (Below w.heap.size w wr3) := (HB2.out.alloc HB2.out.size _).grown hg (by have := HB2.out.size; simp; omega) (own_ge (own_below HO2.out ((Below.refl _ _).alloc (Nat.le_refl _) (.cells #[.string ⟨#[33]⟩] 9))))
  clear ho hg HO2 HB2
  go_wp2_with fail
  rw [rounds_succ]
  go_wp2_with fail
  refine (tl_3 _).mono ?_
  rintro e wx ⟨rfl, hw⟩
  subst wx
  go_wp2_with fail
  refine wp_loop_rounds 2 ?_
  rw [rounds_succ]
  go_wp2_with fail
  rw [rounds_succ]
  go_wp2_with fail
  refine ident_b.mono ?_
  rintro e wx ⟨rfl, hw⟩
  subst wx
  go_wp2_with (at_builtin; (refine wpList_append_row _ rfl _ _ 22 rfl w.heap.size 9 i0 _ 1 16 Tryd.underlying22 hi iz0 iz1 iz2 rfl (by omega) v3 3 [.string ⟨#[97]⟩, .string ⟨#[38, 38]⟩, .string ⟨#[33]⟩] rfl ?c1 (fun b => b = wr3.heap.size) (.slice (some ⟨wr3.heap.size, 0, none⟩) 1 1) 1 [.string ⟨#[98]⟩] rfl ?c2 ?c3 ?c4 ?c5 ?c6 ?_))
  case c1 => exact own_below HO3.out ((Below.refl _ _).alloc (Nat.le_refl _) _)
  case c2 => exact row_new
  case c3 => intro u hu; simp at hu; subst hu; rfl
  case c4 => unfold maxLen; omega
  case c5 => omega
  case c6 => have := HB3.out.size; simp; omega
  intro v4 wr4 ho hg _ _
  have HO4 : Hid (wr4.ownsRow w.heap.size 9 1 v4 4 [.string ⟨#[97]⟩, .string ⟨#[38, 38]⟩, .string ⟨#[33]⟩, .string ⟨#[98]⟩]) := ho
  have HB4 : Hid (Below w.heap.size w wr4) := (HB3.out.alloc HB3.out.size _).grown hg (by have := HB3.out.size; simp; omega) (own_ge (own_below HO3.out ((Below.refl _ _).alloc (Nat.le_refl _) (.cells #[.string ⟨#[98]⟩] 9))))
  clear ho hg HO3 HB3
  go_wp2_with fail
  rw [rounds_succ]
  go_wp2_with fail
  refine (tl_4 _).mono ?_
  rintro e wx ⟨rfl, hw⟩
  subst wx
  go_wp2_with fail
  exact bodyPost_ret (v := .tuple #[v4, .bool true]) (by simp [results, Tryd.f20, go_sem]) rfl ⟨v4, rfl, HO4.out, HB4.out⟩
end Go.Proofs.YtendihbndpahdaaDoor
