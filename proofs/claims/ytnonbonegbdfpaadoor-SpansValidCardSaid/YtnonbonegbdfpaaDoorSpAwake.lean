/- recastlaw1.awake: true. -/
import Derived.Test.YtnonbonegbdfpaaDoorSpApp
import Derived.Test.YtnonbonegbdfpaaDoorSpPlace
namespace Go.Proofs.YtnonbonegbdfpaaDoor
open Go Go.RowKit Go.Sort Go.Shelf Go.Lib

def awF : List Fi := [⟨⟨#[97]⟩, ⟨#[97, 98, 99, 100, 101, 102]⟩⟩]
def awE : List Ed := [⟨⟨#[97]⟩, 1, 3, ⟨#[88]⟩⟩, ⟨⟨#[97]⟩, 4, 4, ⟨#[89, 89]⟩⟩]
theorem awE_lt : ordE ⟨⟨#[97]⟩, 4, 4, ⟨#[89, 89]⟩⟩ ⟨⟨#[97]⟩, 1, 3, ⟨#[88]⟩⟩ = 1 := by
  have h : cmpS ⟨#[97]⟩ ⟨#[97]⟩ = 0 := by
    rcases cmpS_cases ⟨#[97]⟩ ⟨#[97]⟩ with ⟨h, _⟩ | ⟨_, h⟩ | ⟨h, _⟩
    · exact absurd h (List.lt_irrefl _)
    · exact h
    · exact absurd h (List.lt_irrefl _)
  simp [ordE, h, cmpI]
theorem awE_srt : srt awE = awE := by
  unfold srt
  refine List.mergeSort_of_pairwise ?_
  simp [awE, ltOf, awE_lt]
theorem awE_sortd : sortd awE = awE := by
  unfold sortd
  rw [awE_srt]
  simp [cpt, cptN, awE, eAt, eqE]
theorem awE_ok : okAll awE = true := by
  simp [okAll, okAt, awE, eAt, List.range_succ]
theorem aw_apply : applyP awF awE = some [⟨⟨#[97]⟩, ⟨#[97, 88, 100, 89, 89, 101, 102]⟩⟩] := by
  unfold applyP
  rw [awE_sortd, awE_ok]
  rfl
theorem aw_line : pln ⟨#[97, 98, 10, 99]⟩ 3 = 2 := by rfl
theorem aw_col : pcol ⟨#[97, 98, 10, 99]⟩ 3 = 1 := by rfl
theorem row_blk {w : World} {g : Nat} {t : TypeId} {cs : List Value} {n size : Nat} {S : Nat → Prop} (hb : Blk w g t cs.toArray) (hl : cs.length = n * size) (hn : n ≤ maxLen) (hg : S g) : Row w S size (.slice (some ⟨g, 0, none⟩) n n) n cs :=
  ⟨hl, some ⟨g, 0, none⟩, n, rfl, Nat.le_refl _, hn, (fun e => by cases e), fun _ => ⟨g, 0, rfl, hg, fun j u hu => by rw [Nat.zero_add, hb.cell j]; simpa using hu⟩⟩

set_option maxHeartbeats 2000000 in
set_option maxRecDepth 100000 in
theorem awake_calls {w : World} : Calls Tryd.prog 8 #[] w fun e w' => e = .returned (.bool true) ∧ Below w.heap.size w w' := by
  have HP : Hid (∀ w, Calls Tryd.prog 10 #[.string ⟨#[97, 98, 10, 99]⟩, .int .i64 3] w fun e w' => e = .returned (.tuple #[.int .i64 2, .int .i64 1]) ∧ w' = w) := by
    intro w
    have := place_calls (s := ⟨#[97, 98, 10, 99]⟩) (i := 3) (w := w) (by decide)
    rw [aw_line, aw_col] at this
    exact this
  go_enter Tryd.func8, Tryd.ntmps8
  go_wp2_with (go_at_call 10; refine (HP.out _).mono ?_; rintro e w' ⟨rfl, rfl⟩)
  have hA := (Blk.new w' 40 #[.string ⟨#[97]⟩, .string ⟨#[97, 98, 99, 100, 101, 102]⟩]).alloc (.cells #[.string ⟨#[97]⟩, .int .i64 1, .int .i64 3, .string ⟨#[88]⟩, .string ⟨#[97]⟩, .int .i64 4, .int .i64 4, .string ⟨#[89, 89]⟩] 42)
  have hB := Blk.new (w'.alloc (.cells #[.string ⟨#[97]⟩, .string ⟨#[97, 98, 99, 100, 101, 102]⟩] 40)) 42 #[.string ⟨#[97]⟩, .int .i64 1, .int .i64 3, .string ⟨#[88]⟩, .string ⟨#[97]⟩, .int .i64 4, .int .i64 4, .string ⟨#[89, 89]⟩]
  rw [World.size_alloc] at hB
  have HW : Hid (Below w'.heap.size w' ((w'.alloc (.cells #[.string ⟨#[97]⟩, .string ⟨#[97, 98, 99, 100, 101, 102]⟩] 40)).alloc (.cells #[.string ⟨#[97]⟩, .int .i64 1, .int .i64 3, .string ⟨#[88]⟩, .string ⟨#[97]⟩, .int .i64 4, .int .i64 4, .string ⟨#[89, 89]⟩] 42))) :=
    ((Below.refl _ _).alloc (Nat.le_refl _) _).alloc (by simp) _
  have hSz : ((w'.alloc (.cells #[.string ⟨#[97]⟩, .string ⟨#[97, 98, 99, 100, 101, 102]⟩] 40)).alloc (.cells #[.string ⟨#[97]⟩, .int .i64 1, .int .i64 3, .string ⟨#[88]⟩, .string ⟨#[97]⟩, .int .i64 4, .int .i64 4, .string ⟨#[89, 89]⟩] 42)).heap.size = w'.heap.size + 2 := by simp
  refine (apply_ok (fs := awF) (l := awE) (S := fun b => b < w'.heap.size + 2) (row_blk hA rfl (by decide) (by omega)) (row_blk hB rfl (by decide) (by omega)) (fun b hb => by rw [hSz]; exact hb)
    (by decide) (by decide) (by intro f hf; simp [awF] at hf; subst hf; decide) (by intro x hx; simp [awE] at hx; rcases hx with rfl | rfl <;> decide) (by intro f hf; simp [awF] at hf; subst hf; decide)).mono ?_
  rintro e w3 ⟨⟨gs, hgs, u, rfl, ho⟩ | ⟨hn, -⟩, hb⟩
  · rw [aw_apply] at hgs
    cases hgs
    obtain ⟨g, cp, rfl, -⟩ := ho.form (by simp)
    obtain ⟨-, o1⟩ := own_at2 ho (i := 0) (by simp) rfl
    have HB := Lib.hid (HW.out.trans (hb.mono (by rw [hSz]; omega)))
    clear ho hb hA hB HW HP
    simp only [List.length_cons, List.length_nil, Nat.zero_mul, Nat.zero_add, List.getElem_cons_zero] at o1 ⊢
    go_wp2_with fail
    go_ret
    exact ⟨by simp, HB.out⟩
  · rw [aw_apply] at hn; cases hn
end Go.Proofs.YtnonbonegbdfpaaDoor
