/- The order of edits is a total order. Plain Lean. -/
import Derived.Test.YtnonbonegbdfpaaDoorSpCmp
import Derived.Sort.Walk0
import Derived.Shelf.GgSortFunc.InsertionK
import Derived.Shelf.SlSortCmp.Insertion
namespace Go.Proofs.YtnonbonegbdfpaaDoor
open Go Go.RowKit Go.Shelf Go.Lib Go.Sort

theorem bytes_eq (a b : ByteArray) : (a.toList == b.toList) = decide (a = b) := by
  rw [Bool.eq_iff_iff]
  simp only [beq_iff_eq, decide_eq_true_eq]
  refine ⟨fun h => ?_, fun h => by rw [h]⟩
  rw [ByteArray.toList_eq, ByteArray.toList_eq] at h
  cases a; cases b; simp only [ByteArray.mk.injEq]; exact Array.toList_inj.1 h

/-- a weak order, told by a number's sign -/
structure Wk {α : Type} (c : α → α → Int) : Prop where
  anti : ∀ x y, c x y < 0 ↔ 0 < c y x
  t1 : ∀ x y z, c x y < 0 → c y z < 0 → c x z < 0
  t2 : ∀ x y z, c x y = 0 → c y z < 0 → c x z < 0
  t3 : ∀ x y z, c x y < 0 → c y z = 0 → c x z < 0
  t4 : ∀ x y z, c x y = 0 → c y z = 0 → c x z = 0
def lex {α : Type} (c d : α → α → Int) (x y : α) : Int := if c x y ≠ 0 then c x y else d x y
theorem Wk.lex {α : Type} {c d : α → α → Int} (hc : Wk c) (hd : Wk d) : Wk (lex c d) where
  anti x y := by
    have h1 := hc.anti x y; have h2 := hc.anti y x; have h3 := hd.anti x y; have h4 := hd.anti y x
    unfold Go.Proofs.YtnonbonegbdfpaaDoor.lex; split <;> split <;> omega
  t1 x y z := by
    have a1 := hc.t1 x y z; have a2 := hc.t2 x y z; have a3 := hc.t3 x y z; have a4 := hc.t4 x y z
    have b1 := hd.t1 x y z
    unfold Go.Proofs.YtnonbonegbdfpaaDoor.lex; split <;> split <;> split <;> omega
  t2 x y z := by
    have a1 := hc.t1 x y z; have a2 := hc.t2 x y z; have a3 := hc.t3 x y z; have a4 := hc.t4 x y z
    have b1 := hd.t2 x y z
    unfold Go.Proofs.YtnonbonegbdfpaaDoor.lex; split <;> split <;> split <;> omega
  t3 x y z := by
    have a1 := hc.t1 x y z; have a2 := hc.t2 x y z; have a3 := hc.t3 x y z; have a4 := hc.t4 x y z
    have b1 := hd.t3 x y z
    unfold Go.Proofs.YtnonbonegbdfpaaDoor.lex; split <;> split <;> split <;> omega
  t4 x y z := by
    have a1 := hc.t1 x y z; have a2 := hc.t2 x y z; have a3 := hc.t3 x y z; have a4 := hc.t4 x y z
    have b1 := hd.t4 x y z
    unfold Go.Proofs.YtnonbonegbdfpaaDoor.lex; split <;> split <;> split <;> omega
theorem Wk.on {α β : Type} {c : β → β → Int} (hc : Wk c) (f : α → β) : Wk (fun x y => c (f x) (f y)) :=
  ⟨fun _ _ => hc.anti _ _, fun _ _ _ => hc.t1 _ _ _, fun _ _ _ => hc.t2 _ _ _, fun _ _ _ => hc.t3 _ _ _, fun _ _ _ => hc.t4 _ _ _⟩
theorem wk_cmpI : Wk cmpI where
  anti x y := by unfold cmpI; (repeat' split) <;> omega
  t1 x y z := by unfold cmpI; (repeat' split) <;> omega
  t2 x y z := by unfold cmpI; (repeat' split) <;> omega
  t3 x y z := by unfold cmpI; (repeat' split) <;> omega
  t4 x y z := by unfold cmpI; (repeat' split) <;> omega
theorem cmpS_cases (x y : ByteArray) : (x.toList < y.toList ∧ cmpS x y = -1) ∨ (x.toList = y.toList ∧ cmpS x y = 0) ∨ (y.toList < x.toList ∧ cmpS x y = 1) := by
  unfold cmpS
  rw [bytesLess_eq]
  by_cases h1 : x.toList < y.toList
  · exact .inl ⟨h1, by simp [h1]⟩
  · by_cases h2 : x.toList = y.toList
    · exact .inr (.inl ⟨h2, by rw [h2]; simp [List.lt_irrefl]⟩)
    · refine .inr (.inr ⟨?_, by simp [h1, h2]⟩)
      rcases Classical.em (y.toList < x.toList) with h | h
      · exact h
      · exact absurd (List.le_antisymm (List.not_lt.1 h) (List.not_lt.1 h1)) h2
theorem wk_cmpS : Wk cmpS where
  anti x y := by
    rcases cmpS_cases x y with ⟨h, e⟩ | ⟨h, e⟩ | ⟨h, e⟩ <;> rcases cmpS_cases y x with ⟨h', e'⟩ | ⟨h', e'⟩ | ⟨h', e'⟩
    all_goals first
      | omega
      | exact absurd (List.lt_trans h h') (List.lt_irrefl _)
      | (rw [h'] at h; exact absurd h (List.lt_irrefl _))
      | (rw [h] at h'; exact absurd h' (List.lt_irrefl _))
  t1 x y z := by
    intro h1 h2
    rcases cmpS_cases x y with ⟨h, e⟩ | ⟨h, e⟩ | ⟨h, e⟩ <;> rcases cmpS_cases y z with ⟨h', e'⟩ | ⟨h', e'⟩ | ⟨h', e'⟩ <;> try omega
    rcases cmpS_cases x z with ⟨g, e2⟩ | ⟨g, e2⟩ | ⟨g, e2⟩
    · omega
    · rw [g] at h; exact absurd (List.lt_trans h h') (List.lt_irrefl _)
    · exact absurd (List.lt_trans (List.lt_trans h h') g) (List.lt_irrefl _)
  t2 x y z := by
    intro h1 h2
    rcases cmpS_cases x y with ⟨h, e⟩ | ⟨h, e⟩ | ⟨h, e⟩ <;> try omega
    unfold cmpS at h2 ⊢
    rw [h]; exact h2
  t3 x y z := by
    intro h1 h2
    rcases cmpS_cases y z with ⟨h, e⟩ | ⟨h, e⟩ | ⟨h, e⟩ <;> try omega
    unfold cmpS at h1 ⊢
    rw [← h]; exact h1
  t4 x y z := by
    intro h1 h2
    rcases cmpS_cases x y with ⟨h, e⟩ | ⟨h, e⟩ | ⟨h, e⟩ <;> try omega
    unfold cmpS at h2 ⊢
    rw [h]; exact h2

theorem toList_inj {x y : ByteArray} (h : x.toList = y.toList) : x = y := by
  have := bytes_eq x y
  rw [h] at this
  simpa using this.symm
theorem wk_ordE : Wk ordE :=
  (wk_cmpS.on Ed.p).lex ((wk_cmpI.on Ed.fr).lex ((wk_cmpI.on Ed.to).lex (wk_cmpS.on Ed.tx)))
theorem ordE_zero {x y : Ed} (h : ordE x y = 0) : x = y := by
  have hs : ∀ u v : ByteArray, cmpS u v = 0 → u = v := fun u v h => by
    rcases cmpS_cases u v with ⟨g, e⟩ | ⟨g, e⟩ | ⟨g, e⟩
    · omega
    · exact toList_inj g
    · omega
  have hi : ∀ u v : Int, cmpI u v = 0 → u = v := fun u v h => by
    unfold cmpI at h
    split at h
    · omega
    · split at h <;> omega
  obtain ⟨p, f, t, s⟩ := x
  obtain ⟨p', f', t', s'⟩ := y
  unfold ordE at h
  simp only at h
  split at h
  · omega
  · rename_i h1
    split at h
    · omega
    · rename_i h2
      split at h
      · omega
      · rename_i h3
        rw [hs p p' (by omega), hi f f' (by omega), hi t t' (by omega), hs s s' h]
theorem swo_ordE : SWO (ltOf ordE) where
  irrefl x := by
    have := wk_ordE.anti x x
    unfold ltOf; simp; omega
  trans x y z h1 h2 := by
    simp only [ltOf, decide_eq_true_eq] at *
    exact wk_ordE.t1 x y z h1 h2
  ntrans x y z h1 h2 := by
    simp only [ltOf, decide_eq_false_iff_not] at *
    have a1 := wk_ordE.t1 z y x; have a2 := wk_ordE.t2 z y x; have a3 := wk_ordE.t3 z y x; have a4 := wk_ordE.t4 z y x
    have b1 := wk_ordE.anti x y; have b2 := wk_ordE.anti y z; have b3 := wk_ordE.anti x z
    have b4 := wk_ordE.anti y x; have b5 := wk_ordE.anti z y; have b6 := wk_ordE.anti z x
    omega
theorem tot_ordE (x y : Ed) (h1 : ltOf ordE x y = false) (h2 : ltOf ordE y x = false) : x = y := by
  simp only [ltOf, decide_eq_false_iff_not] at *
  have b1 := wk_ordE.anti x y
  have b2 := wk_ordE.anti y x
  exact ordE_zero (by omega)
end Go.Proofs.YtnonbonegbdfpaaDoor
