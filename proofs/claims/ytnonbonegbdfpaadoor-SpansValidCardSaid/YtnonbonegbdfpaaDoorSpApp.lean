/- spans.Apply, at any files and edits within bounds. -/
import Derived.Test.YtnonbonegbdfpaaDoorSpApply
import Derived.Test.YtnonbonegbdfpaaDoorSpSafe
namespace Go.Proofs.YtnonbonegbdfpaaDoor
open Go Go.RowKit

theorem sumB_all (c : List Ed) : sumB c c.length = (c.map fun x => x.tx.size).sum := by
  have h : ((List.range c.length).map fun k => (backE c k).tx.size) = (c.map fun x => x.tx.size).reverse := by
    apply List.ext_getElem
    · simp
    · intro i h1 h2
      simp only [List.length_map, List.length_range] at h1
      rw [List.getElem_map, List.getElem_range, List.getElem_reverse, List.getElem_map, backE_at (by omega)]
      simp only [List.length_map]
  unfold sumB
  rw [h, List.sum_reverse]
def txS (l : List Ed) : Nat := (l.map fun x => x.tx.size).sum
theorem sub_sum : ∀ {l m : List Nat}, l.Sublist m → l.sum ≤ m.sum
  | _, _, .slnil => Nat.le_refl _
  | _, _, .cons a h => by have := sub_sum h; simp; omega
  | _, _, .cons_cons a h => by have := sub_sum h; simp; omega
theorem sortd_txS (l : List Ed) : sumB (sortd l) (sortd l).length ≤ txS l := by
  rw [sumB_all]
  refine Nat.le_trans (sub_sum ((sortd_sub l).map _)) ?_
  exact Nat.le_of_eq (((List.mergeSort_perm l _).map _).sum_nat)
theorem sortd_mem {l : List Ed} {x : Ed} (h : x ∈ sortd l) : x ∈ l := (List.mergeSort_perm l _).mem_iff.1 ((sortd_sub l).subset h)
theorem apply_ok {fs : List Fi} {l : List Ed} {v u : Value} {w : World} {S : Nat → Prop} (hf : Row w S 2 v fs.length (flatF fs)) (hl : Row w S 4 u l.length (flat l)) (hS : Old S w)
    (hb1 : fs.length * 32 ≤ 140737488355328) (hb2 : l.length * 48 ≤ 140737488355328) (hp : ∀ f ∈ fs, f.p.size ≤ maxLen) (hq : ∀ x ∈ l, x.p.size ≤ maxLen) (hsz : ∀ f ∈ fs, f.tx.size + txS l ≤ 140737488355328) :
    Calls Tryd.prog 17 #[v, u] w (ApplyRes fs l w) := by
  refine apply_calls hf hl hS (fun hok => safe_of (sortd_pw l) hok (fun i hi => ?_)) hb1 hb2 (fun i hi => ?_) (fun k hk => ?_)
  · have h1 := sortd_txS l
    have h2 := hsz fs[i] (List.getElem_mem hi)
    rw [fAt_at hi]; omega
  · rw [fAt_at hi]; exact hp _ (List.getElem_mem hi)
  · rw [backE_at (by omega)]; exact hq _ (sortd_mem (List.getElem_mem _))
end Go.Proofs.YtnonbonegbdfpaaDoor
