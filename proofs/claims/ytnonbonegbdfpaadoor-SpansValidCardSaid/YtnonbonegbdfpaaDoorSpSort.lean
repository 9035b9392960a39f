/- slices.SortFunc of a row of edits of the call's own, by spans.order. -/
import Derived.Test.YtnonbonegbdfpaaDoorSpOrd
import Derived.Test.YtnonbonegbdfpaaDoorSpCompact
import Derived.Test.YtnonbonegbdfpaaDoorShelf
namespace Go.Proofs.YtnonbonegbdfpaaDoor
open Go Go.RowKit Go.Shelf Go.Lib Go.Sort

instance : Inhabited Ed := ⟨dE⟩

theorem own_setAll {base g cap n size : Nat} {e : TypeId} : ∀ (vs : List Value) (o : Nat) (w : World) (xs : List Value), w.ownsRow base e size (.slice (some ⟨g, 0, none⟩) n cap) n xs →
    ∃ ys, (w.setCells g o vs).ownsRow base e size (.slice (some ⟨g, 0, none⟩) n cap) n ys ∧ ys.length = xs.length ∧ (∀ j, j < o → ys[j]? = xs[j]?) ∧ (∀ j, j < vs.length → o + j < xs.length → ys[o + j]? = vs[j]?)
  | [], o, w, xs, h => ⟨xs, h, rfl, fun _ _ => rfl, fun j hj => absurd hj (by simp)⟩
  | v :: vs, o, w, xs, h => by
    obtain ⟨ys, h1, h2, h3, h4⟩ := own_setAll vs (o + 1) _ _ ((h.stored o v).1)
    refine ⟨ys, h1, by simpa using h2, fun j hj => ?_, fun j hj hx => ?_⟩
    · rw [h3 j (by omega), List.getElem?_set_ne (by omega)]
    · cases j with
      | zero => rw [Nat.add_zero, h3 o (by omega), List.getElem?_set_self (by simpa using hx)]; rfl
      | succ j =>
        have := h4 j (by simpa using hj) (by simp; omega)
        rw [show o + (j + 1) = o + 1 + j from by omega, this]; rfl

theorem flatK_flat (l : List Ed) : (flatK Ed.cs 4 l.toArray).toList = flat l := by
  apply List.ext_getElem?
  intro t
  by_cases ht : t < l.length * 4
  · have hi : t / 4 < l.length := by omega
    have hg := get_flatK Ed.cs 4 l.toArray t (by simpa using ht)
    rw [getElem!_pos _ t (by simpa using ht)] at hg
    rw [Array.getElem?_toList, Array.getElem?_eq_getElem (by simpa using ht), hg]
    rw [show l.toArray[t / 4]! = l[t / 4] from by rw [getElem!_pos _ _ (by simpa using hi)]; simp]
    obtain ⟨h0, h1, h2, h3⟩ := flat_at hi
    have hc : t % 4 = 0 ∨ t % 4 = 1 ∨ t % 4 = 2 ∨ t % 4 = 3 := by omega
    rcases hc with h | h | h | h
    · rw [show (flat l)[t]? = (flat l)[t / 4 * 4]? from by congr 1; omega, h0, h]; rfl
    · rw [show (flat l)[t]? = (flat l)[t / 4 * 4 + 1]? from by congr 1; omega, h1, h]; rfl
    · rw [show (flat l)[t]? = (flat l)[t / 4 * 4 + 2]? from by congr 1; omega, h2, h]; rfl
    · rw [show (flat l)[t]? = (flat l)[t / 4 * 4 + 3]? from by congr 1; omega, h3, h]; rfl
  · rw [List.getElem?_eq_none (by simp; omega), List.getElem?_eq_none (by rw [flat_len]; omega)]

theorem setMany_all {F0 F : Array Value} (h : F.size = F0.size) : setMany F0 0 F.toList = F := by
  apply Array.ext
  · simp [h]
  · intro t h1 h2
    have := get_setMany F.toList 0 F0 t (by simpa using h1)
    rw [if_pos ⟨by omega, by simpa using h2⟩] at this
    rw [getElem!_pos _ t h1] at this
    rw [this, Nat.sub_zero, getElem!_pos _ t (by simpa using h2)]
    simp

theorem below_grow (w : World) (os : Array Obj) : Below w.heap.size w (grow w os) :=
  ⟨rfl, rfl, rfl, by simp, fun k hk => by simp only [grow]; rw [Array.getElem?_append_left hk]⟩
theorem below_ahead (w : World) (n : Nat) : Below w.heap.size w (Sort.ahead w n) := ⟨rfl, rfl, rfl, Nat.le_refl _, fun _ _ => rfl⟩

/-- the edits in order -/
def srt (l : List Ed) : List Ed := l.mergeSort fun x y => !(ltOf ordE) y x

theorem order_lays (blk off size : Nat) (w : World) : CmpLays Tryd.prog 40 #[] Ed.cs 4 ordE blk off size w := fun m os dk _ x y => by
  have := order_calls (x := x) (y := y) (w := sortWorldK Ed.cs 4 w blk off m dk os)
  simpa [Ed.cs] using this

def SortRes (base : Nat) (v : Value) (l : List Ed) (w : World) (e : Ending) (w' : World) : Prop :=
  e = .returned (.tuple #[]) ∧ w'.ownsRow base 42 4 v l.length (flat (srt l)) ∧ Below base w w'

theorem sort_calls {base : Nat} {l : List Ed} {v : Value} {w : World} (hlim : l.length * 48 ≤ 140737488355328) (h : w.ownsRow base 42 4 v l.length (flat l)) (hb : base ≤ w.heap.size) :
    Calls Tryd.prog 39 #[v, .func (.func 40) #[] #[]] w (SortRes base v l w) := by
  by_cases h0 : l.length = 0
  · obtain ⟨A, c, rfl⟩ := own_form h
    have hn := AnyF.slices_SortFunc_none (P := Tryd.prog) Tryd.sortEd A c (.func (.func 40) #[] #[]) w
    change Calls Tryd.prog 39 _ _ _ at hn
    rw [h0]
    refine hn.mono ?_
    rintro e w' ⟨rfl, rfl⟩
    obtain rfl : l = [] := List.eq_nil_of_length_eq_zero h0
    exact ⟨rfl, by simpa [srt] using h, Below.refl _ _⟩
  obtain ⟨g, cap, rfl, -⟩ := h.form (by omega)
  have hgl := h.lt g rfl
  have eg : ∀ args w, (callFunc 40 args).run Tryd.prog w = .ok (.enter 40 args) w := enters_of Tryd.func40 (by kernel_rfl) rfl
  have hH : HoldsK Ed.cs 4 w g 0 l.toArray := fun j hj => by
    have hj' : j < l.length * 4 := by simpa using hj
    refine ⟨?_, h.frozenAt _⟩
    rw [Nat.zero_add, h.cellAt j hj', ← flatK_flat, Array.getElem?_toList, Array.getElem?_eq_getElem (by simpa using hj'), getElem!_pos _ j (by simpa using hj')]
    rfl
  have aE : ∀ w, (isAgg 42).run Tryd.prog w = .ok true w := fun w => by kernel_rfl
  have zE : ∀ w, (Go.sizeOf 42).run Tryd.prog w = .ok 4 w := fun w => by kernel_rfl
  have hs := AnyQ.slices_SortFunc_total (P := Tryd.prog) Tryd.sortEd 4 aE zE Ed.cs (fun _ => rfl) (fun x v hv => by simp only [Ed.cs, List.mem_cons, List.not_mem_nil, or_false] at hv; rcases hv with rfl | rfl | rfl | rfl <;> rfl)
    ordE swo_ordE 40 #[] g 0 cap l.toArray w eg (order_lays g 0 _ w) hH hgl.2 (by simp; omega) tot_ordE
  change Calls Tryd.prog 39 _ _ _ at hs
  rw [List.size_toArray] at hs
  refine hs.mono ?_
  rintro e w' ⟨rfl, n, os, rfl⟩
  have hl : (srt l).length = l.length := List.length_mergeSort _
  have e1 : putRowK Ed.cs 4 (Sort.ahead w n) g 0 (srt l).toArray = (Sort.ahead w n).setCells g 0 (flat (srt l)) := by
    have h1 := setCells_putRow (Sort.ahead w n) g 0 (flat (srt l)) 0 (flatK Ed.cs 4 l.toArray) (by rw [flat_len, hl]; simp)
    have h2 : putRow id (Sort.ahead w n) g 0 (flatK Ed.cs 4 l.toArray) = Sort.ahead w n := putRow_self id _ g 0 _ hH
    rw [h2, ← flatK_flat, setMany_all (by simp [hl])] at h1
    rw [← flatK_flat]
    exact h1.symm
  have h3 : (Sort.ahead w n).ownsRow base 42 4 (.slice (some ⟨g, 0, none⟩) l.length cap) l.length (flat l) := own_below h (below_ahead w n)
  obtain ⟨ys, g1, g2, g3, g4⟩ := own_setAll (flat (srt l)) 0 _ _ h3
  have e2 : ys = flat (srt l) := by
    apply List.ext_getElem?
    intro t
    by_cases ht : t < l.length * 4
    · have := g4 t (by rw [flat_len, hl]; exact ht) (by rw [flat_len]; omega)
      rwa [Nat.zero_add] at this
    · rw [List.getElem?_eq_none (by rw [g2, flat_len]; omega), List.getElem?_eq_none (by rw [flat_len, hl]; omega)]
  subst e2
  refine ⟨rfl, ?_, ?_⟩
  · unfold sortWorldK
    rw [show (List.mergeSort l.toArray.toList fun x y => !ltOf ordE y x).toArray = (srt l).toArray from rfl, e1]
    exact own_below g1 (below_grow _ _)
  · unfold sortWorldK
    rw [show (List.mergeSort l.toArray.toList fun x y => !ltOf ordE y x).toArray = (srt l).toArray from rfl, e1]
    refine Below.trans (below_setCells _ _ _ ((below_ahead w n).mono hb) hgl.1) ((below_grow _ _).mono ?_)
    rw [size_setCells]; exact hb
end Go.Proofs.YtnonbonegbdfpaaDoor
