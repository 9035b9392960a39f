/- No edits, and an edit that puts in what stands there, change nothing. Plain Lean. -/
import Derived.Test.YtnonbonegbdfpaaSpApp
import Derived.Test.YtnonbonegbdfpaaSpFits
namespace Go.Proofs.Ytnonbonegbdfpaa
open Go Go.RowKit Go.Sort Go.Shelf Go.Lib

def uniq (fs : List Fi) : Prop := ∀ i, i < fs.length → lookJ fs (fAt fs i).p i = none
theorem look_uniq {fs : List Fi} : ∀ {i : Nat}, (∀ k, k < i → (fAt fs k).p ≠ (fAt fs i).p) → ∀ j, j ≤ i → lookJ fs (fAt fs i).p j = none
  | _, _, 0, _ => rfl
  | i, h, j + 1, hj => by
    unfold lookJ
    rw [if_neg (h j (by omega))]
    exact look_uniq h j (by omega)
theorem apply_none {fs : List Fi} (h : uniq fs) : applyP fs [] = some fs := by
  have hs : sortd [] = [] := List.eq_nil_of_length_eq_zero (by have := sortd_len []; simpa using this)
  unfold applyP
  rw [dup_pre h, hs]
  rfl
theorem sortd_one (x : Ed) : sortd [x] = [x] := by
  have h : srt [x] = [x] := by unfold srt; exact List.mergeSort_singleton x
  unfold sortd
  rw [h]
  simp [cpt, cptN, eAt]
theorem look_first {fs : List Fi} (h : uniq fs) {p : ByteArray} (hp : (fAt fs 0).p = p) : ∀ {j : Nat}, 0 < j → j ≤ fs.length → lookJ fs p j = some 0
  | 1, _, _ => by unfold lookJ; rw [if_pos hp]
  | j + 2, _, hj => by
    have h1 := look_first h hp (j := j + 1) (by omega) (by omega)
    unfold lookJ
    rw [if_neg]
    · exact h1
    · intro e
      have := h (j + 1) (by omega)
      rw [e, h1] at this
      cases this
theorem joinB_self {t : ByteArray} {a b : Nat} (h1 : a ≤ b) (h2 : b ≤ t.size) : joinB [t.extract 0 a, t.extract a b, t.extract b t.size] = t := by
  have h : Lib.join [(t.extract 0 a).data.toList, (t.extract a b).data.toList, (t.extract b t.size).data.toList] [] = (t.extract 0 a).data.toList ++ ((t.extract a b).data.toList ++ (t.extract b t.size).data.toList) := by
    unfold Lib.join List.intercalate
    simp [List.intersperse]
  have he : ∀ a b : Nat, (t.extract a b).data.toList = (t.data.toList.drop a).take (b - a) := fun a b => by
    rw [ByteArray.data_extract, Array.toList_extract]
  have hl : t.data.toList.length = t.size := Array.length_toList
  have hx : (t.extract 0 a).data.toList ++ ((t.extract a b).data.toList ++ (t.extract b t.size).data.toList) = t.data.toList := by
    rw [he, he, he, List.drop_zero, Nat.sub_zero, List.take_of_length_le (l := t.data.toList.drop b) (by rw [List.length_drop]; omega)]
    have h3 : (t.data.toList.drop a).take (b - a) ++ t.data.toList.drop b = t.data.toList.drop a := by
      have := List.take_append_drop (b - a) (t.data.toList.drop a)
      rwa [List.drop_drop, show a + (b - a) = b from by omega] at this
    rw [h3, List.take_append_drop]
  simp only [joinB, List.map_cons, List.map_nil, h, hx]
theorem apply_same {fs : List Fi} (h : uniq fs) (h0 : 0 < fs.length) {a b : Nat} (h1 : a ≤ b) (h2 : b ≤ (fAt fs 0).tx.size) : applyP fs [⟨(fAt fs 0).p, a, b, (fAt fs 0).tx.extract a b⟩] = some fs := by
  have hok : okAll [⟨(fAt fs 0).p, a, b, (fAt fs 0).tx.extract a b⟩] = true := by
    simp [okAll, okAt, eAt, List.range_succ]; omega
  unfold applyP
  rw [dup_pre h, sortd_one, hok]
  show (match runK fs [⟨(fAt fs 0).p, a, b, (fAt fs 0).tx.extract a b⟩] 0 with | none => none | some gs => stepE fs (backE [⟨(fAt fs 0).p, a, b, (fAt fs 0).tx.extract a b⟩] 0) gs) = some fs
  show stepE fs ⟨(fAt fs 0).p, a, b, (fAt fs 0).tx.extract a b⟩ fs = some fs
  unfold stepE
  rw [look_first h rfl h0 (Nat.le_refl _)]
  simp only
  rw [if_pos (by omega)]
  congr 1
  have hs : spl (fAt fs 0).tx ⟨(fAt fs 0).p, a, b, (fAt fs 0).tx.extract a b⟩ = (fAt fs 0).tx := by
    unfold spl
    simp only [Int.toNat_natCast]
    exact joinB_self h1 h2
  rw [hs, fAt_at h0]
  exact List.set_getElem_self h0
end Go.Proofs.Ytnonbonegbdfpaa
