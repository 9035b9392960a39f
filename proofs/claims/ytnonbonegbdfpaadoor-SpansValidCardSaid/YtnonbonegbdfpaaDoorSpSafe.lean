/- A sorted list of edits that stands right can be applied from its end. Plain Lean. -/
import Derived.Test.YtnonbonegbdfpaaDoorSpFile
namespace Go.Proofs.YtnonbonegbdfpaaDoor
open Go Go.RowKit Go.Lib Go.Sort

/-! ### order -/
def PathLe (x y : Ed) : Prop := ¬ cmpS y.p x.p < 0
theorem cptN_sub (l : List Ed) : ∀ j, j ≤ l.length → (cptN l j).Sublist (l.take j)
  | 0, _ => by simp [cptN]
  | j + 1, h => by
    have h1 := cptN_sub l j (by omega)
    rw [cptN, List.take_succ_eq_append_getElem (by omega)]
    split
    · exact h1.trans (List.sublist_append_left _ _)
    · rw [eAt_at (by omega)]; exact List.Sublist.append h1 (List.Sublist.refl _)
theorem sortd_sub (l : List Ed) : (sortd l).Sublist (srt l) := by
  have := cptN_sub (srt l) (srt l).length (Nat.le_refl _)
  rwa [List.take_length] at this
theorem ordE_path {x y : Ed} (h : cmpS x.p y.p < 0) : ordE x y < 0 := by unfold ordE; rw [if_pos (by omega)]; exact h
theorem srt_pw (l : List Ed) : (srt l).Pairwise PathLe := by
  have h := List.pairwise_mergeSort (le := fun x y => !(ltOf ordE) y x) (fun a b c h1 h2 => by
    simp only [ltOf, Bool.not_eq_true', decide_eq_false_iff_not] at h1 h2 ⊢
    have w1 := wk_ordE.anti c a; have w2 := wk_ordE.anti a b; have w3 := wk_ordE.anti b c; have w4 := wk_ordE.anti a c; have w5 := wk_ordE.anti b a; have w6 := wk_ordE.anti c b
    have t1 := wk_ordE.t1 c a b; have t2 := wk_ordE.t2 c a b; have t3 := wk_ordE.t3 c a b; have t4 := wk_ordE.t4 c a b
    omega) (fun a b => by
    have w1 := wk_ordE.anti a b
    simp only [ltOf, Bool.or_eq_true, Bool.not_eq_true', decide_eq_false_iff_not]
    omega) l
  refine h.imp ?_
  intro x y hxy hlt
  have := ordE_path hlt
  simp [ltOf, this] at hxy
theorem sortd_pw (l : List Ed) : (sortd l).Pairwise PathLe := (srt_pw l).sublist (sortd_sub l)
theorem path_mid {c : List Ed} (h : c.Pairwise PathLe) {m m' : Nat} (h1 : m < m') (h2 : m' < c.length) (he : (c[m]'(by omega)).p = c[m'].p) : (c[m + 1]'(by omega)).p = (c[m]'(by omega)).p := by
  have a1 : PathLe (c[m]'(by omega)) (c[m + 1]'(by omega)) := List.pairwise_iff_getElem.1 h m (m + 1) (by omega) (by omega) (by omega)
  have a2 : ¬ cmpS c[m'].p (c[m + 1]'(by omega)).p < 0 := by
    rcases Nat.lt_or_ge (m + 1) m' with hm | hm
    · exact List.pairwise_iff_getElem.1 h (m + 1) m' (by omega) h2 hm
    · obtain rfl : m' = m + 1 := by omega
      rcases cmpS_cases c[m + 1].p c[m + 1].p with ⟨h, _⟩ | ⟨_, h⟩ | ⟨h, _⟩
      · exact absurd h (List.lt_irrefl _)
      · omega
      · exact absurd h (List.lt_irrefl _)
  unfold PathLe at a1
  rw [← he] at a2
  have a3 := (wk_cmpS.anti (c[m]'(by omega)).p (c[m + 1]'(by omega)).p)
  rcases cmpS_cases (c[m + 1]'(by omega)).p (c[m]'(by omega)).p with ⟨_, h⟩ | ⟨h, _⟩ | ⟨_, h⟩
  · omega
  · have hb := bytes_eq (c[m + 1]'(by omega)).p (c[m]'(by omega)).p
    rw [h] at hb
    simpa using hb.symm
  · omega
theorem okAll_get {c : List Ed} (h : okAll c = true) {i : Nat} (hi : i < c.length) : okAt c i = true := by
  unfold okAll at h
  rw [List.all_eq_true] at h
  exact h i (List.mem_range.2 hi)
theorem ok_fr {c : List Ed} (h : okAll c = true) {i : Nat} (hi : i < c.length) : 0 ≤ c[i].fr ∧ c[i].fr ≤ c[i].to := by
  have := okAll_get h hi
  unfold okAt at this
  rw [eAt_at hi, Bool.and_eq_true, decide_eq_true_eq] at this
  exact this.1
theorem ok_next {c : List Ed} (h : okAll c = true) {i : Nat} (hi : i + 1 < c.length) (hp : c[i + 1].p = (c[i]'(by omega)).p) : (c[i]'(by omega)).to ≤ c[i + 1].fr := by
  have := okAll_get h hi
  unfold okAt at this
  rw [eAt_at hi, show i + 1 - 1 = i from rfl, eAt_at (by omega), hp] at this
  simp at this
  omega

/-! ### sizes -/
theorem joinB_size (a b d : ByteArray) : (joinB [a, b, d]).size = a.size + b.size + d.size := by
  have h : Lib.join [a.data.toList, b.data.toList, d.data.toList] [] = a.data.toList ++ (b.data.toList ++ d.data.toList) := by
    unfold Lib.join List.intercalate
    simp [List.intersperse]
  simp only [joinB, List.map_cons, List.map_nil, h]
  show (a.data.toList ++ (b.data.toList ++ d.data.toList)).toArray.size = a.data.size + b.data.size + d.data.size
  rw [List.size_toArray, List.length_append, List.length_append, Array.length_toList, Array.length_toList, Array.length_toList]
  omega
theorem spl_size {t : ByteArray} {x : Ed} (h0 : 0 ≤ x.fr) (h1 : x.fr ≤ x.to) (h2 : x.to ≤ (t.size : Int)) : (spl t x).size = x.fr.toNat + x.tx.size + (t.size - x.to.toNat) := by
  unfold spl
  rw [joinB_size, ByteArray.size_extract, ByteArray.size_extract]
  omega
theorem fAt_set (l : List Fi) (i j : Nat) (x : Fi) : fAt (l.set i x) j = if i = j ∧ j < l.length then x else fAt l j := by
  unfold fAt
  rw [List.getElem?_set]
  by_cases h : i = j
  · subst h
    by_cases h2 : i < l.length
    · simp [h2]
    · simp [h2]
  · simp [h]
def sumB (c : List Ed) (k : Nat) : Nat := ((List.range k).map fun k => (backE c k).tx.size).sum
theorem sumB_succ (c : List Ed) (k : Nat) : sumB c (k + 1) = sumB c k + (backE c k).tx.size := by
  simp [sumB, List.range_succ]
theorem sumB_mono (c : List Ed) {k m : Nat} (h : k ≤ m) : sumB c k ≤ sumB c m := by
  induction m with
  | zero => obtain rfl : k = 0 := by omega
            exact Nat.le_refl _
  | succ m ih =>
    rcases Nat.lt_or_ge k (m + 1) with hk | hk
    · rw [sumB_succ]; have := ih (by omega); omega
    · obtain rfl : k = m + 1 := by omega
      exact Nat.le_refl _
/-! ### the rounds -/
structure Rds (fs : List Fi) (c : List Ed) (k : Nat) (gs : List Fi) : Prop where
  len : gs.length = fs.length
  same : ∀ i, (∀ k', k' < k → (backE c k').p ≠ (fAt fs i).p) → (fAt gs i).tx = (fAt fs i).tx
  last : ∀ k' i, k = k' + 1 → lookJ fs (backE c k').p fs.length = some i → (backE c k').fr ≤ ((fAt gs i).tx.size : Int)
  size : ∀ i, (fAt gs i).tx.size ≤ (fAt fs i).tx.size + sumB c k
theorem step_fits {fs : List Fi} {c : List Ed} (hpw : c.Pairwise PathLe) (hok : okAll c = true) {k : Nat} {gs : List Fi} (hk : k < c.length) (h : Rds fs c k gs) {i : Nat} (hl : lookJ fs (backE c k).p fs.length = some i)
    (hto : (backE c k).to ≤ ((fAt fs i).tx.size : Int)) : 0 ≤ (backE c k).fr ∧ (backE c k).fr ≤ (backE c k).to ∧ (backE c k).to ≤ ((fAt gs i).tx.size : Int) := by
  have hb : backE c k = c[c.length - 1 - k] := backE_at (by omega)
  obtain ⟨h0, h1⟩ := ok_fr hok (i := c.length - 1 - k) (by omega)
  rw [← hb] at h0 h1
  refine ⟨h0, h1, ?_⟩
  by_cases hs : ∀ k', k' < k → (backE c k').p ≠ (fAt fs i).p
  · rw [h.same i hs]; exact hto
  · obtain ⟨k', hk', he⟩ : ∃ k', k' < k ∧ (backE c k').p = (fAt fs i).p := by
      apply Classical.byContradiction
      intro hn
      exact hs (fun k' h1 h2 => hn ⟨k', h1, h2⟩)
    obtain ⟨k1, rfl⟩ : ∃ k1, k = k1 + 1 := ⟨k - 1, by omega⟩
    have hip := (lookJ_lt hl).2
    have hb' : backE c k' = c[c.length - 1 - k'] := backE_at (by omega)
    have hmid := path_mid hpw (m := c.length - 1 - (k1 + 1)) (m' := c.length - 1 - k') (by omega) (by omega) (by rw [← hb, ← hb', he, hip])
    have hb1 : backE c k1 = c[c.length - 1 - (k1 + 1) + 1] := by
      rw [backE_at (by omega)]; congr 1; omega
    have hn := ok_next hok (i := c.length - 1 - (k1 + 1)) (by omega) hmid
    rw [← hb, ← hb1] at hn hmid
    have hla := h.last k1 i rfl (by rw [hmid]; exact hl)
    omega
theorem rds {fs : List Fi} {c : List Ed} (hpw : c.Pairwise PathLe) (hok : okAll c = true) : ∀ {k : Nat} {gs : List Fi}, k ≤ c.length → runK fs c k = some gs → Rds fs c k gs
  | 0, gs, _, h => by
    cases h
    exact ⟨rfl, fun _ _ => rfl, fun k' i e => by omega, fun i => Nat.le_add_right _ _⟩
  | k + 1, gs, hk, h => by
    unfold runK at h
    split at h
    · cases h
    · rename_i g0 hg
      have hR := rds hpw hok (by omega) hg
      unfold stepE at h
      split at h
      · cases h
      · rename_i i hl
        split at h
        · rename_i hto
          cases h
          obtain ⟨h0, h1, h2⟩ := step_fits hpw hok (by omega) hR hl hto
          have hss := spl_size h0 h1 h2
          have hil := (lookJ_lt hl).1
          refine ⟨by rw [List.length_set]; exact hR.len, fun j hj => ?_, fun k' j e hlj => ?_, fun j => ?_⟩
          · rw [fAt_set, if_neg]
            · exact hR.same j (fun k' hk' => hj k' (by omega))
            · rintro ⟨rfl, -⟩
              exact hj k (by omega) (lookJ_lt hl).2.symm
          · obtain rfl : k' = k := by omega
            rw [hl] at hlj; cases hlj
            rw [fAt_set, if_pos ⟨rfl, by rw [hR.len]; exact hil⟩]
            show (backE c k').fr ≤ ((spl _ _).size : Int)
            omega
          · rw [fAt_set, sumB_succ]
            have := hR.size j
            split
            · rename_i hj
              obtain ⟨rfl, -⟩ := hj
              show (spl _ _).size ≤ _
              omega
            · omega
        · cases h
theorem safe_of {fs : List Fi} {c : List Ed} (hpw : c.Pairwise PathLe) (hok : okAll c = true) (hsz : ∀ i, i < fs.length → (fAt fs i).tx.size + sumB c c.length ≤ 140737488355328) : Safe fs c := by
  intro k gs i hk hr hl hto
  have hR := rds hpw hok (by omega) hr
  obtain ⟨h0, h1, h2⟩ := step_fits hpw hok hk hR hl hto
  have hss := spl_size h0 h1 h2
  have h3 := hR.size i
  have h4 := hsz i (lookJ_lt hl).1
  have h5 := sumB_mono c (k := k + 1) (m := c.length) (by omega)
  rw [sumB_succ] at h5
  exact ⟨hR.len, h0, h1, h2, by omega⟩
end Go.Proofs.YtnonbonegbdfpaaDoor
