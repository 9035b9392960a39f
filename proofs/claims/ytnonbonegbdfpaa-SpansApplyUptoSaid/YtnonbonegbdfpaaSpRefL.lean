/- The document's Apply, file for file: as spans.Apply's rounds. Plain Lean. -/
import Derived.Test.YtnonbonegbdfpaaSpKeepLaw
import Derived.Test.YtnonbonegbdfpaaSpApp
namespace Go.Proofs.Ytnonbonegbdfpaa
open Go Go.RowKit Go.Lib Go.Sort

/-- one file's text behind k edits, from the last -/
def refT (s p : ByteArray) (c : List Ed) : Nat → ByteArray
  | 0 => s
  | k + 1 => if (backE c k).p = p then spl (refT s p c k) (backE c k) else refT s p c k
def uniqF (fs : List Fi) : Prop := ∀ i, i < fs.length → ∀ k, k < i → (fAt fs k).p ≠ (fAt fs i).p
theorem look_some {fs : List Fi} {p : ByteArray} : ∀ {n j : Nat}, j < n → (fAt fs j).p = p → (lookJ fs p n).isSome = true
  | n + 1, j, h, hp => by
    unfold lookJ
    split
    · rfl
    · rename_i h1
      rcases Nat.lt_or_ge j n with h2 | h2
      · exact look_some h2 hp
      · obtain rfl : j = n := by omega
        exact absurd hp h1
theorem look_none {fs : List Fi} {p : ByteArray} : ∀ {n : Nat}, (∀ k, k < n → (fAt fs k).p ≠ p) → lookJ fs p n = none
  | 0, _ => rfl
  | n + 1, h => by
    unfold lookJ
    rw [if_neg (h n (by omega))]
    exact look_none (fun k hk => h k (by omega))
theorem dup_uniq {fs : List Fi} (h : uniqF fs) : dupF fs = false := dup_pre fun i hi => look_none (h i hi)
theorem dup_same {fs : List Fi} {i k : Nat} (hi : i < fs.length) (hk : k < i) (h : (fAt fs k).p = (fAt fs i).p) : dupF fs = true := dup_at hi (look_some hk h)
theorem uniq_inj {fs : List Fi} (h : uniqF fs) {i j : Nat} (hi : i < fs.length) (hj : j < fs.length) (e : (fAt fs i).p = (fAt fs j).p) : i = j := by
  rcases Nat.lt_trichotomy i j with g | g | g
  · exact absurd e (h j hj i g)
  · exact g
  · exact absurd e.symm (h i hi j g)
theorem look_is {fs : List Fi} (h : uniqF fs) {i : Nat} {p : ByteArray} (hi : i < fs.length) (hp : (fAt fs i).p = p) : lookJ fs p fs.length = some i := by
  obtain ⟨k, hk⟩ := Option.isSome_iff_exists.1 (look_some hi hp)
  have h1 := lookJ_lt hk
  rw [hk, uniq_inj h h1.1 hi (by rw [h1.2, hp])]
def found (fs : List Fi) (x : Ed) : Prop := ∃ k, k < fs.length ∧ (fAt fs k).p = x.p ∧ x.to ≤ ((fAt fs k).tx.size : Int)
theorem step_some {fs gs hs : List Fi} {x : Ed} (h : stepE fs x gs = some hs) : found fs x := by
  unfold stepE at h
  split at h
  · cases h
  · rename_i i hl
    split at h
    · rename_i ht
      have := lookJ_lt hl
      exact ⟨i, this.1, this.2, ht⟩
    · cases h
theorem step_of {fs gs : List Fi} {x : Ed} (hu : uniqF fs) (h : found fs x) : ∃ hs, stepE fs x gs = some hs := by
  obtain ⟨k, hk, hp, ht⟩ := h
  unfold stepE
  rw [look_is hu hk hp]
  simp only
  rw [if_pos ht]
  exact ⟨_, rfl⟩
theorem runK_found {fs : List Fi} {c : List Ed} : ∀ {k : Nat} {gs : List Fi}, runK fs c k = some gs → ∀ j, j < k → found fs (backE c j)
  | k + 1, gs, h, j, hj => by
    unfold runK at h
    split at h
    · cases h
    · rename_i g0 hg
      rcases Nat.lt_or_ge j k with h1 | h1
      · exact runK_found hg j h1
      · obtain rfl : j = k := by omega
        exact step_some h
theorem runK_all {fs : List Fi} {c : List Ed} (hu : uniqF fs) : ∀ {k : Nat}, (∀ j, j < k → found fs (backE c j)) → ∃ gs, runK fs c k = some gs
  | 0, _ => ⟨fs, rfl⟩
  | k + 1, h => by
    obtain ⟨gs, hg⟩ := runK_all hu (k := k) (fun j hj => h j (by omega))
    obtain ⟨hs, hh⟩ := step_of (gs := gs) hu (h k (by omega))
    exact ⟨hs, by unfold runK; rw [hg]; exact hh⟩
theorem runK_ref {fs : List Fi} {c : List Ed} (hu : uniqF fs) : ∀ {k : Nat} {gs : List Fi}, runK fs c k = some gs → ∀ i, i < fs.length → fAt gs i = ⟨(fAt fs i).p, refT (fAt fs i).tx (fAt fs i).p c k⟩
  | 0, gs, h, i, _ => by cases h; rfl
  | k + 1, gs, h, i, hi => by
    unfold runK at h
    split at h
    · cases h
    · rename_i g0 hg
      have h1 := runK_ref hu hg i hi
      have hlen := runK_len hg
      unfold stepE at h
      split at h
      · cases h
      · rename_i i0 hl
        split at h
        · cases h
          have hl1 := lookJ_lt hl
          rw [fAt_set]
          by_cases e : i0 = i
          · subst e
            rw [if_pos ⟨rfl, by omega⟩, h1, refT, if_pos hl1.2.symm]
          · rw [if_neg (fun g => e g.1), h1, refT, if_neg]
            intro g
            exact e (uniq_inj hu hl1.1 hi (by rw [hl1.2, g]))
        · cases h
theorem backE_mem {c : List Ed} {k : Nat} (h : k < c.length) : backE c k ∈ c := by rw [backE_at (by omega)]; exact List.getElem_mem _
theorem mem_backE {c : List Ed} {x : Ed} (h : x ∈ c) : ∃ k, k < c.length ∧ backE c k = x := by
  obtain ⟨i, hi, rfl⟩ := List.getElem_of_mem h
  refine ⟨c.length - 1 - i, by omega, ?_⟩
  rw [backE_at (by omega)]
  congr 1; omega
/-- what the slices of one file's round rest on -/
def SafeT (fs : List Fi) (c : List Ed) : Prop := ∀ i, i < fs.length → ∀ k, k < c.length → (backE c k).p = (fAt fs i).p →
  0 ≤ (backE c k).fr ∧ (backE c k).fr ≤ (backE c k).to ∧ (backE c k).to ≤ ((refT (fAt fs i).tx (fAt fs i).p c k).size : Int) ∧ (spl (refT (fAt fs i).tx (fAt fs i).p c k) (backE c k)).size ≤ 140737488355328
theorem safeT_of {fs : List Fi} {c : List Ed} (hu : uniqF fs) (hs : Safe fs c) (hf : ∀ x ∈ c, found fs x) : SafeT fs c := by
  intro i hi k hk hp
  obtain ⟨gs, hg⟩ := runK_all hu (k := k) (c := c) (fun j hj => hf _ (backE_mem (by omega)))
  have hl := look_is hu hi hp.symm
  obtain ⟨k', hk', hp', ht⟩ := hf _ (backE_mem hk)
  have e : k' = i := uniq_inj hu hk' hi (by rw [hp', hp])
  subst e
  obtain ⟨-, h1, h2, h3, h4⟩ := hs k gs k' hk hg hl ht
  rw [runK_ref hu hg k' hi] at h3 h4
  exact ⟨h1, h2, h3, h4⟩
def outF (fs : List Fi) (c : List Ed) (n : Nat) : List Fi := (List.range n).map fun i => ⟨(fAt fs i).p, refT (fAt fs i).tx (fAt fs i).p c c.length⟩
theorem outF_len (fs : List Fi) (c : List Ed) (n : Nat) : (outF fs c n).length = n := by simp [outF]
theorem outF_succ (fs : List Fi) (c : List Ed) (n : Nat) : outF fs c (n + 1) = outF fs c n ++ [⟨(fAt fs n).p, refT (fAt fs n).tx (fAt fs n).p c c.length⟩] := by simp [outF, List.range_succ]
theorem apply_ref {fs : List Fi} {l : List Ed} (hu : uniqF fs) (hok : okAll (sortd l) = true) (hf : ∀ x ∈ sortd l, found fs x) : applyP fs l = some (outF fs (sortd l) fs.length) := by
  obtain ⟨gs, hg⟩ := runK_all hu (k := (sortd l).length) (c := sortd l) (fun j hj => hf _ (backE_mem hj))
  unfold applyP
  rw [dup_uniq hu, hok, hg]
  have e : gs = outF fs (sortd l) fs.length := by
    apply List.ext_getElem
    · rw [outF_len]; exact runK_len hg
    · intro i h1 h2
      rw [outF_len] at h2
      rw [← fAt_at h1, runK_ref hu hg i h2]
      simp [outF]
  rw [e]; rfl
theorem apply_lost {fs : List Fi} {l : List Ed} {x : Ed} (hx : x ∈ sortd l) (hf : ¬ found fs x) : applyP fs l = none := by
  unfold applyP
  split
  · rfl
  · split
    · cases h : runK fs (sortd l) (sortd l).length with
      | none => rfl
      | some gs =>
        obtain ⟨k, hk, rfl⟩ := mem_backE hx
        exact absurd (runK_found h k hk) hf
    · rfl
theorem apply_dup {fs : List Fi} {l : List Ed} (h : dupF fs = true) : applyP fs l = none := by unfold applyP; rw [if_pos h]
theorem apply_bad {fs : List Fi} {l : List Ed} (h : okAll (sortd l) = false) : applyP fs l = none := by
  unfold applyP
  split
  · rfl
  · rw [if_neg (by rw [h]; simp)]
theorem spl_cat {t : ByteArray} {x : Ed} (h2 : x.to ≤ (t.size : Int)) : spl t x = (t.extract 0 x.fr.toNat ++ x.tx) ++ t.extract x.to.toNat t.size := by
  apply ByteArray.ext
  apply Array.toList_inj.1
  have hl : t.data.toList.length = t.size := Array.length_toList
  have he : ∀ a b : Nat, (t.extract a b).data.toList = (t.data.toList.drop a).take (b - a) := fun a b => by
    rw [ByteArray.data_extract, Array.toList_extract]
  rw [spl_list h2]
  simp only [ByteArray.data_append, Array.toList_append, he]
  rw [List.drop_zero, Nat.sub_zero, List.take_of_length_le (l := t.data.toList.drop x.to.toNat) (by rw [List.length_drop]; omega), List.append_assoc]
end Go.Proofs.Ytnonbonegbdfpaa
