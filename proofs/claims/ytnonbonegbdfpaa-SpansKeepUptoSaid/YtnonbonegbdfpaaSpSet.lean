/- The sorted edits, each once: the one list in strict order with these edits in it; when they clash. Plain Lean. -/
import Derived.Test.YtnonbonegbdfpaaSpSafe
namespace Go.Proofs.Ytnonbonegbdfpaa
open Go Go.RowKit Go.Lib Go.Sort

def ltE (x y : Ed) : Prop := ordE x y < 0
theorem ltE_irr (x : Ed) : ¬ ltE x x := by
  have := wk_ordE.anti x x
  unfold ltE; omega
theorem ltE_tr {x y z : Ed} (h1 : ltE x y) (h2 : ltE y z) : ltE x z := wk_ordE.t1 x y z h1 h2
theorem ltE_tri (x y : Ed) : ltE x y ∨ x = y ∨ ltE y x := by
  have h1 := wk_ordE.anti x y
  have h2 := wk_ordE.anti y x
  by_cases e : ordE x y = 0
  · exact .inr (.inl (ordE_zero e))
  · unfold ltE; omega
theorem strict_eq : ∀ {a b : List Ed}, a.Pairwise ltE → b.Pairwise ltE → (∀ x, x ∈ a ↔ x ∈ b) → a = b
  | [], [], _, _, _ => rfl
  | [], y :: b, _, _, h => absurd ((h y).2 List.mem_cons_self) (by simp)
  | x :: a, [], _, _, h => absurd ((h x).1 List.mem_cons_self) (by simp)
  | x :: a, y :: b, ha, hb, h => by
    rw [List.pairwise_cons] at ha hb
    have e : x = y := by
      rcases List.mem_cons.1 ((h x).1 List.mem_cons_self) with e | h1
      · exact e
      · rcases List.mem_cons.1 ((h y).2 List.mem_cons_self) with e | h2
        · exact e.symm
        · exact absurd (ltE_tr (ha.1 y h2) (hb.1 x h1)) (ltE_irr x)
    subst e
    rw [strict_eq ha.2 hb.2 (fun z => ?_)]
    refine ⟨fun hz => ?_, fun hz => ?_⟩
    · rcases List.mem_cons.1 ((h z).1 (List.mem_cons_of_mem _ hz)) with e | h1
      · exact absurd (e ▸ ha.1 z hz) (ltE_irr x)
      · exact h1
    · rcases List.mem_cons.1 ((h z).2 (List.mem_cons_of_mem _ hz)) with e | h1
      · exact absurd (e ▸ hb.1 z hz) (ltE_irr x)
      · exact h1

theorem srt_weak (l : List Ed) : (srt l).Pairwise (fun x y => ¬ ltE y x) := by
  have h := List.pairwise_mergeSort (le := fun x y => !(ltOf ordE) y x) (fun a b c h1 h2 => by
    simp only [ltOf, Bool.not_eq_true', decide_eq_false_iff_not] at h1 h2 ⊢
    have w1 := wk_ordE.anti c a; have w2 := wk_ordE.anti a b; have w3 := wk_ordE.anti b c; have w4 := wk_ordE.anti a c; have w5 := wk_ordE.anti b a; have w6 := wk_ordE.anti c b
    have t1 := wk_ordE.t1 c a b; have t2 := wk_ordE.t2 c a b; have t3 := wk_ordE.t3 c a b; have t4 := wk_ordE.t4 c a b
    omega) (fun a b => by
    have w1 := wk_ordE.anti a b
    simp only [ltOf, Bool.or_eq_true, Bool.not_eq_true', decide_eq_false_iff_not]
    omega) l
  refine h.imp ?_
  intro x y hxy
  simpa [ltOf, ltE] using hxy
theorem cptN_strict {l : List Ed} (h : l.Pairwise (fun x y => ¬ ltE y x)) : ∀ j, j < l.length → (cptN l (j + 1)).Pairwise ltE ∧ (∀ x ∈ cptN l (j + 1), ltE x (eAt l j) ∨ x = eAt l j) ∧ (∀ i, i ≤ j → eAt l i ∈ cptN l (j + 1))
  | 0, _ => by
    have e : cptN l 1 = [eAt l 0] := by simp [cptN]
    rw [e]
    refine ⟨by simp, by simp, fun i hi => ?_⟩
    obtain rfl : i = 0 := by omega
    simp
  | j + 1, hj => by
    obtain ⟨h1, h2, h3⟩ := cptN_strict h j (by omega)
    have hle : ¬ ltE (eAt l (j + 1)) (eAt l j) := by
      rw [eAt_at hj, eAt_at (show j < l.length by omega)]
      exact List.pairwise_iff_getElem.1 h j (j + 1) (by omega) hj (by omega)
    rw [show cptN l (j + 1 + 1) = if j + 1 ≠ 0 ∧ eqE (eAt l (j + 1)) (eAt l j) = true then cptN l (j + 1) else cptN l (j + 1) ++ [eAt l (j + 1)] from rfl]
    split
    · rename_i he
      have e := eqE_iff.1 he.2
      rw [e]
      refine ⟨h1, h2, fun i hi => ?_⟩
      rcases Nat.lt_or_ge i (j + 1) with hi' | hi'
      · exact h3 i (by omega)
      · obtain rfl : i = j + 1 := by omega
        rw [e]; exact h3 j (Nat.le_refl _)
    · rename_i he
      have hlt : ltE (eAt l j) (eAt l (j + 1)) := by
        rcases ltE_tri (eAt l j) (eAt l (j + 1)) with g | g | g
        · exact g
        · exact absurd ⟨by omega, eqE_iff.2 g.symm⟩ he
        · exact absurd g hle
      have hall : ∀ x ∈ cptN l (j + 1), ltE x (eAt l (j + 1)) := fun x hx => by
        rcases h2 x hx with g | g
        · exact ltE_tr g hlt
        · rw [g]; exact hlt
      refine ⟨?_, fun x hx => ?_, fun i hi => ?_⟩
      · rw [List.pairwise_append]
        exact ⟨h1, by simp, fun x hx y hy => by rw [List.mem_singleton.1 hy]; exact hall x hx⟩
      · rcases List.mem_append.1 hx with g | g
        · exact .inl (hall x g)
        · exact .inr (List.mem_singleton.1 g)
      · rcases Nat.lt_or_ge i (j + 1) with hi' | hi'
        · exact List.mem_append_left _ (h3 i (by omega))
        · obtain rfl : i = j + 1 := by omega
          exact List.mem_append_right _ (List.mem_singleton.2 rfl)
theorem sortd_strict (l : List Ed) : (sortd l).Pairwise ltE := by
  unfold sortd cpt
  rcases Nat.eq_zero_or_pos (srt l).length with h | h
  · rw [h]; simp [cptN]
  · obtain ⟨n, hn⟩ : ∃ n, (srt l).length = n + 1 := ⟨_, (Nat.succ_pred_eq_of_pos h).symm⟩
    rw [hn]
    exact (cptN_strict (srt_weak l) n (by omega)).1
theorem sortd_iff {l : List Ed} {x : Ed} : x ∈ sortd l ↔ x ∈ l := by
  refine ⟨fun h => (List.mergeSort_perm l _).mem_iff.1 ((sortd_sub l).subset h), fun h => ?_⟩
  have hx : x ∈ srt l := (List.mergeSort_perm l _).mem_iff.2 h
  obtain ⟨i, hi, rfl⟩ := List.getElem_of_mem hx
  unfold sortd cpt
  obtain ⟨n, hn⟩ : ∃ n, (srt l).length = n + 1 := ⟨(srt l).length - 1, by omega⟩
  rw [hn, ← eAt_at hi]
  exact (cptN_strict (srt_weak l) n (by omega)).2.2 i (by omega)
theorem sortd_uniq {l c : List Ed} (h : c.Pairwise ltE) (hm : ∀ x, x ∈ c ↔ x ∈ l) : sortd l = c :=
  strict_eq (sortd_strict l) h (fun x => sortd_iff.trans (hm x).symm)
theorem sortd_twice (l : List Ed) : sortd (l.reverse ++ l) = sortd l :=
  sortd_uniq (sortd_strict l) (fun x => by rw [sortd_iff]; simp)

/-! ### clashes -/
def clE (x y : Ed) : Bool :=
  if x.fr = x.to ∧ y.fr = y.to then decide (x.fr = y.fr)
  else if x.fr = x.to then decide (x.fr ≥ y.fr ∧ x.fr < y.to)
  else if y.fr = y.to then decide (y.fr ≥ x.fr ∧ y.fr < x.to)
  else decide (x.fr < y.to ∧ y.fr < x.to)
theorem clE_symm (x y : Ed) : clE x y = clE y x := by
  unfold clE
  (repeat' split) <;> first | omega | (apply decide_eq_decide.2; omega)
def validE (x : Ed) : Prop := 0 ≤ x.fr ∧ x.fr ≤ x.to
def freeE (l : List Ed) : Prop := (∀ x ∈ l, validE x) ∧ ∀ x ∈ l, ∀ y ∈ l, x ≠ y → x.p = y.p → clE x y = false

theorem ltE_fr {x y : Ed} (h : ltE x y) (hp : x.p = y.p) : x.fr ≤ y.fr := by
  unfold ltE ordE at h
  have h0 : cmpS x.p y.p = 0 := by
    rw [hp]
    rcases cmpS_cases y.p y.p with ⟨g, _⟩ | ⟨_, g⟩ | ⟨g, _⟩
    · exact absurd g (List.lt_irrefl _)
    · exact g
    · exact absurd g (List.lt_irrefl _)
  rw [if_neg (by omega)] at h
  have : ¬ y.fr < x.fr := by
    intro hlt
    have h1 : cmpI x.fr y.fr = 1 := by unfold cmpI; rw [if_neg (by omega), if_pos hlt]
    rw [if_pos (by omega)] at h
    omega
  omega
theorem ltE_path {x y : Ed} (h : ltE x y) : PathLe x y := by
  intro hlt
  have h1 := ordE_path hlt
  have h2 := wk_ordE.anti y x
  unfold ltE at h
  omega
theorem strict_path {c : List Ed} (h : c.Pairwise ltE) : c.Pairwise PathLe := h.imp ltE_path
theorem beq_path {x y : ByteArray} (h : (x.toList == y.toList) = true) : x = y := toList_inj (by simpa using h)

/-- stands right: for adjacent ones -/
theorem okAt_succ {c : List Ed} {i : Nat} (hi : i + 1 < c.length) : okAt c (i + 1) = (decide (0 ≤ c[i + 1].fr ∧ c[i + 1].fr ≤ c[i + 1].to) && (!((c[i]'(by omega)).p.toList == c[i + 1].p.toList) || !(decide (c[i + 1].fr < (c[i]'(by omega)).to) || c[i + 1].fr == (c[i]'(by omega)).fr))) := by
  unfold okAt
  rw [eAt_at hi, show i + 1 - 1 = i from rfl, eAt_at (show i < c.length by omega)]
  simp
theorem okAll_far {c : List Ed} (hpw : c.Pairwise ltE) (h : okAll c = true) : ∀ (d i : Nat) (hj : i + d + 1 < c.length), (c[i]'(by omega)).p = c[i + d + 1].p → (c[i]'(by omega)).to ≤ c[i + d + 1].fr ∧ (c[i]'(by omega)).fr < c[i + d + 1].fr
  | 0, i, hj, hp => by
    have h1 := okAll_get h hj
    rw [okAt_succ hj] at h1
    simp only [Nat.add_zero] at hp
    rw [hp] at h1
    simp at h1
    have h2 := ltE_fr (List.pairwise_iff_getElem.1 hpw i (i + 1) (by omega) hj (by omega)) hp
    simp only [Nat.add_zero]
    omega
  | d + 1, i, hj, hp => by
    have hm := path_mid (strict_path hpw) (m := i) (m' := i + (d + 1) + 1) (by omega) hj hp
    have h1 := okAll_far hpw h 0 i (by omega) hm.symm
    have h2 := okAll_far hpw h d (i + 1) (by omega) (by rw [hm, hp]; congr 1; congr 1; omega)
    have h3 := ok_fr h (i := i + 1) (by omega)
    have e : c[i + 1 + d + 1]'(by omega) = c[i + (d + 1) + 1]'hj := by congr 1; omega
    rw [e] at h2
    simp only [Nat.add_zero] at h1
    omega
theorem free_of_ok {c : List Ed} (hpw : c.Pairwise ltE) (h : okAll c = true) : freeE c := by
  refine ⟨fun x hx => ?_, ?_⟩
  · obtain ⟨i, hi, rfl⟩ := List.getElem_of_mem hx
    exact ok_fr h hi
  · have key : ∀ (i j : Nat) (hj : j < c.length) (hij : i < j), (c[i]'(by omega)).p = c[j].p → clE (c[i]'(by omega)) c[j] = false := by
      intro i j hj hij hp
      obtain ⟨d, rfl⟩ : ∃ d, j = i + d + 1 := ⟨j - i - 1, by omega⟩
      have h1 := okAll_far hpw h d i hj hp
      have h2 := ok_fr h (i := i) (by omega)
      have h3 := ok_fr h hj
      unfold clE
      (repeat' split) <;> (apply decide_eq_false; omega)
    intro x hx y hy hne hp
    obtain ⟨i, hi, rfl⟩ := List.getElem_of_mem hx
    obtain ⟨j, hj, rfl⟩ := List.getElem_of_mem hy
    rcases Nat.lt_trichotomy i j with hij | hij | hij
    · exact key i j hj hij hp
    · subst hij; exact absurd rfl hne
    · rw [clE_symm]; exact key j i hi hij hp.symm
theorem ok_of_free {c : List Ed} (hpw : c.Pairwise ltE) (h : freeE c) : okAll c = true := by
  apply okAll_pre
  intro i hi
  have hv := h.1 _ (List.getElem_mem hi)
  unfold validE at hv
  cases i with
  | zero => unfold okAt; rw [eAt_at hi]; simp; exact hv
  | succ i =>
    rw [okAt_succ hi, decide_eq_true hv, Bool.true_and]
    cases hp : ((c[i]'(by omega)).p.toList == c[i + 1].p.toList) with
    | false => rfl
    | true =>
      have hp' := beq_path hp
      have hlt := List.pairwise_iff_getElem.1 hpw i (i + 1) (by omega) hi (by omega)
      have hne : (c[i]'(by omega)) ≠ c[i + 1] := fun e => by rw [e] at hlt; exact ltE_irr _ hlt
      have hc := h.2 _ (List.getElem_mem (show i < c.length by omega)) _ (List.getElem_mem hi) hne hp'
      have hf := ltE_fr hlt hp'
      have hv' := h.1 _ (List.getElem_mem (show i < c.length by omega))
      unfold validE at hv'
      unfold clE at hc
      have : ¬ (c[i + 1].fr < (c[i]'(by omega)).to ∨ c[i + 1].fr = (c[i]'(by omega)).fr) := by
        split at hc
        · have := of_decide_eq_false hc; omega
        · split at hc
          · have := of_decide_eq_false hc; omega
          · split at hc
            · have := of_decide_eq_false hc; omega
            · have := of_decide_eq_false hc; omega
      simp only [Bool.not_true, Bool.false_or, Bool.not_eq_true', Bool.or_eq_false_iff, decide_eq_false_iff_not, beq_eq_false_iff_ne, ne_eq]
      omega
theorem ok_iff {l : List Ed} : okAll (sortd l) = true ↔ freeE l := by
  have hm : freeE (sortd l) ↔ freeE l := by
    unfold freeE
    simp only [sortd_iff]
  exact ⟨fun h => hm.1 (free_of_ok (sortd_strict l) h), fun h => ok_of_free (sortd_strict l) (hm.2 h)⟩
theorem ok_false {l : List Ed} (h : ¬ freeE l) : okAll (sortd l) = false := by
  cases e : okAll (sortd l) with
  | false => rfl
  | true => exact absurd (ok_iff.1 e) h

/-! ### insertion -/
/-- what the document's Sorted has made of the first edits -/
structure RefI (l : List Ed) (i : Nat) (out : List Ed) : Prop where
  strict : out.Pairwise ltE
  mem : ∀ x, x ∈ out ↔ x ∈ l.take i
  free : freeE out
theorem RefI.start (l : List Ed) : RefI l 0 [] := ⟨by simp, by simp, by simp [freeE]⟩
theorem RefI.twice {l out : List Ed} {i : Nat} (h : RefI l i out) (hi : i < l.length) (hx : l[i] ∈ out) : RefI l (i + 1) out :=
  ⟨h.strict, fun x => by
    rw [List.take_succ_eq_append_getElem hi, List.mem_append, List.mem_singleton, ← h.mem]
    exact ⟨.inl, fun g => g.elim id (fun e => e ▸ hx)⟩, h.free⟩
theorem RefI.len {l out : List Ed} {i : Nat} (h : RefI l i out) : out.length ≤ i := by
  have h1 : out.Nodup := h.strict.imp (fun hxy e => by rw [e] at hxy; exact ltE_irr _ hxy)
  have h2 : out ⊆ l.take i := fun x hx => (h.mem x).1 hx
  have := h1.length_le_of_subset h2
  rw [List.length_take] at this
  omega
theorem RefI.put {l out : List Ed} {i k : Nat} (h : RefI l i out) (hi : i < l.length) (hk : k ≤ out.length) (hv : validE l[i]) (hn : l[i] ∉ out) (hc : ∀ y ∈ out, y.p = l[i].p → clE y l[i] = false)
    (h1 : ∀ y ∈ out.drop k, ltE l[i] y) (h2 : k = 0 ∨ ¬ ltE l[i] (eAt out (k - 1))) : RefI l (i + 1) (out.take k ++ l[i] :: out.drop k) := by
  have hmem : ∀ x, x ∈ out.take k ++ l[i] :: out.drop k ↔ x ∈ out ∨ x = l[i] := fun x => by
    have : x ∈ out ↔ x ∈ out.take k ∨ x ∈ out.drop k := by
      conv => lhs; rw [← List.take_append_drop k out]
      exact List.mem_append
    rw [List.mem_append, List.mem_cons, this]
    constructor
    · rintro (h | h | h)
      · exact .inl (.inl h)
      · exact .inr h
      · exact .inl (.inr h)
    · rintro ((h | h) | h)
      · exact .inl h
      · exact .inr (.inr h)
      · exact .inr (.inl h)
  have hst : (out.take k ++ out.drop k).Pairwise ltE := by rw [List.take_append_drop]; exact h.strict
  rw [List.pairwise_append] at hst
  refine ⟨?_, fun x => ?_, ?_, ?_⟩
  · rw [List.pairwise_append, List.pairwise_cons]
    refine ⟨hst.1, ⟨h1, hst.2.1⟩, fun x hx y hy => ?_⟩
    rcases List.mem_cons.1 hy with rfl | hy
    · rcases h2 with rfl | h2
      · simp at hx
      · obtain ⟨j, hj, rfl⟩ := List.getElem_of_mem hx
        rw [List.length_take] at hj
        have hk1 : k - 1 < out.length := by omega
        rw [eAt_at hk1] at h2
        have hlast : ltE out[k - 1] l[i] := by
          rcases ltE_tri out[k - 1] l[i] with g | g | g
          · exact g
          · exact absurd (g ▸ List.getElem_mem hk1) hn
          · exact absurd g h2
        rw [List.getElem_take]
        rcases Nat.lt_or_ge j (k - 1) with hjk | hjk
        · exact ltE_tr (List.pairwise_iff_getElem.1 h.strict j (k - 1) (by omega) hk1 hjk) hlast
        · obtain rfl : j = k - 1 := by omega
          exact hlast
    · exact hst.2.2 x hx y hy
  · rw [hmem, List.take_succ_eq_append_getElem hi, List.mem_append, List.mem_singleton, h.mem]
  · intro x hx
    rcases (hmem x).1 hx with g | rfl
    · exact h.free.1 x g
    · exact hv
  · intro x hx y hy hne hp
    rcases (hmem x).1 hx with gx | rfl <;> rcases (hmem y).1 hy with gy | rfl
    · exact h.free.2 x gx y gy hne hp
    · exact hc x gx hp
    · rw [clE_symm]; exact hc y gy hp.symm
    · exact absurd rfl hne
theorem RefI.done {l out : List Ed} (h : RefI l l.length out) : sortd l = out ∧ okAll (sortd l) = true := by
  have e : sortd l = out := sortd_uniq h.strict (fun x => by rw [h.mem, List.take_length])
  exact ⟨e, by rw [e]; exact ok_of_free h.strict h.free⟩
theorem RefI.bad {l out : List Ed} {i : Nat} (_ : RefI l i out) (hi : i < l.length) (hv : ¬ validE l[i]) : okAll (sortd l) = false :=
  ok_false (fun hf => hv (hf.1 _ (List.getElem_mem hi)))
theorem RefI.clash {l out : List Ed} {i : Nat} {y : Ed} (h : RefI l i out) (hi : i < l.length) (hn : l[i] ∉ out) (hy : y ∈ out) (hp : y.p = l[i].p) (hc : clE y l[i] = true) : okAll (sortd l) = false :=
  ok_false (fun hf => by
    have := hf.2 y (List.mem_of_mem_take ((h.mem y).1 hy)) _ (List.getElem_mem hi) (fun e => hn (e ▸ hy)) hp
    rw [hc] at this; cases this)
end Go.Proofs.Ytnonbonegbdfpaa
