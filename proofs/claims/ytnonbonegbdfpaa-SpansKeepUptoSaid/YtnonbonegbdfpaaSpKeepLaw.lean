/- What Apply makes of one text; where Moved says that a byte stands. Plain Lean. -/
import Derived.Test.YtnonbonegbdfpaaSpSet
namespace Go.Proofs.Ytnonbonegbdfpaa
open Go Go.RowKit Go.Lib Go.Sort

/-- the text from place q on, with the edits put in -/
def bld (s : List UInt8) : Nat → List Ed → List UInt8
  | q, [] => s.drop q
  | q, e :: c => (s.take e.fr.toNat).drop q ++ (e.tx.data.toList ++ bld s e.to.toNat c)
def chain (n : Nat) : Nat → List Ed → Prop
  | q, [] => q ≤ n
  | q, e :: c => (q ≤ e.fr.toNat ∧ 0 ≤ e.fr ∧ e.fr ≤ e.to) ∧ chain n e.to.toNat c
theorem chain_le {n : Nat} : ∀ {c : List Ed} {q : Nat}, chain n q c → q ≤ n
  | [], _, h => h
  | e :: c, q, h => by have := chain_le h.2; have := h.1; omega
/-- where the byte at i stands in it -/
def mv : Nat → List Ed → Nat → Option Nat
  | q, [], i => some (i - q)
  | q, e :: c, i => if (i : Int) < e.fr then some (i - q) else if (i : Int) < e.to then none else (mv e.to.toNat c i).map (· + (e.fr.toNat - q + e.tx.size))
theorem mv_at {s : List UInt8} : ∀ {c : List Ed} {q i k : Nat}, chain s.length q c → q ≤ i → i < s.length → mv q c i = some k → (bld s q c)[k]? = s[i]?
  | [], q, i, k, h, h1, h2, h3 => by
    simp only [mv, Option.some.injEq] at h3
    subst h3
    simp only [bld, List.getElem?_drop]
    congr 1; omega
  | e :: c, q, i, k, h, h1, h2, h3 => by
    obtain ⟨⟨g1, g2, g3⟩, g4⟩ := h
    have g5 := chain_le g4
    have hl : ((s.take e.fr.toNat).drop q).length = e.fr.toNat - q := by rw [List.length_drop, List.length_take]; omega
    simp only [bld]
    simp only [mv] at h3
    split at h3
    · simp only [Option.some.injEq] at h3
      subst h3
      rw [List.getElem?_append_left (by rw [hl]; omega), List.getElem?_drop, List.getElem?_take, if_pos (by omega)]
      congr 1; omega
    · split at h3
      · cases h3
      · rw [Option.map_eq_some_iff] at h3
        obtain ⟨k', h4, rfl⟩ := h3
        have := mv_at g4 (by omega) h2 h4
        have ht : e.tx.data.toList.length = e.tx.size := Array.length_toList
        rw [List.getElem?_append_right (by rw [hl]; omega), List.getElem?_append_right (by rw [hl, ht]; omega), ← this, hl, ht]
        congr 1; omega
theorem mv_lt {s : List UInt8} {c : List Ed} {q i k : Nat} (h : chain s.length q c) (h1 : q ≤ i) (h2 : i < s.length) (h3 : mv q c i = some k) : k < (bld s q c).length := by
  have := mv_at h h1 h2 h3
  rw [List.getElem?_eq_getElem h2] at this
  rcases Nat.lt_or_ge k (bld s q c).length with g | g
  · exact g
  · rw [List.getElem?_eq_none g] at this; cases this
theorem mv_mono {n : Nat} : ∀ {c : List Ed} {q i i' k k' : Nat}, chain n q c → q ≤ i → i < i' → mv q c i = some k → mv q c i' = some k' → k < k'
  | [], q, i, i', k, k', h, h1, h2, h3, h4 => by
    simp only [mv, Option.some.injEq] at h3 h4
    omega
  | e :: c, q, i, i', k, k', h, h1, h2, h3, h4 => by
    obtain ⟨⟨g1, g2, g3⟩, g4⟩ := h
    simp only [mv] at h3 h4
    split at h3
    · simp only [Option.some.injEq] at h3
      split at h4
      · simp only [Option.some.injEq] at h4
        omega
      · split at h4
        · cases h4
        · rw [Option.map_eq_some_iff] at h4
          obtain ⟨k2, h5, rfl⟩ := h4
          omega
    · split at h3
      · cases h3
      · rw [if_neg (by omega), if_neg (by omega)] at h4
        rw [Option.map_eq_some_iff] at h3 h4
        obtain ⟨k1, h5, rfl⟩ := h3
        obtain ⟨k2, h6, rfl⟩ := h4
        have := mv_mono g4 (by omega) h2 h5 h6
        omega
def cnt (f : Nat → Bool) : Nat → Nat
  | 0 => 0
  | n + 1 => cnt f n + if f n then 1 else 0
theorem cnt_all {f : Nat → Bool} {a : Nat} : ∀ {n : Nat}, a ≤ n → (∀ i, a ≤ i → i < n → f i = true) → cnt f n = cnt f a + (n - a)
  | 0, h, _ => by obtain rfl : a = 0 := by omega
                  rfl
  | n + 1, h, hf => by
    rcases Nat.lt_or_ge a (n + 1) with h1 | h1
    · rw [cnt, cnt_all (by omega) (fun i h2 h3 => hf i h2 (by omega)), hf n (by omega) (by omega)]
      simp; omega
    · obtain rfl : a = n + 1 := by omega
      simp
theorem cnt_none {f : Nat → Bool} {a : Nat} : ∀ {n : Nat}, a ≤ n → (∀ i, a ≤ i → i < n → f i = false) → cnt f n = cnt f a
  | 0, h, _ => by obtain rfl : a = 0 := by omega
                  rfl
  | n + 1, h, hf => by
    rcases Nat.lt_or_ge a (n + 1) with h1 | h1
    · rw [cnt, cnt_none (by omega) (fun i h2 h3 => hf i h2 (by omega)), hf n (by omega) (by omega)]
      simp
    · obtain rfl : a = n + 1 := by omega
      rfl
theorem cnt_ext {f g : Nat → Bool} {a : Nat} : ∀ {n : Nat}, a ≤ n → (∀ i, a ≤ i → i < n → f i = g i) → cnt f n + cnt g a = cnt g n + cnt f a
  | 0, h, _ => by obtain rfl : a = 0 := by omega
                  simp [cnt]
  | n + 1, h, hf => by
    rcases Nat.lt_or_ge a (n + 1) with h1 | h1
    · have := cnt_ext (n := n) (by omega) (fun i h2 h3 => hf i h2 (by omega))
      rw [cnt, cnt, hf n (by omega) (by omega)]
      omega
    · obtain rfl : a = n + 1 := by omega
      omega
theorem mv_cnt {s : List UInt8} : ∀ {c : List Ed} {q : Nat}, chain s.length q c → cnt (fun i => (mv q c i).isSome) s.length - cnt (fun i => (mv q c i).isSome) q + (c.map fun x => x.tx.size).sum = (bld s q c).length ∧ cnt (fun i => (mv q c i).isSome) q ≤ cnt (fun i => (mv q c i).isSome) s.length
  | [], q, h => by
    have := cnt_all (f := fun i => (mv q [] i).isSome) (a := q) (n := s.length) h (fun i _ _ => rfl)
    rw [this]
    simp only [bld, List.length_drop, List.map_nil, List.sum_nil]
    omega
  | e :: c, q, h => by
    obtain ⟨⟨g1, g2, g3⟩, g4⟩ := h
    have g5 := chain_le g4
    have hl : ((s.take e.fr.toNat).drop q).length = e.fr.toNat - q := by rw [List.length_drop, List.length_take]; omega
    have ht : e.tx.data.toList.length = e.tx.size := Array.length_toList
    obtain ⟨i1, i2⟩ := mv_cnt g4
    have a1 := cnt_all (f := fun i => (mv q (e :: c) i).isSome) (a := q) (n := e.fr.toNat) g1 (fun i h1 h2 => by simp only [mv]; rw [if_pos (by omega)]; rfl)
    have a2 := cnt_none (f := fun i => (mv q (e :: c) i).isSome) (a := e.fr.toNat) (n := e.to.toNat) (by omega) (fun i h1 h2 => by simp only [mv]; rw [if_neg (by omega), if_pos (by omega)]; rfl)
    have a3 := cnt_ext (f := fun i => (mv q (e :: c) i).isSome) (g := fun i => (mv e.to.toNat c i).isSome) (a := e.to.toNat) (n := s.length) g5 (fun i h1 h2 => by simp only [mv]; rw [if_neg (by omega), if_neg (by omega), Option.isSome_map])
    simp only [bld, List.length_append, List.map_cons, List.sum_cons, hl, ht]
    omega

/-! ### Moved -/
def mvI : List Ed → Int → Option Int
  | [], i => some i
  | e :: c, i => if e.fr ≤ i ∧ i < e.to then none else (mvI c i).map (· + (if e.to ≤ i then (e.tx.size : Int) - (e.to - e.fr) else 0))
theorem mvI_far {n : Nat} : ∀ {c : List Ed} {q i : Nat}, chain n q c → i < q → mvI c i = some (i : Int)
  | [], _, _, _, _ => rfl
  | e :: c, q, i, h, hi => by
    obtain ⟨⟨g1, g2, g3⟩, g4⟩ := h
    unfold mvI
    rw [if_neg (by omega), mvI_far g4 (show i < e.to.toNat by omega), Option.map_some, if_neg (by omega), Int.add_zero]
theorem mvI_mv {n : Nat} : ∀ {c : List Ed} {q i : Nat}, chain n q c → q ≤ i → mvI c i = (mv q c i).map (fun k => (k : Int) + q)
  | [], q, i, _, hi => by
    exact congrArg some (show (i : Int) = ((i - q : Nat) : Int) + q by omega)
  | e :: c, q, i, h, hi => by
    obtain ⟨⟨g1, g2, g3⟩, g4⟩ := h
    unfold mvI mv
    by_cases h1 : (i : Int) < e.fr
    · rw [if_neg (by omega), if_pos h1, mvI_far g4 (show i < e.to.toNat by omega), if_neg (by omega)]
      exact congrArg some (show (i : Int) + 0 = ((i - q : Nat) : Int) + q by omega)
    · by_cases h2 : (i : Int) < e.to
      · rw [if_pos (by omega), if_neg h1, if_pos h2]; rfl
      · rw [if_neg (by omega), if_neg h1, if_neg h2, mvI_mv g4 (by omega), if_pos (by omega)]
        cases mv e.to.toNat c i with
        | none => rfl
        | some k => exact congrArg some (show (k : Int) + e.to.toNat + ((e.tx.size : Int) - (e.to - e.fr)) = ((k + (e.fr.toNat - q + e.tx.size) : Nat) : Int) + q by omega)
theorem mvI_snoc : ∀ {c : List Ed} {x : Ed} {i : Int}, mvI (c ++ [x]) i = match mvI c i with | none => none | some z => if x.fr ≤ i ∧ i < x.to then none else some (z + (if x.to ≤ i then (x.tx.size : Int) - (x.to - x.fr) else 0))
  | [], x, i => by
    simp only [List.nil_append, mvI]
    split
    · rfl
    · rw [Option.map_some]
  | e :: c, x, i => by
    rw [List.cons_append, mvI, mvI_snoc (c := c), mvI]
    split
    · rfl
    · cases mvI c i with
      | none => rfl
      | some z =>
        simp only [Option.map_some]
        by_cases h : x.fr ≤ i ∧ i < x.to
        · rw [if_pos h, if_pos h]; rfl
        · rw [if_neg h, if_neg h, Option.map_some]
          refine congrArg some ?_
          show z + (if x.to ≤ i then (x.tx.size : Int) - (x.to - x.fr) else 0) + (if e.to ≤ i then (e.tx.size : Int) - (e.to - e.fr) else 0) = _
          omega
/-- Moved over the first j edits -/
def mvJ (c : List Ed) (p : ByteArray) (i : Int) : Nat → Option Int
  | 0 => some i
  | j + 1 => match mvJ c p i j with
    | none => none
    | some z => if (eAt c j).p ≠ p then some z else if (eAt c j).fr ≤ i ∧ i < (eAt c j).to then none else some (z + (if (eAt c j).to ≤ i then ((eAt c j).tx.size : Int) - ((eAt c j).to - (eAt c j).fr) else 0))
theorem mvJ_mvI {c : List Ed} {p : ByteArray} {i : Int} (h : ∀ x ∈ c, x.p = p) : ∀ {j : Nat}, j ≤ c.length → mvJ c p i j = mvI (c.take j) i
  | 0, _ => rfl
  | j + 1, hj => by
    rw [mvJ, mvJ_mvI h (by omega), List.take_succ_eq_append_getElem (by omega), mvI_snoc, eAt_at (show j < c.length by omega)]
    cases mvI (c.take j) i with
    | none => rfl
    | some z =>
      simp only
      rw [if_neg (fun g => g (h _ (List.getElem_mem _)))]
theorem mvJ_none {c : List Ed} {p : ByteArray} {i : Int} {j : Nat} (h : mvJ c p i j = none) : ∀ d, mvJ c p i (j + d) = none
  | 0 => h
  | d + 1 => by rw [show j + (d + 1) = (j + d) + 1 from rfl, mvJ, mvJ_none h d]

/-! ### one text -/
theorem chain_of {c : List Ed} {n : Nat} {p : ByteArray} (hok : okAll c = true) (hp : ∀ x ∈ c, x.p = p) (hto : ∀ x ∈ c, x.to ≤ (n : Int)) : ∀ (d i q : Nat), i + d = c.length → (hi : i < c.length → q ≤ (eAt c i).fr.toNat) → q ≤ n → chain n q (c.drop i)
  | 0, i, q, h, _, hq => by
    rw [List.drop_eq_nil_of_le (by omega)]; exact hq
  | d + 1, i, q, h, hi, hq => by
    have hl : i < c.length := by omega
    have hv := ok_fr hok hl
    rw [List.drop_eq_getElem_cons hl]
    have h2 := hi hl
    rw [eAt_at hl] at h2
    have ht := hto _ (List.getElem_mem hl)
    refine ⟨⟨h2, by omega, by omega⟩, chain_of hok hp hto d (i + 1) _ (by omega) (fun h3 => ?_) (by omega)⟩
    have := ok_next hok h3 (by rw [hp _ (List.getElem_mem h3), hp _ (List.getElem_mem hl)])
    rw [eAt_at h3]
    omega
theorem spl_list {t : ByteArray} {x : Ed} (h2 : x.to ≤ (t.size : Int)) : (spl t x).data.toList = t.data.toList.take x.fr.toNat ++ (x.tx.data.toList ++ t.data.toList.drop x.to.toNat) := by
  have hl : t.data.toList.length = t.size := Array.length_toList
  have he : ∀ a b : Nat, (t.extract a b).data.toList = (t.data.toList.drop a).take (b - a) := fun a b => by
    rw [ByteArray.data_extract, Array.toList_extract]
  have h : Lib.join [(t.extract 0 x.fr.toNat).data.toList, x.tx.data.toList, (t.extract x.to.toNat t.size).data.toList] [] = (t.extract 0 x.fr.toNat).data.toList ++ (x.tx.data.toList ++ (t.extract x.to.toNat t.size).data.toList) := by
    unfold Lib.join List.intercalate
    simp [List.intersperse]
  unfold spl joinB
  simp only [List.map_cons, List.map_nil, h]
  rw [he, he, List.drop_zero, Nat.sub_zero, List.take_of_length_le (l := t.data.toList.drop x.to.toNat) (by rw [List.length_drop]; omega)]
theorem one_look {p s : ByteArray} : lookJ [⟨p, s⟩] p [(⟨p, s⟩ : Fi)].length = some 0 := by
  show lookJ [⟨p, s⟩] p 1 = some 0
  unfold lookJ
  exact if_pos rfl
theorem runK_to {p s : ByteArray} {c : List Ed} (hp : ∀ x ∈ c, x.p = p) : ∀ {k : Nat} {gs : List Fi}, k ≤ c.length → runK [⟨p, s⟩] c k = some gs → ∀ j, j < k → (backE c j).to ≤ (s.size : Int)
  | k + 1, gs, hk, h, j, hj => by
    unfold runK at h
    split at h
    · cases h
    · rename_i g0 hg
      rcases Nat.lt_or_ge j k with hjk | hjk
      · exact runK_to hp (by omega) hg j hjk
      · obtain rfl : j = k := by omega
        unfold stepE at h
        rw [backE_at (by omega), hp _ (List.getElem_mem _), one_look] at h
        simp only at h
        split at h
        · rename_i hto
          rw [backE_at (by omega)]
          exact hto
        · cases h
theorem runK_one {p s : ByteArray} {c : List Ed} (hp : ∀ x ∈ c, x.p = p) (hto : ∀ x ∈ c, x.to ≤ (s.size : Int)) (hok : okAll c = true) : ∀ {k : Nat}, k ≤ c.length →
    ∃ T : ByteArray, runK [⟨p, s⟩] c k = some [⟨p, T⟩] ∧ ∀ q, chain s.size q (c.drop (c.length - k)) → T.data.toList = s.data.toList.take q ++ bld s.data.toList q (c.drop (c.length - k))
  | 0, _ => ⟨s, rfl, fun q _ => by rw [Nat.sub_zero, List.drop_length]; exact (List.take_append_drop q _).symm⟩
  | k + 1, hk => by
    obtain ⟨T, h1, h2⟩ := runK_one hp hto hok (k := k) (by omega)
    have hi : c.length - (k + 1) < c.length := by omega
    have hd : c.drop (c.length - (k + 1)) = c[c.length - (k + 1)] :: c.drop (c.length - k) := by
      rw [List.drop_eq_getElem_cons hi]; congr 2; omega
    have hb : backE c k = c[c.length - (k + 1)] := by rw [backE_at (by omega)]; congr 1; omega
    have hv := ok_fr hok hi
    have ht := hto _ (List.getElem_mem hi)
    obtain ⟨x, hx⟩ : ∃ x, c[c.length - (k + 1)] = x := ⟨_, rfl⟩
    rw [hx] at hd hb hv ht
    have hch : chain s.size x.to.toNat (c.drop (c.length - k)) := chain_of hok hp hto k (c.length - k) _ (by omega) (fun h3 => by
      have h3' : c.length - (k + 1) + 1 < c.length := by omega
      have := ok_next hok h3' (by rw [hp _ (List.getElem_mem h3'), hp _ (List.getElem_mem hi)])
      rw [hx] at this
      have e : eAt c (c.length - k) = c[c.length - (k + 1) + 1] := by rw [← eAt_at h3']; congr 1; omega
      rw [e]; omega) (by omega)
    have hT := h2 _ hch
    have hsl : s.data.toList.length = s.size := Array.length_toList
    have hTl : T.data.toList.length = T.size := Array.length_toList
    have hts : x.to ≤ (T.size : Int) := by
      have := congrArg List.length hT
      rw [hTl, List.length_append, List.length_take] at this
      omega
    refine ⟨spl T x, ?_, fun q hq => ?_⟩
    · unfold runK
      rw [h1]
      simp only
      unfold stepE
      rw [hb, show x.p = p from by rw [← hx]; exact hp _ (List.getElem_mem hi), one_look]
      simp only
      rw [if_pos (by exact ht)]
      rfl
    · rw [hd] at hq ⊢
      obtain ⟨⟨g1, g2, g3⟩, g4⟩ := hq
      rw [spl_list hts, hT]
      simp only [bld]
      have e1 : (s.data.toList.take x.to.toNat ++ bld s.data.toList x.to.toNat (c.drop (c.length - k))).take x.fr.toNat = s.data.toList.take x.fr.toNat := by
        rw [List.take_append_of_le_length (by rw [List.length_take]; omega), List.take_take]
        congr 1; omega
      have e2 : (s.data.toList.take x.to.toNat ++ bld s.data.toList x.to.toNat (c.drop (c.length - k))).drop x.to.toNat = bld s.data.toList x.to.toNat (c.drop (c.length - k)) := by
        rw [List.drop_append, List.drop_eq_nil_of_le (by rw [List.length_take]; omega), List.length_take, Nat.min_eq_left (by omega), Nat.sub_self, List.drop_zero, List.nil_append]
      have e3 : s.data.toList.take q ++ (s.data.toList.take x.fr.toNat).drop q = s.data.toList.take x.fr.toNat := by
        have := List.take_append_drop q (s.data.toList.take x.fr.toNat)
        rwa [List.take_take, Nat.min_eq_left (by omega)] at this
      rw [e1, e2, ← List.append_assoc (s.data.toList.take q), e3]
/-- what Apply makes of one text -/
theorem apply_one {p s : ByteArray} {l : List Ed} {gs : List Fi} (hp : ∀ x ∈ l, x.p = p) (h : applyP [⟨p, s⟩] l = some gs) :
    ∃ T : ByteArray, gs = [⟨p, T⟩] ∧ okAll (sortd l) = true ∧ chain s.size 0 (sortd l) ∧ T.data.toList = bld s.data.toList 0 (sortd l) := by
  have hp' : ∀ x ∈ sortd l, x.p = p := fun x hx => hp x (sortd_iff.1 hx)
  unfold applyP at h
  split at h
  · cases h
  · split at h
    · rename_i hok
      have hto : ∀ x ∈ sortd l, x.to ≤ (s.size : Int) := fun x hx => by
        obtain ⟨i, hi, rfl⟩ := List.getElem_of_mem hx
        have := runK_to hp' (Nat.le_refl _) h ((sortd l).length - 1 - i) (by omega)
        rw [backE_at (by omega)] at this
        have e : (sortd l)[(sortd l).length - 1 - ((sortd l).length - 1 - i)]'(by omega) = (sortd l)[i] := by congr 1; omega
        rw [e] at this
        exact this
      obtain ⟨T, h1, h2⟩ := runK_one hp' hto hok (Nat.le_refl _)
      have hch : chain s.size 0 (sortd l) := chain_of hok hp' hto (sortd l).length 0 0 (by omega) (fun _ => Nat.zero_le _) (Nat.zero_le _)
      have h3 := h2 0 (by rw [Nat.sub_self]; exact hch)
      rw [Nat.sub_self, List.drop_zero, List.take_zero, List.nil_append] at h3
      rw [h1] at h
      cases h
      exact ⟨T, rfl, hok, hch, h3⟩
    · cases h
end Go.Proofs.Ytnonbonegbdfpaa
