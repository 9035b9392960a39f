/- Plain laws on lists of texts, each once, rising. -/
import Derived.Test.YtendihbndpahdaaDoorBase
import Derived.Lib.SlicesCompact
import Derived.Lib.RowBridge
namespace Go.Proofs.YtendihbndpahdaaDoor
open Go Go.RowKit Go.Lib

/-- each once, rising -/
def Asc (l : List (List UInt8)) : Prop := l.Pairwise (· < ·)

theorem asc_ext : ∀ {a b : List (List UInt8)}, Asc a → Asc b → (∀ x, x ∈ a ↔ x ∈ b) → a = b
  | [], [], _, _, _ => rfl
  | [], y :: b, _, _, h => absurd ((h y).2 List.mem_cons_self) List.not_mem_nil
  | x :: a, [], _, _, h => absurd ((h x).1 List.mem_cons_self) List.not_mem_nil
  | x :: a, y :: b, ha, hb, h => by
    have ha' := List.pairwise_cons.1 ha
    have hb' := List.pairwise_cons.1 hb
    have hxy : x = y := by
      rcases List.mem_cons.1 ((h x).1 List.mem_cons_self) with e | hx
      · exact e
      · rcases List.mem_cons.1 ((h y).2 List.mem_cons_self) with e | hy
        · exact e.symm
        · exact absurd (List.lt_trans (ha'.1 y hy) (hb'.1 x hx)) (List.lt_irrefl x)
    subst hxy
    congr 1
    refine asc_ext ha'.2 hb'.2 fun z => ⟨fun hz => ?_, fun hz => ?_⟩
    · rcases List.mem_cons.1 ((h z).1 (List.mem_cons_of_mem _ hz)) with e | hz'
      · subst e; exact absurd (ha'.1 z hz) (List.lt_irrefl z)
      · exact hz'
    · rcases List.mem_cons.1 ((h z).2 (List.mem_cons_of_mem _ hz)) with e | hz'
      · subst e; exact absurd (hb'.1 z hz) (List.lt_irrefl z)
      · exact hz'

theorem compactUpTo_asc (d : Array (List UInt8)) (hs : ∀ i j, i ≤ j → j < d.size → d[i]! ≤ d[j]!) : ∀ m, m ≤ d.size →
    Asc (compactUpTo d m) ∧ (∀ x, x ∈ compactUpTo d m ↔ ∃ i, i < m ∧ d[i]! = x)
  | 0, _ => by
    constructor
    · simp [compactUpTo, Asc]
    · intro x; simp [compactUpTo]
  | m + 1, hm => by
    obtain ⟨h1, h2⟩ := compactUpTo_asc d hs m (by omega)
    rw [compactUpTo_succ]
    by_cases hk : keeps d m = true
    · rw [if_pos hk]
      have hk' : m = 0 ∨ d[m]! ≠ d[m - 1]! := by simpa [keeps] using hk
      refine ⟨List.pairwise_append.2 ⟨h1, List.pairwise_singleton _ _, fun x hx y hy => ?_⟩, fun x => ?_⟩
      · obtain ⟨i, hi, rfl⟩ := (h2 x).1 hx
        obtain rfl := List.mem_singleton.1 hy
        rcases hk' with h0 | h0
        · omega
        · have a1 := hs i (m - 1) (by omega) (by omega)
          have a2 := hs (m - 1) m (by omega) (by omega)
          have a3 : d[m - 1]! < d[m]! := by
            rcases List.le_iff_lt_or_eq.1 a2 with h | h
            · exact h
            · exact absurd h.symm h0
          rcases List.le_iff_lt_or_eq.1 a1 with h | h
          · exact List.lt_trans h a3
          · rw [h]; exact a3
      · rw [List.mem_append, h2, List.mem_singleton]
        constructor
        · rintro (⟨i, hi, rfl⟩ | rfl)
          · exact ⟨i, by omega, rfl⟩
          · exact ⟨m, by omega, rfl⟩
        · rintro ⟨i, hi, rfl⟩
          rcases Nat.lt_or_ge i m with h | h
          · exact .inl ⟨i, h, rfl⟩
          · obtain rfl : i = m := by omega
            exact .inr rfl
    · rw [if_neg hk, List.append_nil]
      have hk' : ¬ (m = 0 ∨ d[m]! ≠ d[m - 1]!) := by simpa [keeps] using hk
      refine ⟨h1, fun x => ?_⟩
      rw [h2]
      constructor
      · rintro ⟨i, hi, rfl⟩; exact ⟨i, by omega, rfl⟩
      · rintro ⟨i, hi, rfl⟩
        rcases Nat.lt_or_ge i m with h | h
        · exact ⟨i, h, rfl⟩
        · obtain rfl : i = m := by omega
          have h3 : d[i]! = d[i - 1]! := Classical.byContradiction fun hn => hk' (.inr hn)
          exact ⟨i - 1, by omega, h3.symm⟩

/-- each once, rising: by sorting -/
def cs (l : List (List UInt8)) : List (List UInt8) := Lib.compact (l.mergeSort fun x y => decide (x ≤ y))
theorem cs_len (l : List (List UInt8)) : (cs l).length ≤ l.length := by
  have := compact_length_le (l.mergeSort fun x y => decide (x ≤ y))
  rw [List.length_mergeSort] at this
  exact this
theorem cs_asc (l : List (List UInt8)) : Asc (cs l) ∧ ∀ x, x ∈ cs l ↔ x ∈ l := by
  have hp : (l.mergeSort fun x y => decide (x ≤ y)).Pairwise (fun a b => decide (a ≤ b) = true) := by
    apply List.pairwise_mergeSort
    · intro a b c h1 h2
      exact decide_eq_true (List.le_trans (of_decide_eq_true h1) (of_decide_eq_true h2))
    · intro a b
      rcases List.le_total a b with h | h
      · simp [h]
      · simp [h]
  have hs : ∀ i j, i ≤ j → j < (l.mergeSort fun x y => decide (x ≤ y)).toArray.size → (l.mergeSort fun x y => decide (x ≤ y)).toArray[i]! ≤ (l.mergeSort fun x y => decide (x ≤ y)).toArray[j]! := by
    intro i j hij hj
    rw [getElem!_pos _ i (by omega), getElem!_pos _ j hj]
    rcases Nat.lt_or_ge i j with h | h
    · have := List.pairwise_iff_getElem.1 hp i j (by simp at hj ⊢; omega) (by simpa using hj) h
      simpa using this
    · obtain rfl : i = j := by omega
      exact List.le_refl _
  obtain ⟨h1, h2⟩ := compactUpTo_asc _ hs _ (Nat.le_refl _)
  refine ⟨by simpa [cs, Lib.compact] using h1, fun x => ?_⟩
  have e : cs l = compactUpTo (l.mergeSort fun x y => decide (x ≤ y)).toArray (l.mergeSort fun x y => decide (x ≤ y)).toArray.size := by
    simp [cs, Lib.compact]
  rw [e, h2, ← (List.mergeSort_perm l fun x y => decide (x ≤ y)).mem_iff, List.mem_iff_getElem]
  constructor
  · rintro ⟨i, hi, rfl⟩
    exact ⟨i, by simpa using hi, by rw [getElem!_pos _ i hi]; simp⟩
  · rintro ⟨i, hi, rfl⟩
    exact ⟨i, by simpa using hi, by rw [getElem!_pos _ i (by simpa using hi)]; simp⟩
theorem cs_eq {l o : List (List UInt8)} (h : Asc o) (hm : ∀ x, x ∈ o ↔ x ∈ l) : o = cs l :=
  asc_ext h (cs_asc l).1 fun x => (hm x).trans ((cs_asc l).2 x).symm
theorem cs_self {l : List (List UInt8)} (h : Asc l) : cs l = l := (cs_eq h fun _ => Iff.rfl).symm

/-- x put in at place k -/
def insK {α : Type} (out : List α) (x : α) (k : Nat) : List α := out.take k ++ x :: out.drop k
section
variable {α : Type} {out : List α} {x : α} {k m : Nat}
theorem insK_len (h : k ≤ out.length) : (insK out x k).length = out.length + 1 := by
  simp only [insK, List.length_append, List.length_cons, List.length_take, List.length_drop]; omega
theorem insK_self (h : k ≤ out.length) : (insK out x k)[k]'(by rw [insK_len h]; omega) = x := by
  simp only [insK]
  rw [List.getElem_append_right (by rw [List.length_take]; omega)]
  simp [List.length_take, Nat.min_eq_left h]
theorem insK_lt (h : k ≤ out.length) (hm : m < k) : (insK out x k)[m]'(by rw [insK_len h]; omega) = out[m] := by
  simp only [insK]
  rw [List.getElem_append_left (by rw [List.length_take]; omega), List.getElem_take]
theorem insK_swap : ∀ {out : List α} {x : α} {m : Nat} (h : m < out.length), ((insK out x (m + 1)).set (m + 1) out[m]).set m x = insK out x m
  | o :: out, x, 0, _ => rfl
  | o :: out, x, m + 1, h => by
    have := insK_swap (out := out) (x := x) (m := m) (by simpa using h)
    simp only [insK] at this ⊢
    simp only [List.take_succ_cons, List.drop_succ_cons, List.cons_append, List.set_cons_succ, List.getElem_cons_succ]
    rw [this]
theorem insK_end (out : List α) (x : α) : insK out x out.length = out ++ [x] := by simp [insK]
theorem insK_mem (out : List α) (x y : α) (k : Nat) : y ∈ insK out x k ↔ y = x ∨ y ∈ out := by
  unfold insK
  rw [List.mem_append, List.mem_cons]
  conv => rhs; rw [← List.take_append_drop k out, List.mem_append]
  constructor
  · rintro (h | h | h)
    · exact .inr (.inl h)
    · exact .inl h
    · exact .inr (.inr h)
  · rintro (h | h | h)
    · exact .inr (.inl h)
    · exact .inl h
    · exact .inr (.inr h)
end

/-- where x comes to lie -/
theorem insK_asc {out : List (List UInt8)} {x : List UInt8} {k : Nat} (h : Asc out) (hx : x ∉ out) (hk : k ≤ out.length) (hi : ∀ y ∈ out.drop k, x < y) (hlo : ∀ (h0 : 0 < k), ¬ x < out[k - 1]'(by omega)) : Asc (insK out x k) := by
  unfold insK
  unfold Asc at *
  have h' := h
  rw [← List.take_append_drop k out] at h'
  obtain ⟨h1, h2, h3⟩ := List.pairwise_append.1 h'
  refine List.pairwise_append.2 ⟨h1, List.pairwise_cons.2 ⟨hi, h2⟩, fun a ha b hb => ?_⟩
  have hax : a < x := by
    have hk0 : 0 < k := by
      rcases Nat.eq_zero_or_pos k with e | e
      · subst e; simp at ha
      · exact e
    have hl := hlo hk0
    have hne : out[k - 1]'(by omega) ≠ x := fun e => hx (e ▸ List.getElem_mem _)
    have hlt : out[k - 1]'(by omega) < x := by
      rcases List.le_iff_lt_or_eq.1 (Std.not_lt.1 hl) with h | h
      · exact h
      · exact absurd h hne
    obtain ⟨i, hi', rfl⟩ := List.mem_iff_getElem.1 ha
    rw [List.getElem_take]
    have hi2 : i < k := by rw [List.length_take] at hi'; omega
    rcases Nat.lt_or_ge i (k - 1) with h | h
    · exact List.lt_trans (List.pairwise_iff_getElem.1 ‹out.Pairwise _› i (k - 1) (by omega) (by omega) h) hlt
    · obtain rfl : i = k - 1 := by omega
      exact hlt
  rcases List.mem_cons.1 hb with rfl | hb
  · exact hax
  · exact h3 a ha b hb

/-- the first i of l, each once, rising -/
structure RefS (l : List (List UInt8)) (i : Nat) (out : List (List UInt8)) : Prop where
  asc : Asc out
  mem : ∀ x, x ∈ out ↔ x ∈ l.take i
  len : out.length ≤ i
theorem RefS.start (l : List (List UInt8)) : RefS l 0 [] := ⟨List.Pairwise.nil, by simp, Nat.le_refl _⟩
theorem RefS.twice {l out : List (List UInt8)} {i : Nat} (h : RefS l i out) (hi : i < l.length) (hx : l[i] ∈ out) : RefS l (i + 1) out :=
  ⟨h.asc, fun x => by
    rw [List.take_succ_eq_append_getElem hi, List.mem_append, List.mem_singleton, h.mem]
    exact ⟨.inl, fun | .inl e => e | .inr e => (h.mem x).1 (e ▸ hx)⟩, by have := h.len; omega⟩
theorem RefS.more {l out : List (List UInt8)} {i k : Nat} (h : RefS l i out) (hi : i < l.length) (hx : l[i] ∉ out) (hk : k ≤ out.length) (hd : ∀ y ∈ out.drop k, l[i] < y) (hlo : ∀ (h0 : 0 < k), ¬ l[i] < out[k - 1]'(by omega)) :
    RefS l (i + 1) (insK out l[i] k) :=
  ⟨insK_asc h.asc hx hk hd hlo, fun x => by
    rw [insK_mem, List.take_succ_eq_append_getElem hi, List.mem_append, List.mem_singleton, h.mem]
    exact ⟨fun h => h.symm, fun h => h.symm⟩, by rw [insK_len hk]; have := h.len; omega⟩
theorem RefS.done {l out : List (List UInt8)} (h : RefS l l.length out) : out = cs l := cs_eq h.asc fun x => by rw [h.mem, List.take_length]
end Go.Proofs.YtendihbndpahdaaDoor
