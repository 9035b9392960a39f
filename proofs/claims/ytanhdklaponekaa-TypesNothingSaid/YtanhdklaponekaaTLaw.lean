/- Being identical is an equivalence; identical types that are shaped have one text; how long a text is. Plain Lean. -/
import Derived.Test.YtanhdklaponekaaTextP
import Derived.Test.YtanhdklaponekaaIdent
namespace Go.Proofs.Ytanhdklaponekaa
open Go Go.RowKit

mutual
/-- what the statement's shaped says of a type, as far as it is needed -/
def ShT : T → Prop
  | .mk k _ _ _ _ _ ks => (k = 9 → ks.length = 1) ∧ (k = 15 → ∀ x ∈ ks, x.kd = 13) ∧ ShL ks
def ShL : List T → Prop
  | [] => True
  | t :: ts => ShT t ∧ ShL ts
end
theorem ShL_iff : ∀ {ts : List T}, ShL ts ↔ ∀ t ∈ ts, ShT t
  | [] => by simp [ShL]
  | t :: ts => by simp [ShL, ShL_iff (ts := ts)]
theorem ShT.iff {t : T} : ShT t ↔ (t.kd = 9 → t.ks.length = 1) ∧ (t.kd = 15 → ∀ x ∈ t.ks, x.kd = 13) ∧ ∀ x ∈ t.ks, ShT x := by
  obtain ⟨k, nm, n, f, ns, ms, ks⟩ := t
  rw [ShT, ShL_iff]; rfl
theorem ShT.zero : ShT T.zero := by rw [ShT.iff]; simp [T.zero, T.kd, T.ks]
theorem ShT.kid {t : T} (h : ShT t) (i : Nat) : ShT (t.kid i) := by
  by_cases hi : i < t.ks.length
  · rw [T.kid_at hi]; exact (ShT.iff.1 h).2.2 _ (List.getElem_mem hi)
  · rw [T.kid_out (by omega)]; exact ShT.zero

theorem ident_iff {a b : T} : ident a b = true ↔ a.kd = b.kd ∧ a.nm = b.nm ∧ a.n = b.n ∧ (a.kd = 9 ∨ (a.fl = b.fl ∧ a.ns = b.ns ∧ a.ms = b.ms ∧ identL a.ks b.ks = true)) := by
  obtain ⟨k, nm, n, f, ns, ms, ks⟩ := a
  obtain ⟨k', nm', n', f', ns', ms', ks'⟩ := b
  simp [ident, T.kd, T.nm, T.n, T.fl, T.ns, T.ms, T.ks]
theorem identL_at : ∀ {xs ys : List T}, identL xs ys = true → xs.length = ys.length ∧ ∀ i (h : i < xs.length) (h' : i < ys.length), ident xs[i] ys[i] = true
  | [], [], _ => ⟨rfl, fun i h => absurd h (by simp)⟩
  | a :: xs, b :: ys, h => by
    rw [identL, Bool.and_eq_true] at h
    obtain ⟨h1, h2⟩ := identL_at h.2
    refine ⟨by simp [h1], fun i hi hi' => ?_⟩
    cases i with
    | zero => exact h.1
    | succ i => exact h2 i (by simpa using hi) (by simpa using hi')
  | [], b :: ys, h => by rw [identL] at h; cases h
  | a :: xs, [], h => by rw [identL] at h; cases h

mutual
theorem ident_symm : ∀ {a b : T}, ident a b = true → ident b a = true
  | .mk k nm n f ns ms ks, .mk k' nm' n' f' ns' ms' ks', h => by
    rw [ident_iff] at h ⊢
    simp only [T.kd, T.nm, T.n, T.fl, T.ns, T.ms, T.ks] at h ⊢
    obtain ⟨rfl, rfl, rfl, h⟩ := h
    refine ⟨rfl, rfl, rfl, ?_⟩
    rcases h with h | ⟨rfl, rfl, rfl, h⟩
    · exact .inl h
    · exact .inr ⟨rfl, rfl, rfl, identL_symm h⟩
theorem identL_symm : ∀ {xs ys : List T}, identL xs ys = true → identL ys xs = true
  | [], [], _ => by rw [identL]
  | a :: xs, b :: ys, h => by
    rw [identL, Bool.and_eq_true] at h ⊢
    exact ⟨ident_symm h.1, identL_symm h.2⟩
  | [], b :: ys, h => by rw [identL] at h; cases h
  | a :: xs, [], h => by rw [identL] at h; cases h
end
mutual
theorem ident_trans : ∀ {a b c : T}, ident a b = true → ident b c = true → ident a c = true
  | .mk k nm n f ns ms ks, .mk k' nm' n' f' ns' ms' ks', .mk k2 nm2 n2 f2 ns2 ms2 ks2, h, h' => by
    rw [ident_iff] at h h' ⊢
    simp only [T.kd, T.nm, T.n, T.fl, T.ns, T.ms, T.ks] at h h' ⊢
    obtain ⟨rfl, rfl, rfl, h⟩ := h
    obtain ⟨rfl, rfl, rfl, h'⟩ := h'
    refine ⟨rfl, rfl, rfl, ?_⟩
    rcases h with h | ⟨rfl, rfl, rfl, h⟩
    · exact .inl h
    · rcases h' with h' | ⟨rfl, rfl, rfl, h'⟩
      · exact .inl h'
      · exact .inr ⟨rfl, rfl, rfl, identL_trans h h'⟩
theorem identL_trans : ∀ {xs ys zs : List T}, identL xs ys = true → identL ys zs = true → identL xs zs = true
  | [], [], zs, _, h => h
  | a :: xs, b :: ys, c :: zs, h, h' => by
    rw [identL, Bool.and_eq_true] at h h' ⊢
    exact ⟨ident_trans h.1 h'.1, identL_trans h.2 h'.2⟩
  | [], b :: ys, _, h, _ => by rw [identL] at h; cases h
  | a :: xs, [], _, h, _ => by rw [identL] at h; cases h
  | a :: xs, b :: ys, [], _, h => by rw [identL] at h; cases h
end
theorem ident_comm (a b : T) : ident a b = ident b a := by
  cases h : ident a b with
  | true => exact (ident_symm h).symm
  | false =>
    cases h' : ident b a with
    | false => rfl
    | true => rw [ident_symm h'] at h; cases h
mutual
theorem ident_refl : ∀ (a : T), ident a a = true
  | .mk k nm n f ns ms ks => by
    rw [ident_iff]
    exact ⟨rfl, rfl, rfl, .inr ⟨rfl, rfl, rfl, identL_refl ks⟩⟩
theorem identL_refl : ∀ (xs : List T), identL xs xs = true
  | [] => by rw [identL]
  | a :: xs => by rw [identL, ident_refl a, identL_refl xs]; rfl
end

theorem ident_kid {a b : T} (h : ident a b = true) (h9 : a.kd ≠ 9) (i : Nat) : ident (a.kid i) (b.kid i) = true := by
  obtain ⟨_, _, _, h⟩ := ident_iff.1 h
  obtain ⟨_, _, _, h⟩ := h.resolve_left h9
  obtain ⟨hl, h⟩ := identL_at h
  by_cases hi : i < a.ks.length
  · rw [T.kid_at hi, T.kid_at (by omega)]; exact h i hi (by omega)
  · rw [T.kid_out (by omega), T.kid_out (by omega)]; exact ident_refl _
theorem ident_len {a b : T} (h : ident a b = true) (h9 : a.kd ≠ 9) : a.ks.length = b.ks.length := by
  obtain ⟨_, _, _, h⟩ := ident_iff.1 h
  exact (identL_at (h.resolve_left h9).2.2.2).1

/-- a signature from its parts -/
def sigOf (s : ByteArray) : List ByteArray → ByteArray
  | [] => s
  | [r] => s ++ bs [32] ++ r
  | rs => s ++ bs [32, 40] ++ joinB rs (bs [44, 32]) ++ bs [41]
theorem sigF_map (f : T → ByteArray) (t : T) : sigF f t = sigOf (insF f t) ((t.ks.map f).drop (arity t)) := by
  rw [← List.map_drop]
  unfold sigF
  match t.ks.drop (arity t) with
  | [] => rfl
  | [r] => rfl
  | a :: b :: r => rfl

section
variable {f : T → ByteArray} (hf : ∀ a b, ShT a → ident a b = true → f a = f b)
include hf
theorem map_eq {a b : T} (hs : ShT a) (h : ident a b = true) (h9 : a.kd ≠ 9) : a.ks.map f = b.ks.map f := by
  have hl := ident_len h h9
  apply List.ext_getElem (by simp [hl])
  intro i h1 h2
  simp only [List.length_map] at h1 h2
  have := ident_kid h h9 i
  have hk := hs.kid i
  rw [T.kid_at h1] at this hk
  rw [T.kid_at h2] at this
  simp only [List.getElem_map]
  exact hf _ _ hk this
theorem sig_eq {a b : T} (hs : ShT a) (h : ident a b = true) (h9 : a.kd ≠ 9) : sigF f a = sigF f b := by
  have hl := ident_len h h9
  obtain ⟨-, -, en, h2⟩ := ident_iff.1 h
  obtain ⟨ef, -⟩ := h2.resolve_left h9
  have ha : arity a = arity b := by unfold arity; rw [en, hl]
  have hi : ∀ i, inF f a i = inF f b i := by
    intro i
    have hki := ident_kid h h9 i
    have hks := hs.kid i
    have hkd := (ident_iff.1 hki).1
    have hk : f (if (a.kid i).kd = 11 then (a.kid i).kid 0 else a.kid i) = f (if (b.kid i).kd = 11 then (b.kid i).kid 0 else b.kid i) := by
      rw [← hkd]
      by_cases h11 : (a.kid i).kd = 11
      · rw [if_pos h11, if_pos h11]; exact hf _ _ (hks.kid 0) (ident_kid hki (by omega) 0)
      · rw [if_neg h11, if_neg h11]; exact hf _ _ hks hki
    unfold inF
    rw [ef, ha, hk, hf _ _ hks hki]
  rw [sigF_map, sigF_map, map_eq hf hs h h9, ha]
  unfold insF
  rw [ha, show inF f a = inF f b from funext hi]
theorem body_eq {a b : T} (hs : ShT a) (h : ident a b = true) : bodyF f a = bodyF f b := by
  obtain ⟨ek, em, en, h2⟩ := ident_iff.1 h
  by_cases h9 : a.kd = 9
  · unfold bodyF
    rw [← ek, h9]
    simp [em]
  · obtain ⟨ef, es, et, -⟩ := h2.resolve_left h9
    have hl := ident_len h h9
    have hm := map_eq hf hs h h9
    have hk : f (a.kid 0) = f (b.kid 0) := hf _ _ (hs.kid 0) (ident_kid h h9 0)
    have hj : ∀ sep, joinF f a.ks sep = joinF f b.ks sep := fun sep => by unfold joinF; rw [hm]
    have hfi : fieldsF f a = fieldsF f b := by
      unfold fieldsF
      rw [hl]
      refine List.map_congr_left fun i _ => ?_
      unfold fieldF named
      rw [es, et, hf _ _ (hs.kid i) (ident_kid h h9 i)]
    unfold bodyF
    rw [← ek, ← em, ← en, hk, hj, hj, sig_eq hf hs h h9, hfi]
    by_cases h15 : a.kd = 15
    · have : methsF f a = methsF f b := by
        unfold methsF
        rw [hl]
        congr 2
        refine List.map_congr_left fun i hi => ?_
        have hi' : i < a.ks.length := by rw [hl]; simpa using hi
        unfold methF
        rw [es, sig_eq hf (hs.kid i) (ident_kid h h9 i) ?_]
        rw [T.kid_at hi', (ShT.iff.1 hs).2.1 h15 _ (List.getElem_mem hi')]
        omega
      rw [this]
    · simp only [h15, if_false]
end
theorem txt_eq : ∀ (n : Nat) (a b : T), ShT a → ident a b = true → txt n a = txt n b
  | 0, _, _, _, _ => rfl
  | n + 1, _, _, hs, h => body_eq (txt_eq n) hs h

mutual
/-- at least a text's length -/
def wt : T → Nat
  | .mk _ nm _ _ ns _ ks => nm.size + (ns.map (·.size)).sum + 64 + 8 * ks.length + wtL ks
def wtL : List T → Nat
  | [] => 0
  | t :: ts => wt t + wtL ts
end
theorem wt_eq (t : T) : wt t = t.nm.size + (t.ns.map (·.size)).sum + 64 + 8 * t.ks.length + (t.ks.map wt).sum := by
  obtain ⟨k, nm, n, f, ns, ms, ks⟩ := t
  rw [wt]
  have : ∀ l : List T, wtL l = (l.map wt).sum := by
    intro l
    induction l with
    | nil => rw [wtL]; rfl
    | cons a l ih => rw [wtL, ih]; rfl
  rw [this]; rfl
theorem sum_mem {l : List Nat} {x : Nat} (h : x ∈ l) : x ≤ l.sum := by
  induction l with
  | nil => cases h
  | cons y l ih =>
    rw [List.sum_cons]
    rcases List.mem_cons.1 h with rfl | h
    · omega
    · have := ih h; omega
theorem wt_ge (t : T) : 64 ≤ wt t := by rw [wt_eq]; omega
theorem wt_kid (t : T) (i : Nat) : wt (t.kid i) ≤ wt t := by
  by_cases hi : i < t.ks.length
  · rw [T.kid_at hi, wt_eq t]
    have := sum_mem (List.mem_map_of_mem (f := wt) (List.getElem_mem hi))
    omega
  · rw [T.kid_out (by omega)]
    have h1 := wt_ge t
    have h2 : wt T.zero = 64 := by rw [wt_eq]; rfl
    omega
theorem kid_wt (t : T) (i : Nat) (hi : i < t.ks.length) : wt (t.kid i) + 8 + 64 ≤ wt t := by
  rw [T.kid_at hi, wt_eq t]
  have := sum_mem (List.mem_map_of_mem (f := wt) (List.getElem_mem hi))
  omega

theorem join_le (l : List ByteArray) (sep : ByteArray) : (joinB l sep).size ≤ (l.map (·.size)).sum + sep.size * l.length := by
  rw [size_joinB]
  cases l with
  | nil => simp [Lib.join]
  | cons x r =>
    rw [List.map_cons, Lib.join_length]
    have e : ∀ l : List ByteArray, Lib.lens (l.map (fun s : ByteArray => s.data.toList)) = (l.map (·.size)).sum := by
      intro l
      induction l with
      | nil => rfl
      | cons a l ih =>
        simp only [Lib.lens, List.map_cons, List.sum_cons] at ih ⊢
        rw [ih, size_list]
    have := e (x :: r)
    rw [List.map_cons] at this
    rw [this, size_list]
    simp only [List.length_map, List.length_cons]
    rw [Nat.mul_comm]
    have : (sep.size * r.length) ≤ sep.size * (r.length + 1) := Nat.mul_le_mul_left _ (by omega)
    first | omega | (rw [Nat.mul_comm r.length]; omega)

theorem range_le : ∀ (n : Nat) (g h : Nat → Nat), (∀ i, i < n → g i ≤ h i) → ((List.range n).map g).sum ≤ ((List.range n).map h).sum
  | 0, _, _, _ => by simp
  | n + 1, g, h, hh => by
    rw [List.range_succ, List.map_append, List.map_append, List.sum_append, List.sum_append]
    have h1 := range_le n g h fun i hi => hh i (by omega)
    have h2 := hh n (by omega)
    simp only [List.map_cons, List.map_nil, List.sum_cons, List.sum_nil]
    omega
theorem range_add : ∀ (n : Nat) (g h : Nat → Nat), ((List.range n).map (fun i => g i + h i)).sum = ((List.range n).map g).sum + ((List.range n).map h).sum
  | 0, _, _ => by simp
  | n + 1, g, h => by
    rw [List.range_succ, List.map_append, List.map_append, List.map_append, List.sum_append, List.sum_append, List.sum_append, range_add n g h]
    simp only [List.map_cons, List.map_nil, List.sum_cons, List.sum_nil]
    omega
theorem range_const : ∀ (n c : Nat), ((List.range n).map (fun _ => c)).sum = n * c
  | 0, _ => by simp
  | n + 1, c => by
    rw [List.range_succ, List.map_append, List.sum_append, range_const n c, Nat.add_mul]
    simp
theorem sum_range {α : Type} (l : List α) (z : α) (g : α → Nat) : ∀ n, n ≤ l.length → ((List.range n).map (fun i => g ((l[i]?).getD z))).sum = ((l.take n).map g).sum
  | 0, _ => by simp
  | n + 1, h => by
    rw [List.range_succ, List.map_append, List.sum_append, sum_range l z g n (by omega), List.take_succ_eq_append_getElem (by omega), List.map_append, List.sum_append]
    simp [List.getElem?_eq_getElem (show n < l.length by omega)]
theorem sum_out {α : Type} (l : List α) (z : α) (g : α → Nat) (hz : g z = 0) (n : Nat) : ((List.range n).map (fun i => g ((l[i]?).getD z))).sum ≤ (l.map g).sum := by
  induction n with
  | zero => simp
  | succ n ih =>
    by_cases h : n + 1 ≤ l.length
    · rw [sum_range l z g _ h]
      have := congrArg (fun x => (x.map g).sum) (List.take_append_drop (n + 1) l)
      simp only [List.map_append, List.sum_append] at this
      omega
    · rw [List.range_succ, List.map_append, List.sum_append, List.map_cons, List.map_nil, List.sum_cons, List.sum_nil, List.getElem?_eq_none (by omega), Option.getD_none, hz]
      omega
theorem map_sz (n : Nat) (g : Nat → ByteArray) : ((List.range n).map g).map (·.size) = (List.range n).map (fun i => (g i).size) := by rw [List.map_map]; rfl

theorem ite_sz {p : Prop} [Decidable p] {a b : ByteArray} {n : Nat} (h1 : a.size ≤ n) (h2 : b.size ≤ n) : (if p then a else b).size ≤ n := by
  by_cases h : p
  · rw [if_pos h]; exact h1
  · rw [if_neg h]; exact h2

section
variable {f : T → ByteArray} (hf : ∀ t, (f t).size ≤ wt t)
include hf
theorem joinF_le (ts : List T) (sep : ByteArray) : (joinF f ts sep).size ≤ (ts.map wt).sum + sep.size * ts.length := by
  have h1 := join_le (ts.map f) sep
  have h2 : ((ts.map f).map (·.size)).sum ≤ (ts.map wt).sum := by
    induction ts with
    | nil => simp
    | cons a l ih =>
      have := ih (join_le _ _)
      have := hf a
      simp only [List.map_cons, List.sum_cons]
      omega
  unfold joinF
  rw [List.length_map] at h1
  omega
theorem sig_le (t : T) : (sigF f t).size + 40 ≤ wt t := by
  have hm : arity t ≤ t.ks.length := Nat.min_le_right _ _
  have h1 : (insF f t).size ≤ 2 + 5 * arity t + ((t.ks.take (arity t)).map wt).sum := by
    unfold insF
    rw [size_app, size_app, size_bs, size_bs]
    simp only [List.length_cons, List.length_nil]
    have a1 := join_le ((List.range (arity t)).map (inF f t)) (bs [44, 32])
    rw [map_sz, size_bs] at a1
    have a2 := range_le (arity t) (fun i => (inF f t i).size) (fun i => 3 + wt (t.kid i)) fun i hi => by
      unfold inF
      split
      · rw [size_app, size_bs]
        simp only [List.length_cons, List.length_nil]
        split
        · have := hf ((t.kid i).kid 0); have := wt_kid (t.kid i) 0; omega
        · have := hf (t.kid i); omega
      · have := hf (t.kid i); omega
    rw [range_add (arity t) (fun _ => 3) (fun i => wt (t.kid i)), range_const] at a2
    have a3 := sum_range t.ks T.zero wt (arity t) hm
    unfold T.kid at a2
    simp only [List.length_map, List.length_range, List.length_cons, List.length_nil] at a1
    omega
  have h2 := congrArg (fun x => (x.map wt).sum) (List.take_append_drop (arity t) t.ks)
  simp only [List.map_append, List.sum_append] at h2
  have h3 := wt_eq t
  have h4 : (sigF f t).size ≤ (insF f t).size + 4 + 2 * t.ks.length + ((t.ks.drop (arity t)).map wt).sum := by
    have hd : (t.ks.drop (arity t)).length ≤ t.ks.length := by rw [List.length_drop]; omega
    unfold sigF
    split
    · omega
    · rename_i r e
      rw [e, size_app, size_app, size_bs]
      simp only [List.length_cons, List.length_nil, List.map_cons, List.map_nil, List.sum_cons, List.sum_nil]
      have := hf r
      omega
    · rw [size_app, size_app, size_app, size_bs, size_bs]
      simp only [List.length_cons, List.length_nil]
      have := joinF_le hf (t.ks.drop (arity t)) (bs [44, 32])
      rw [size_bs] at this
      simp only [List.length_cons, List.length_nil] at this
      omega
  omega
omit hf in
theorem braced_le (head : ByteArray) (l : List ByteArray) : (bracedF head l).size ≤ head.size + 5 + (l.map (·.size)).sum + 2 * l.length := by
  unfold bracedF
  split
  · rw [size_app, size_bs]; simp only [List.length_cons, List.length_nil]; omega
  · rw [size_app, size_app, size_app, size_bs, size_bs]
    have := join_le l (bs [59, 32])
    rw [size_bs] at this
    simp only [List.length_cons, List.length_nil] at this ⊢
    omega
omit hf in
theorem kids_sum (t : T) : ((List.range t.ks.length).map (fun i => wt (t.kid i))).sum = (t.ks.map wt).sum := by
  have := sum_range t.ks T.zero wt t.ks.length (Nat.le_refl _)
  rw [List.take_length] at this
  exact this
omit hf in
theorem names_sum (t : T) (n : Nat) : ((List.range n).map (fun i => ((t.ns[i]?).getD ByteArray.empty).size)).sum ≤ (t.ns.map (·.size)).sum :=
  sum_out t.ns ByteArray.empty (fun s : ByteArray => s.size) rfl n
theorem fields_le (t : T) : (bracedF (bs [115, 116, 114, 117, 99, 116]) (fieldsF f t)).size ≤ wt t := by
  have hw := wt_eq t
  have h1 := braced_le (bs [115, 116, 114, 117, 99, 116]) (fieldsF f t)
  unfold fieldsF at h1 ⊢
  rw [map_sz, size_bs] at h1
  have a2 := range_le t.ks.length (fun i => (fieldF f t i).size) (fun i => (((t.ns[i]?).getD ByteArray.empty).size + 1) + wt (t.kid i)) fun i hi => by
    have := hf (t.kid i)
    unfold fieldF
    split
    · rw [size_app, size_app, size_bs]; simp only [List.length_cons, List.length_nil]; omega
    · omega
  rw [range_add, range_add t.ks.length (fun i => ((t.ns[i]?).getD ByteArray.empty).size) (fun _ => 1), range_const, kids_sum] at a2
  have := names_sum t t.ks.length
  simp only [List.length_map, List.length_range, List.length_cons, List.length_nil] at h1
  omega
theorem meths_le (t : T) : (methsF f t).size ≤ wt t := by
  have hw := wt_eq t
  unfold methsF
  split
  · rw [size_bs]; simp only [List.length_cons, List.length_nil]; omega
  have h1 := braced_le (bs [105, 110, 116, 101, 114, 102, 97, 99, 101]) ((List.range t.ks.length).map (methF f t))
  rw [map_sz, size_bs] at h1
  have a2 := range_le t.ks.length (fun i => (methF f t i).size) (fun i => ((t.ns[i]?).getD ByteArray.empty).size + wt (t.kid i)) fun i hi => by
    have := sig_le hf (t.kid i)
    unfold methF
    rw [size_app]
    omega
  rw [range_add, kids_sum] at a2
  have := names_sum t t.ks.length
  simp only [List.length_map, List.length_range, List.length_cons, List.length_nil] at h1
  omega
theorem body_le (hz : f T.zero = ByteArray.empty) (t : T) : (bodyF f t).size ≤ wt t := by
  have hw := wt_eq t
  have hs := sig_le hf t
  have hj : ∀ sep : ByteArray, (joinF f t.ks sep).size ≤ (t.ks.map wt).sum + sep.size * t.ks.length := joinF_le hf t.ks
  have hk : (f (t.kid 0)).size + 64 ≤ wt t := by
    by_cases hi : 0 < t.ks.length
    · have := hf (t.kid 0); have := kid_wt t 0 hi; omega
    · rw [T.kid_out (by omega), hz, show ByteArray.empty.size = 0 from rfl]; omega
  have hc : ∀ l : List UInt8, l.length ≤ 64 → (bs l).size ≤ wt t := fun l h => by rw [size_bs]; omega
  have hd : ∀ (l : List UInt8) (s : ByteArray), l.length ≤ 8 → s.size + 40 ≤ wt t → (bs l ++ s).size ≤ wt t := fun l s h1 h2 => by rw [size_app, size_bs]; omega
  unfold bodyF
  iterate 7 refine ite_sz (hc _ (by decide)) ?_
  refine ite_sz (by omega) ?_
  iterate 3 refine ite_sz (hd _ _ (by decide) (by omega)) ?_
  refine ite_sz (hd _ _ (by decide) hs) ?_
  refine ite_sz (fields_le hf t) ?_
  refine ite_sz (meths_le hf t) ?_
  refine ite_sz (ite_sz (hc _ (by decide)) ?_) ?_
  · have := hj (bs [32, 124, 32])
    rw [size_bs] at this
    simp only [List.length_cons, List.length_nil] at this
    omega
  refine ite_sz ?_ (by rw [show ByteArray.empty.size = 0 from rfl]; omega)
  have := hj (bs [44, 32])
  rw [size_bs] at this
  rw [size_app, size_app, size_bs, size_bs]
  simp only [List.length_cons, List.length_nil] at this ⊢
  omega
end
theorem txt_le : ∀ (n : Nat) (t : T), (txt n t).size ≤ wt t
  | 0, t => by rw [txt, show ByteArray.empty.size = 0 from rfl]; omega
  | n + 1, t => body_le (txt_le n) (txt_zero n) t
end Go.Proofs.Ytanhdklaponekaa
