/- What an argument reads as: a slice in memory as data. -/
import Derived.Test.YtendihbndpahdaaDoorBase
import Derived.Test.YtendihbndpahdaaDoorRows
import Derived.ProofKit
import Derived.SizedLaws
namespace Go.Proofs.YtendihbndpahdaaDoor
open Go Go.RowKit Go.ChangeShapes Go.WideShapes Go.ChangeAt

theorem spot_of_cell {w : World} {q : Addr} {v : Value} (h : w.cell? q = some v) : q.spot = none := by
  unfold World.cell? at h
  split at h
  · split at h
    · cases h
    · rename_i hs; simpa using hs
  · cases h
theorem lt_of_cell {w : World} {q : Addr} {v : Value} (h : w.cell? q = some v) : q.block < w.heap.size := by
  rcases Nat.lt_or_ge q.block w.heap.size with hlt | hge
  · exact hlt
  · unfold World.cell? at h; rw [Array.getElem?_eq_none hge] at h; cases h
theorem add_plain {b o : Nat} (n : Nat) : Addr.add ⟨b, o, none⟩ n = ⟨b, o + n, none⟩ := by
  unfold Addr.add
  split
  · rename_i h; subst h; rfl
  · rfl

/-- a list of things, each on its own cells -/
def AllR {α : Type} (Q : α → List Value → Prop) : List α → List Value → Prop
  | [], cs => cs = []
  | t :: ts, cs => ∃ c1 c2, cs = c1 ++ c2 ∧ Q t c1 ∧ AllR Q ts c2
theorem AllR.snoc {α : Type} {Q : α → List Value → Prop} {y : α} {ds : List Value} (hy : Q y ds) : ∀ {ts : List α} {cs : List Value}, AllR Q ts cs → AllR Q (ts ++ [y]) (cs ++ ds)
  | [], cs, h => by simp only [AllR] at h; subst h; exact ⟨ds, [], by simp, hy, rfl⟩
  | t :: ts, cs, h => by
    obtain ⟨c1, c2, rfl, h1, h2⟩ := h
    exact ⟨c1, c2 ++ ds, by simp, h1, AllR.snoc hy h2⟩

/-- n elements of k cells, each read: the row as a whole -/
theorem gather {α : Type} {Q : α → List Value → Prop} {w : World} {b o k : Nat} : ∀ (n : Nat), (∀ i, i < n → ∃ y cs, cs.length = k ∧ (∀ j, j < k → w.cell? ⟨b, o + (i * k + j), none⟩ = cs[j]?) ∧ Q y cs) →
    ∃ ys xs, ys.length = n ∧ xs.length = n * k ∧ (∀ j u, xs[j]? = some u → w.cell? ⟨b, o + j, none⟩ = some u) ∧ AllR Q ys xs
  | 0, _ => ⟨[], [], rfl, by simp, fun j u h => by simp at h, rfl⟩
  | n + 1, h => by
    obtain ⟨ys, xs, h1, h2, h3, h4⟩ := gather n fun i hi => h i (by omega)
    obtain ⟨y, cs, g1, g2, g3⟩ := h n (by omega)
    refine ⟨ys ++ [y], xs ++ cs, by simp [h1], by simp only [List.length_append, h2, g1]; rw [Nat.add_mul, Nat.one_mul], fun j u hj => ?_, h4.snoc g3⟩
    rcases Nat.lt_or_ge j xs.length with hlt | hge
    · rw [List.getElem?_append_left hlt] at hj; exact h3 j u hj
    · rw [List.getElem?_append_right hge] at hj
      have hl : j - xs.length < cs.length := by
        rcases Nat.lt_or_ge (j - xs.length) cs.length with x | x
        · exact x
        · rw [List.getElem?_eq_none x] at hj; cases hj
      have := g2 (j - xs.length) (by omega)
      rw [hj, show n * k + (j - xs.length) = j from by omega] at this
      exact this

section
variable {H : Type} {enc : TypeId × Value → H} {P : Program} {w : World} {fuel : Nat} {held : Bool} {sp : Nat → Bool}

theorem weights_all {e : TypeId} : ∀ {l : List (DataW H)} {d : DataW H}, d ∈ l → ∀ n ∈ d.weights P e, n ∈ DataW.weightsAll P e l
  | x :: l, d, hd, n, hn => by
    simp only [DataW.weightsAll, List.mem_append]
    rcases List.mem_cons.1 hd with rfl | hd
    · exact .inl hn
    · exact .inr (weights_all hd n hn)

/-- a slice that reads: its row; Q what each element gives -/
theorem read_slice {t e : TypeId} {k : Nat} {α : Type} {Q : α → List Value → Prop} {cs : List Value} {x : DataW H × List MemPlace} (ht : P.underlying t = some (.slice e)) (hk : P.cellsOf e = k) (hk0 : 0 < k)
    (h : DataW.trod enc P w 0 sp held fuel t cs = some x) (hw : ∀ n ∈ x.1.weights P t, n ≤ reachBytes)
    (hq : ∀ n cs y, fuel = n + 1 → DataW.trod enc P w 0 sp held n e cs = some y → (∀ n ∈ y.1.weights P e, n ≤ reachBytes) → ∃ a, Q a cs) :
    ∃ v ys xs, cs = [v] ∧ Row w (fun b => b < w.heap.size) k v ys.length xs ∧ AllR Q ys xs ∧ ys.length * P.bytesOf e ≤ reachBytes := by
  rcases DataW.trod_slice ht h with ⟨rfl, rfl⟩ | ⟨a, len, cap, elems, rest, n, hf, rfl, rfl, -, hlc, hcm, hel, hget, -⟩
  · exact ⟨_, [], [], rfl, Row.nil_, rfl, by simp⟩
  · simp only [DataW.weights, ht, List.mem_cons, List.mem_append, List.length_map] at hw
    have hb : (elems.length + rest.length) * P.bytesOf e ≤ reachBytes := hw _ (.inl rfl)
    have hlb : len * P.bytesOf e ≤ reachBytes := Nat.le_trans (Nat.mul_le_mul_right _ (by omega)) hb
    rw [hk] at hget
    rcases Nat.eq_zero_or_pos len with rfl | hp
    · exact ⟨_, [], [], rfl, ⟨by simp, _, cap, rfl, Nat.zero_le _, hcm, (fun e => by cases e), fun h => absurd h (by simp)⟩, rfl, by simp⟩
    · obtain ⟨b, o, s⟩ := a
      have hs : s = none ∧ b < w.heap.size := by
        have h0 := hget 0 hp
        rw [List.getElem?_eq_getElem (by omega), Option.bind_eq_some_iff] at h0
        obtain ⟨c0, g1, -⟩ := h0
        obtain ⟨-, g2, g3⟩ := World.cells?_some g1
        have g4 := g3 0 hk0
        rw [List.getElem?_eq_getElem (by omega)] at g4
        simp only [Nat.zero_mul, Addr.add, if_true] at g4
        exact ⟨spot_of_cell g4, lt_of_cell g4⟩
      obtain ⟨rfl, hbl⟩ := hs
      obtain ⟨ys, xs, h1, h2, h3, h4⟩ := gather (Q := Q) (w := w) (b := b) (o := o) (k := k) len fun i hi => by
        have h0 := hget i hi
        rw [List.getElem?_eq_getElem (by omega), Option.bind_eq_some_iff] at h0
        obtain ⟨c0, g1, g5⟩ := h0
        obtain ⟨-, g2, g3⟩ := World.cells?_some g1
        obtain ⟨y, hy⟩ := hq n c0 _ hf g5 (fun m hm => hw m (.inr (.inl (weights_all (List.mem_map_of_mem (List.getElem_mem (by omega))) m hm))))
        refine ⟨y, c0, g2, fun j hj => ?_, hy⟩
        have := g3 j hj
        rw [add_plain, add_plain, Nat.add_assoc] at this
        exact this
      exact ⟨_, ys, xs, rfl, ⟨by rw [h2, h1], some ⟨b, o, none⟩, cap, by rw [h1], by omega, hcm, (fun e => by cases e), fun _ => ⟨b, o, rfl, hbl, h3⟩⟩, h4, by rw [h1]; exact hlb⟩
end

theorem allR_strs : ∀ {ys : List ByteArray} {xs : List Value}, AllR (fun (s : ByteArray) cs => cs = [.string s] ∧ s.size ≤ Lim) ys xs → xs = ys.map .string ∧ ∀ s ∈ ys, s.size ≤ Lim
  | [], xs, h => ⟨h, by simp⟩
  | y :: ys, xs, h => by
    obtain ⟨c1, c2, rfl, ⟨rfl, h1⟩, h2⟩ := h
    obtain ⟨rfl, h3⟩ := allR_strs h2
    exact ⟨rfl, fun s hs => (List.mem_cons.1 hs).elim (fun e => e ▸ h1) (h3 s)⟩
theorem allR_bools : ∀ {ys : List Bool} {xs : List Value}, AllR (fun (s : Bool) cs => cs = [.bool s]) ys xs → xs = ys.map .bool
  | [], xs, h => h
  | y :: ys, xs, h => by
    obtain ⟨c1, c2, rfl, rfl, h2⟩ := h
    rw [allR_bools h2]; rfl
end Go.Proofs.YtendihbndpahdaaDoor
