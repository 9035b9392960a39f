/- A row of edits of the call's own: reading, storing, cutting, clearing. -/
import Derived.Test.YtnonbonegbdfpaaDoorSpEq
import Derived.Lib.SliceRun
namespace Go.Proofs.YtnonbonegbdfpaaDoor
open Go Go.RowKit

def flat (l : List Ed) : List Value := l.flatMap Ed.cs
theorem flat_len : ∀ (l : List Ed), (flat l).length = l.length * 4
  | [] => rfl
  | x :: l => by
    have := flat_len l
    simp only [flat, List.flatMap_cons, List.length_append, List.length_cons, Ed.cs, List.length_nil] at this ⊢
    omega
theorem flat_cons (x : Ed) (l : List Ed) : flat (x :: l) = .string x.p :: .int .i64 x.fr :: .int .i64 x.to :: .string x.tx :: flat l := rfl
theorem flat_at : ∀ {l : List Ed} {i : Nat} (h : i < l.length), (flat l)[i * 4]? = some (.string l[i].p) ∧ (flat l)[i * 4 + 1]? = some (.int .i64 l[i].fr) ∧ (flat l)[i * 4 + 2]? = some (.int .i64 l[i].to) ∧ (flat l)[i * 4 + 3]? = some (.string l[i].tx)
  | x :: l, 0, _ => ⟨rfl, rfl, rfl, rfl⟩
  | x :: l, i + 1, h => by
    have := flat_at (l := l) (i := i) (by simpa using h)
    rw [flat_cons]
    simp only [List.getElem_cons_succ]
    rw [show (i + 1) * 4 = i * 4 + 1 + 1 + 1 + 1 from by omega]
    simpa [List.getElem?_cons_succ, show i * 4 + 1 + 1 + 1 + 1 + 1 = i * 4 + 1 + 1 + 1 + 1 + 1 from rfl, show i * 4 + 1 + 1 + 1 + 1 + 2 = i * 4 + 2 + 1 + 1 + 1 + 1 from by omega, show i * 4 + 1 + 1 + 1 + 1 + 3 = i * 4 + 3 + 1 + 1 + 1 + 1 from by omega] using this
theorem flat_set : ∀ {l : List Ed} {i : Nat} (x : Ed), i < l.length → ((((flat l).set (i * 4) (.string x.p)).set (i * 4 + 1) (.int .i64 x.fr)).set (i * 4 + 2) (.int .i64 x.to)).set (i * 4 + 3) (.string x.tx) = flat (l.set i x)
  | y :: l, 0, x, _ => rfl
  | y :: l, i + 1, x, h => by
    have := flat_set (l := l) (i := i) x (by simpa using h)
    rw [List.set_cons_succ, flat_cons, flat_cons, ← this]
    rw [show (i + 1) * 4 = i * 4 + 1 + 1 + 1 + 1 from by omega, show i * 4 + 1 + 1 + 1 + 1 + 1 = i * 4 + 1 + 1 + 1 + 1 + 1 from rfl, show i * 4 + 1 + 1 + 1 + 1 + 2 = i * 4 + 2 + 1 + 1 + 1 + 1 from by omega, show i * 4 + 1 + 1 + 1 + 1 + 3 = i * 4 + 3 + 1 + 1 + 1 + 1 from by omega]
    simp only [List.set_cons_succ]
theorem flat_take : ∀ (l : List Ed) (k : Nat), (flat l).take (k * 4) = flat (l.take k)
  | l, 0 => by simp [flat]
  | [], k + 1 => by simp [flat]
  | x :: l, k + 1 => by
    rw [List.take_succ_cons, flat_cons, flat_cons, show (k + 1) * 4 = k * 4 + 1 + 1 + 1 + 1 from by omega]
    simp only [List.take_succ_cons]
    rw [flat_take l k]
theorem flat_one (l : List Ed) : ∀ u ∈ flat l, u.oneCell' = true := by
  intro u h
  obtain ⟨x, _, hx⟩ := List.mem_flatMap.1 h
  simp only [Ed.cs, List.mem_cons, List.not_mem_nil, or_false] at hx
  rcases hx with rfl | rfl | rfl | rfl <;> rfl

section
variable {w : World} {base g cap n : Nat} {e : TypeId} {l : List Ed}
theorem own_at4 (h : w.ownsRow base e 4 (.slice (some ⟨g, 0, none⟩) n cap) n (flat l)) {i : Nat} (hi : i < l.length) (hn : l.length = n) :
    w.cell? ⟨g, i * 4, none⟩ = some (.string l[i].p) ∧ w.cell? ⟨g, i * 4 + 1, none⟩ = some (.int .i64 l[i].fr) ∧ w.cell? ⟨g, i * 4 + 2, none⟩ = some (.int .i64 l[i].to) ∧ w.cell? ⟨g, i * 4 + 3, none⟩ = some (.string l[i].tx) := by
  obtain ⟨h0, h1, h2, h3⟩ := flat_at hi
  exact ⟨by rw [h.cellAt _ (by omega), h0], by rw [h.cellAt _ (by omega), h1], by rw [h.cellAt _ (by omega), h2], by rw [h.cellAt _ (by omega), h3]⟩
theorem own_set4 (h : w.ownsRow base e 4 (.slice (some ⟨g, 0, none⟩) n cap) n (flat l)) {i : Nat} (x : Ed) (hi : i < l.length) :
    ((((w.setCell ⟨g, i * 4, none⟩ (.string x.p)).setCell ⟨g, i * 4 + 1, none⟩ (.int .i64 x.fr)).setCell ⟨g, i * 4 + 2, none⟩ (.int .i64 x.to)).setCell ⟨g, i * 4 + 3, none⟩ (.string x.tx)).ownsRow base e 4 (.slice (some ⟨g, 0, none⟩) n cap) n (flat (l.set i x)) := by
  have h0 := (h.stored (i * 4) (.string x.p)).1
  have h1 := (h0.stored (i * 4 + 1) (.int .i64 x.fr)).1
  have h2 := (h1.stored (i * 4 + 2) (.int .i64 x.to)).1
  have h3 := (h2.stored (i * 4 + 3) (.string x.tx)).1
  rw [flat_set x hi] at h3
  exact h3
theorem own_cut {size : Nat} {xs : List Value} (h : w.ownsRow base e size (.slice (some ⟨g, 0, none⟩) n cap) n xs) {k : Nat} (hk : k ≤ n) :
    w.ownsRow base e size (.slice (some ⟨g, 0, none⟩) k cap) k (xs.take (k * size)) := by
  refine ⟨by rw [List.length_take, h.1]; exact Nat.min_eq_left (Nat.mul_le_mul_right _ hk), ?_⟩
  rcases h.2 with ⟨h1, h2⟩ | ⟨g', c', cur, h1, h2, h3, h4, h5, h6, h7⟩
  · cases h1
  · cases h1
    refine .inr ⟨g, cap, cur, rfl, h2, h3, by omega, h5, h6, ?_⟩
    rw [← h7, List.take_take]
    congr 1
    exact (Nat.min_eq_left (Nat.mul_le_mul_right _ hk)).symm
theorem own_setCells {size : Nat} : ∀ (vs : List Value) (o : Nat) (w : World) (xs : List Value), w.ownsRow base e size (.slice (some ⟨g, 0, none⟩) n cap) n xs →
    ∃ ys, (w.setCells g o vs).ownsRow base e size (.slice (some ⟨g, 0, none⟩) n cap) n ys ∧ ∀ j, j < o → ys[j]? = xs[j]?
  | [], o, w, xs, h => ⟨xs, h, fun _ _ => rfl⟩
  | v :: vs, o, w, xs, h => by
    obtain ⟨ys, h1, h2⟩ := own_setCells vs (o + 1) _ _ ((h.stored o v).1)
    refine ⟨ys, h1, fun j hj => ?_⟩
    rw [h2 j (by omega), List.getElem?_set_ne (by omega)]
end
theorem below_setCells {B g : Nat} {w0 : World} : ∀ (vs : List Value) (o : Nat) (w : World), Below B w0 w → B ≤ g → Below B w0 (w.setCells g o vs)
  | [], _, _, h, _ => h
  | v :: vs, o, _, h, hg => below_setCells vs (o + 1) _ (h.setCell hg v) hg
theorem size_setCells {g : Nat} : ∀ (vs : List Value) (o : Nat) (w : World), (w.setCells g o vs).heap.size = w.heap.size
  | [], _, _ => rfl
  | v :: vs, o, _ => by rw [World.setCells, size_setCells vs]; simp [World.setCell]

/-- clear of a slice of edits -/
theorem run_clear_ed (w : World) (g o n c : Nat) (hn : 0 < n) (hc : ∀ j, j < n * 4 → (w.cell? ⟨g, o + j, none⟩).isSome = true) (hf : ∀ j, j < n * 4 → w.frozen? ⟨g, o + j, none⟩ = false) :
    ∃ vs, vs.length = n * 4 ∧ ∀ ty, (Builtin.clear_ #[43] ty #[.slice (some ⟨g, o, none⟩) n c]).run Tryd.prog w = .ok (.tuple #[]) (w.setCells g o vs) := by
  have hv : ∀ w, (zeroValue 42).run Tryd.prog w = .ok (.agg #[.string ByteArray.empty, .int .i64 0, .int .i64 0, .string ByteArray.empty]) w := fun w => by kernel_rfl
  obtain ⟨vs, hvs⟩ : ∃ vs, (Builtin.zeroCells #[.string ByteArray.empty, .int .i64 0, .int .i64 0, .string ByteArray.empty] n).toList = vs := ⟨_, rfl⟩
  have hl : vs.length = n * 4 := by rw [← hvs]; simp [Builtin.zeroCells]
  have h1 : ∀ v ∈ vs, v.oneCell' = true := by
    intro v hv
    rw [← hvs] at hv
    simp only [Builtin.zeroCells, Array.toList_map, List.mem_map] at hv
    obtain ⟨i, _, rfl⟩ := hv
    have : i % 4 = 0 ∨ i % 4 = 1 ∨ i % 4 = 2 ∨ i % 4 = 3 := by omega
    rcases this with h | h | h | h <;> simp [h, Value.oneCell']
  have hst := run_storeCells_cells (P := Tryd.prog) g o vs 0 w (by simpa [hl] using hc) (by simpa [hl] using hf) h1
  simp only [Nat.add_zero] at hst
  obtain ⟨m, rfl⟩ : ∃ m, n = m + 1 := ⟨n - 1, by omega⟩
  refine ⟨vs, hl, fun ty => ?_⟩
  simp [Builtin.clear_, run_underlying Tryd.underlying43, hv, Value.cells, hvs, hst]
end Go.Proofs.YtnonbonegbdfpaaDoor
