/- Plain words for Subst: the function on data; writing one struct into an owned row. -/
import Derived.Test.YtanhdklaponekaaBase
namespace Go.Proofs.Ytanhdklaponekaa
open Go Go.RowKit

def T.zero : T := .mk 0 ByteArray.empty 0 false [] [] []
mutual
def subst (us : List T) : T → T
  | .mk k nm n f ns ms ks => if k = 9 ∧ 0 ≤ n ∧ n < us.length then (us[n.toNat]?).getD T.zero else .mk k nm n f ns ms (substL us ks)
def substL (us : List T) : List T → List T
  | [] => []
  | t :: ts => subst us t :: substL us ts
end
theorem substL_map (us : List T) : ∀ ts, substL us ts = ts.map (subst us)
  | [] => by rw [substL]; rfl
  | t :: ts => by rw [substL, substL_map us ts]; rfl
theorem substL_len (us ts : List T) : (substL us ts).length = ts.length := by rw [substL_map, List.length_map]
theorem substL_take (us ts : List T) (j : Nat) (h : j < ts.length) : substL us (ts.take (j + 1)) = substL us (ts.take j) ++ [subst us ts[j]] := by
  rw [substL_map, substL_map, List.take_succ_eq_append_getElem h, List.map_append]; rfl

/-- seven cells of an owned row -/
theorem own_cells7 {w : World} {base : Nat} {e : TypeId} {g n cap j : Nat} {ys rest : List Value} {c0 c1 c2 c3 c4 c5 c6 : Value}
    (h : w.ownsRow base e 7 (.slice (some ⟨g, 0, none⟩) n cap) n (ys ++ c0 :: c1 :: c2 :: c3 :: c4 :: c5 :: c6 :: rest)) (hy : ys.length = j * 7) :
    w.cell? ⟨g, j * 7, none⟩ = some c0 ∧ w.cell? ⟨g, j * 7 + 1, none⟩ = some c1 ∧ w.cell? ⟨g, j * 7 + 2, none⟩ = some c2 ∧ w.cell? ⟨g, j * 7 + 3, none⟩ = some c3 ∧
    w.cell? ⟨g, j * 7 + 4, none⟩ = some c4 ∧ w.cell? ⟨g, j * 7 + 5, none⟩ = some c5 ∧ w.cell? ⟨g, j * 7 + 6, none⟩ = some c6 ∧ (∀ i, w.frozen? ⟨g, i, none⟩ = false) := by
  have hl := h.1
  simp only [List.length_append, List.length_cons] at hl
  have hx : ∀ i (u : Value), i < 7 → [c0, c1, c2, c3, c4, c5, c6][i]? = some u → w.cell? ⟨g, j * 7 + i, none⟩ = some u := by
    intro i u hi hu
    rw [h.cellAt (j * 7 + i) (by omega), List.getElem?_append_right (by omega), hy, Nat.add_sub_cancel_left]
    rw [show c0 :: c1 :: c2 :: c3 :: c4 :: c5 :: c6 :: rest = [c0, c1, c2, c3, c4, c5, c6] ++ rest from rfl, List.getElem?_append_left (by simpa using hi)]
    exact hu
  exact ⟨hx 0 _ (by omega) rfl, hx 1 _ (by omega) rfl, hx 2 _ (by omega) rfl, hx 3 _ (by omega) rfl, hx 4 _ (by omega) rfl, hx 5 _ (by omega) rfl, hx 6 _ (by omega) rfl, h.frozenAt⟩

theorem set_mid {α : Type} (ys : List α) (c : α) (rest : List α) (d : α) (i : Nat) (h : ys.length = i) : (ys ++ c :: rest).set i d = (ys ++ [d]) ++ rest := by
  subst h; rw [List.set_append_right _ _ (Nat.le_refl _), Nat.sub_self]; simp

/-- a struct of seven cells stored into an owned row -/
theorem own_set7 {w : World} {base : Nat} {e : TypeId} {g n cap j : Nat} {ys rest : List Value} {c0 c1 c2 c3 c4 c5 c6 : Value} (d0 d1 d2 d3 d4 d5 d6 : Value)
    (h : w.ownsRow base e 7 (.slice (some ⟨g, 0, none⟩) n cap) n (ys ++ c0 :: c1 :: c2 :: c3 :: c4 :: c5 :: c6 :: rest)) (hy : ys.length = j * 7) :
    (((((((w.setCell ⟨g, j * 7, none⟩ d0).setCell ⟨g, j * 7 + 1, none⟩ d1).setCell ⟨g, j * 7 + 2, none⟩ d2).setCell ⟨g, j * 7 + 3, none⟩ d3).setCell ⟨g, j * 7 + 4, none⟩ d4).setCell ⟨g, j * 7 + 5, none⟩ d5).setCell ⟨g, j * 7 + 6, none⟩ d6).ownsRow
      base e 7 (.slice (some ⟨g, 0, none⟩) n cap) n ((ys ++ [d0, d1, d2, d3, d4, d5, d6]) ++ rest) := by
  have h0 := (h.stored (j * 7) d0).1
  rw [set_mid _ _ _ _ _ hy] at h0
  have h1 := (h0.stored (j * 7 + 1) d1).1
  rw [set_mid _ _ _ _ _ (by simp [hy])] at h1
  have h2 := (h1.stored (j * 7 + 2) d2).1
  rw [set_mid _ _ _ _ _ (by simp [hy])] at h2
  have h3 := (h2.stored (j * 7 + 3) d3).1
  rw [set_mid _ _ _ _ _ (by simp [hy])] at h3
  have h4 := (h3.stored (j * 7 + 4) d4).1
  rw [set_mid _ _ _ _ _ (by simp [hy])] at h4
  have h5 := (h4.stored (j * 7 + 5) d5).1
  rw [set_mid _ _ _ _ _ (by simp [hy])] at h5
  have h6 := (h5.stored (j * 7 + 6) d6).1
  rw [set_mid _ _ _ _ _ (by simp [hy])] at h6
  simpa using h6

theorem SameOn.sub {S S' : Nat → Prop} {w w' : World} (h : SameOn S w w') (hs : ∀ b, S' b → S b) : SameOn S' w w' := fun b hb => h b (hs b hb)
end Go.Proofs.Ytanhdklaponekaa
