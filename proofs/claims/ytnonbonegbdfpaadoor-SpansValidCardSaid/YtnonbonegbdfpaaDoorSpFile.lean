/- Files as data: their cells; the map of their paths; join; Apply as a plain function. -/
import Derived.Test.YtnonbonegbdfpaaDoorSpBack
import Derived.Test.YtnonbonegbdfpaaDoorSpSorted
import Derived.Test.YtnonbonegbdfpaaDoorShelf
import Derived.Maps.Views
import Derived.Maps.OwnIn
namespace Go.Proofs.YtnonbonegbdfpaaDoor
open Go Go.RowKit

/-- Go's api.File as data -/
structure Fi where
  p : ByteArray
  tx : ByteArray

def Fi.cs (e : Fi) : List Value := [.string e.p, .string e.tx]
def flatF (l : List Fi) : List Value := l.flatMap Fi.cs
theorem flatF_cons (x : Fi) (l : List Fi) : flatF (x :: l) = .string x.p :: .string x.tx :: flatF l := rfl
theorem flatF_len : ∀ (l : List Fi), (flatF l).length = l.length * 2
  | [] => rfl
  | x :: l => by
    have := flatF_len l
    rw [flatF_cons]
    simp only [List.length_cons]
    omega
theorem flatF_at : ∀ {l : List Fi} {i : Nat} (h : i < l.length), (flatF l)[i * 2]? = some (.string l[i].p) ∧ (flatF l)[i * 2 + 1]? = some (.string l[i].tx)
  | x :: l, 0, _ => ⟨rfl, rfl⟩
  | x :: l, i + 1, h => by
    have := flatF_at (l := l) (i := i) (by simpa using h)
    rw [flatF_cons]
    simp only [List.getElem_cons_succ]
    rw [show (i + 1) * 2 = i * 2 + 1 + 1 from by omega]
    simpa [List.getElem?_cons_succ] using this
theorem flatF_set : ∀ {l : List Fi} {i : Nat} (t : ByteArray) (h : i < l.length), (flatF l).set (i * 2 + 1) (.string t) = flatF (l.set i ⟨l[i].p, t⟩)
  | x :: l, 0, t, _ => rfl
  | x :: l, i + 1, t, h => by
    have := flatF_set (l := l) (i := i) t (by simpa using h)
    rw [List.set_cons_succ, flatF_cons, flatF_cons]
    simp only [List.getElem_cons_succ]
    rw [← this, show (i + 1) * 2 + 1 = i * 2 + 1 + 1 + 1 from by omega]
    simp only [List.set_cons_succ]
theorem flatF_one (l : List Fi) : ∀ u ∈ flatF l, u.oneCell' = true := by
  intro u h
  obtain ⟨x, _, hx⟩ := List.mem_flatMap.1 h
  simp only [Fi.cs, List.mem_cons, List.not_mem_nil, or_false] at hx
  rcases hx with rfl | rfl <;> rfl

/-- the two cells of file i -/
theorem row_at2 {w : World} {S : Nat → Prop} {A : Option Addr} {n cap : Nat} {l : List Fi} (h : Row w S 2 (.slice A n cap) n (flatF l)) {i : Nat} (hi : i < l.length) (hn : l.length = n) :
    ∃ b o, A = some ⟨b, o, none⟩ ∧ S b ∧ n ≤ cap ∧ w.cell? ⟨b, o + i * 2, none⟩ = some (.string l[i].p) ∧ w.cell? ⟨b, o + i * 2 + 1, none⟩ = some (.string l[i].tx) := by
  obtain ⟨h1, A', cap', e, h2, h3, h0, h4⟩ := h
  cases e
  obtain ⟨b, o, rfl, h5, h7⟩ := h4 (by omega)
  obtain ⟨x0, x1⟩ := flatF_at hi
  exact ⟨b, o, rfl, h5, h2, h7 _ _ x0, by rw [Nat.add_assoc]; exact h7 _ _ x1⟩
theorem own_at2 {w : World} {base g cap n : Nat} {e : TypeId} {l : List Fi} (h : w.ownsRow base e 2 (.slice (some ⟨g, 0, none⟩) n cap) n (flatF l)) {i : Nat} (hi : i < l.length) (hn : l.length = n) :
    w.cell? ⟨g, i * 2, none⟩ = some (.string l[i].p) ∧ w.cell? ⟨g, i * 2 + 1, none⟩ = some (.string l[i].tx) := by
  obtain ⟨h0, h1⟩ := flatF_at hi
  exact ⟨by rw [h.cellAt _ (by omega), h0], by rw [h.cellAt _ (by omega), h1]⟩
theorem own_set2 {w : World} {base g cap n : Nat} {e : TypeId} {l : List Fi} (h : w.ownsRow base e 2 (.slice (some ⟨g, 0, none⟩) n cap) n (flatF l)) {i : Nat} (hi : i < l.length) (t : ByteArray) :
    (w.setCell ⟨g, i * 2 + 1, none⟩ (.string t)).ownsRow base e 2 (.slice (some ⟨g, 0, none⟩) n cap) n (flatF (l.set i ⟨l[i].p, t⟩)) := by
  have h0 := (h.stored (i * 2 + 1) (.string t)).1
  rw [flatF_set t hi] at h0
  exact h0

/-! ### the map of the paths -/
def bdF : Fi := ⟨ByteArray.empty, ByteArray.empty⟩
def fAt (l : List Fi) (i : Nat) : Fi := (l[i]?).getD bdF
theorem fAt_at {l : List Fi} {i : Nat} (h : i < l.length) : fAt l i = l[i] := by unfold fAt; rw [List.getElem?_eq_getElem h]; rfl
def keyP (p : ByteArray) : Lit := .string p.data.toList
theorem keyP_ne {p q : ByteArray} (h : p ≠ q) : keyP p ≠ keyP q := by
  intro e
  simp only [keyP, Lit.string.injEq] at e
  exact h (ByteArray.ext (Array.toList_inj.1 e))
/-- which of the first j files has the path? (the last) -/
def lookJ (fs : List Fi) (p : ByteArray) : Nat → Option Nat
  | 0 => none
  | j + 1 => if (fAt fs j).p = p then some j else lookJ fs p j
theorem lookJ_lt {fs : List Fi} {p : ByteArray} : ∀ {j i : Nat}, lookJ fs p j = some i → i < j ∧ (fAt fs i).p = p
  | 0, i, h => by cases h
  | j + 1, i, h => by
    unfold lookJ at h
    split at h
    · cases h; exact ⟨by omega, by assumption⟩
    · obtain ⟨h1, h2⟩ := lookJ_lt h; exact ⟨by omega, h2⟩
def mapJ (fs : List Fi) : Nat → DataW Unit
  | 0 => .map []
  | j + 1 => (mapJ fs j).put (keyP (fAt fs j).p) (.lit (.int .i64 j))
theorem mapJ_is (fs : List Fi) : ∀ j, Maps.IsMap (mapJ fs j)
  | 0 => Maps.isMap_empty
  | j + 1 => (mapJ_is fs j).put _ _
theorem mapJ_has (fs : List Fi) (p : ByteArray) : ∀ j, Maps.has (mapJ fs j) (keyP p) = (lookJ fs p j).isSome
  | 0 => rfl
  | j + 1 => by
    unfold mapJ lookJ
    split
    · rename_i h
      rw [h, Maps.has_put_same (mapJ_is fs j) (by trivial)]; rfl
    · rename_i h
      rw [Maps.has_put_other (keyP_ne (Ne.symm h))]; exact mapJ_has fs p j
theorem mapJ_at (fs : List Fi) (p : ByteArray) : ∀ j, (mapJ fs j).atKey (keyP p) (.lit (.int .i64 0)) = .lit (.int .i64 (((lookJ fs p j).getD 0 : Nat) : Int))
  | 0 => rfl
  | j + 1 => by
    unfold mapJ lookJ
    split
    · rename_i h
      rw [h, Maps.atKey_put_same (mapJ_is fs j) (by trivial)]; rfl
    · rename_i h
      rw [Maps.atKey_put_other (keyP_ne (Ne.symm h))]; exact mapJ_at fs p j
theorem i64_wf {n : Nat} (h : n ≤ 9223372036854775807) : (Lit.int .i64 (n : Int)).wf = true := by
  have h1 : IntKind.i64.min = -9223372036854775808 := rfl
  have h2 : IntKind.i64.max = 9223372036854775807 := rfl
  simp only [Lit.wf]
  simp [h1, h2]
  omega

/-! ### join -/
def joinB (xs : List ByteArray) : ByteArray := ⟨(Lib.join (xs.map (·.data.toList)) []).toArray⟩
theorem join_c (bk c : Nat) (a b d : ByteArray) (w : World) (h0 : w.cell? ⟨bk, 0, none⟩ = some (.string a)) (h1 : w.cell? ⟨bk, 1, none⟩ = some (.string b)) (h2 : w.cell? ⟨bk, 2, none⟩ = some (.string d)) (hbk : bk < w.heap.size) (hcap : 3 ≤ c)
    (hlen : (joinB [a, b, d]).size ≤ 140737488355328) :
    Calls Tryd.prog 28 #[.slice (some ⟨bk, 0, none⟩) 3 c] w fun e w' => e = .returned (.string (joinB [a, b, d])) ∧ Below w.heap.size w w' := by
  have hj : Calls Tryd.prog 43 #[.slice (some ⟨bk, 0, none⟩) 3 c, .string { data := #[] }] w fun e w' => e = .returned (.string (joinB [a, b, d])) ∧ Below w.heap.size w w' := by
    refine Tryd.strings_Join bk 0 c [a, b, d] { data := #[] } w ?_ hbk (by simp) hcap (by simpa [joinB, ByteArray.size] using hlen)
    intro j x hx
    match j, hx with
    | 0, hx => cases hx; exact h0
    | 1, hx => cases hx; exact h1
    | 2, hx => cases hx; exact h2
  clear h0 h1 h2 hlen
  obtain ⟨r, hr⟩ : ∃ r, joinB [a, b, d] = r := ⟨_, rfl⟩
  rw [hr] at hj ⊢
  clear hr
  go_enter Tryd.func28, Tryd.ntmps28
  go_wp2_with fail
  refine hj.mono ?_
  rintro e w' ⟨rfl, hb⟩
  clear hj
  go_wp2_with fail
  go_ret
  exact ⟨rfl, hb⟩

/-! ### Apply -/
def spl (t : ByteArray) (x : Ed) : ByteArray := joinB [t.extract 0 x.fr.toNat, x.tx, t.extract x.to.toNat t.size]
def stepE (fs : List Fi) (x : Ed) (gs : List Fi) : Option (List Fi) :=
  match lookJ fs x.p fs.length with
  | none => none
  | some i => if x.to ≤ ((fAt fs i).tx.size : Int) then some (gs.set i ⟨(fAt gs i).p, spl (fAt gs i).tx x⟩) else none
def runK (fs : List Fi) (c : List Ed) : Nat → Option (List Fi)
  | 0 => some fs
  | k + 1 => match runK fs c k with | none => none | some gs => stepE fs (backE c k) gs
def dupF (fs : List Fi) : Bool := (List.range fs.length).any (fun i => (lookJ fs (fAt fs i).p i).isSome)
def applyP (fs : List Fi) (l : List Ed) : Option (List Fi) :=
  if dupF fs = true then none else if okAll (sortd l) = true then runK fs (sortd l) (sortd l).length else none

/-- what the rounds rest on -/
def Safe (fs : List Fi) (c : List Ed) : Prop :=
  ∀ k gs i, k < c.length → runK fs c k = some gs → lookJ fs (backE c k).p fs.length = some i → (backE c k).to ≤ ((fAt fs i).tx.size : Int) →
    gs.length = fs.length ∧ 0 ≤ (backE c k).fr ∧ (backE c k).fr ≤ (backE c k).to ∧ (backE c k).to ≤ ((fAt gs i).tx.size : Int) ∧ (spl (fAt gs i).tx (backE c k)).size ≤ 140737488355328
theorem runK_none {fs : List Fi} {c : List Ed} : ∀ {k m : Nat}, k ≤ m → runK fs c k = none → runK fs c m = none
  | k, 0, h, e => by obtain rfl : k = 0 := by omega
                     exact e
  | k, m + 1, h, e => by
    rcases Nat.lt_or_ge k (m + 1) with hk | hk
    · unfold runK; rw [runK_none (Nat.le_of_lt_succ hk) e]
    · obtain rfl : k = m + 1 := by omega
      exact e
theorem runK_len {fs : List Fi} {c : List Ed} : ∀ {k : Nat} {gs : List Fi}, runK fs c k = some gs → gs.length = fs.length
  | 0, gs, h => by cases h; rfl
  | k + 1, gs, h => by
    unfold runK at h
    split at h
    · cases h
    · rename_i g0 hg
      have := runK_len hg
      unfold stepE at h
      split at h
      · cases h
      · split at h
        · cases h; rw [List.length_set]; exact this
        · cases h
theorem dup_pre {fs : List Fi} (h : ∀ i, i < fs.length → lookJ fs (fAt fs i).p i = none) : dupF fs = false := by
  unfold dupF; rw [List.any_eq_false]; intro i hi; rw [h i (List.mem_range.1 hi)]; simp
theorem dup_at {fs : List Fi} {i : Nat} (hi : i < fs.length) (h : (lookJ fs (fAt fs i).p i).isSome = true) : dupF fs = true := by
  unfold dupF; rw [List.any_eq_true]; exact ⟨i, List.mem_range.2 hi, h⟩
end Go.Proofs.YtnonbonegbdfpaaDoor
