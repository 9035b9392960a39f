/- Plain words for slices and for api.Type in memory: no program in sight. -/
import Derived.WalkKit
import Derived.Below
import Derived.Lib.Hide
import Derived.Laws.OwnMore
import Derived.Maps.AppendAt
import Derived.Deep.AppendLies
import Derived.Deep.Draws
namespace Go.Proofs.Ytanhdklaponekaa
open Go Go.RowKit

theorem drop_at {α : Type} (l : List α) (i : Nat) (h : i < l.length) : l.drop i = l[i] :: l.drop (i + 1) := List.drop_eq_getElem_cons h
theorem drop_end {α : Type} (l : List α) (i : Nat) (h : l.length ≤ i) : l.drop i = [] := List.drop_eq_nil_of_le h

/-- w' is w on the blocks of S. -/
def SameOn (S : Nat → Prop) (w w' : World) : Prop := ∀ b, S b → w'.heap[b]? = w.heap[b]?
/-- The blocks of S lie in w. -/
def Old (S : Nat → Prop) (w : World) : Prop := ∀ b, S b → b < w.heap.size
/-- The blocks that w' has beyond w. -/
def New (w w' : World) (b : Nat) : Prop := w.heap.size ≤ b ∧ b < w'.heap.size

theorem SameOn.cell {S : Nat → Prop} {w w' : World} (h : SameOn S w w') {b : Nat} (hb : S b) (o : Nat) : w'.cell? ⟨b, o, none⟩ = w.cell? ⟨b, o, none⟩ :=
  World.cell?_of_block (a := ⟨b, o, none⟩) (h b hb)
theorem SameOn.of_below {S : Nat → Prop} {B : Nat} {w w' : World} (h : Below B w w') (hS : ∀ b, S b → b < B) : SameOn S w w' := fun b hb => h.block b (hS b hb)
theorem SameOn.of_grown {S : Nat → Prop} {row : Option Nat} {w w' : World} (h : w.grownBy w' row) (hS : Old S w) (hr : ∀ b, S b → some b ≠ row) : SameOn S w w' :=
  fun b hb => h.block b (hS b hb) (hr b hb)
theorem SameOn.trans {S : Nat → Prop} {a b c : World} (h : SameOn S a b) (k : SameOn S b c) : SameOn S a c := fun i hi => (k i hi).trans (h i hi)
theorem Old.below {S : Nat → Prop} {B : Nat} {w w' : World} (h : Old S w) (hb : Below B w w') : Old S w' := fun b hs => Nat.lt_of_lt_of_le (h b hs) hb.size
theorem cell_below {B : Nat} {W w1 : World} (hb : Below B W w1) {b o : Nat} (h : b < B) : w1.cell? ⟨b, o, none⟩ = W.cell? ⟨b, o, none⟩ := hb.cell (p := ⟨b, o, none⟩) h
theorem frozen_below {B : Nat} {W w1 : World} (hb : Below B W w1) {b o : Nat} (h : b < B) : w1.frozen? ⟨b, o, none⟩ = W.frozen? ⟨b, o, none⟩ := hb.frozen (p := ⟨b, o, none⟩) h
theorem below_drewN {B : Nat} {a w : World} (h : Below B a w) (n : Nat) : Below B a (w.drewN n) := h.trans ⟨rfl, rfl, rfl, Nat.le_refl _, fun _ _ => rfl⟩
theorem below_of_grown {w w' : World} (h : w.grownBy w' none) : Below w.heap.size w w' := ⟨h.os, h.tape, h.output, h.size, fun k hk => h.block k hk (by simp)⟩
theorem grown_of_below {w w' : World} (h : Below w.heap.size w w') (row : Option Nat) : w.grownBy w' row := ⟨h.os, h.tape, h.output, h.size, fun k hk _ => h.block k hk⟩

/-- The slice value v reads as cells xs (size cells an element), its array in blocks of S. -/
def Row (w : World) (S : Nat → Prop) (size : Nat) (v : Value) (n : Nat) (xs : List Value) : Prop :=
  xs.length = n * size ∧ ∃ A cap, v = .slice A n cap ∧ n ≤ cap ∧ cap ≤ maxLen ∧ (A = none → cap = 0) ∧
    (0 < n → ∃ b o, A = some ⟨b, o, none⟩ ∧ S b ∧ ∀ j u, xs[j]? = some u → w.cell? ⟨b, o + j, none⟩ = some u)

section
variable {w w' : World} {S S' : Nat → Prop} {size n : Nat} {v : Value} {xs : List Value}
theorem Row.keep (h : Row w S size v n xs) (hs : SameOn S w w') : Row w' S size v n xs := by
  obtain ⟨h1, A, cap, rfl, h2, h3, h0, h4⟩ := h
  refine ⟨h1, A, cap, rfl, h2, h3, h0, fun hn => ?_⟩
  obtain ⟨b, o, rfl, h5, h7⟩ := h4 hn
  exact ⟨b, o, rfl, h5, fun j u hu => (hs.cell h5 _).trans (h7 j u hu)⟩
theorem Row.more (h : Row w S size v n xs) (h1 : ∀ b, S b → S' b) : Row w S' size v n xs := by
  obtain ⟨g1, A, cap, rfl, g2, g3, h0, g4⟩ := h
  refine ⟨g1, A, cap, rfl, g2, g3, h0, fun hn => ?_⟩
  obtain ⟨b, o, rfl, h5, h7⟩ := g4 hn
  exact ⟨b, o, rfl, h1 b h5, h7⟩
theorem Row.form (h : Row w S size v n xs) : ∃ A cap, v = .slice A n cap ∧ n ≤ 9223372036854775807 := by
  obtain ⟨h1, A, cap, rfl, h2, h3, _⟩ := h
  exact ⟨A, cap, rfl, by unfold maxLen at h3; omega⟩
theorem Row.nil_ : Row w S size (.slice none 0 0) 0 [] := ⟨by simp, none, 0, rfl, Nat.le_refl _, Nat.zero_le _, fun _ => rfl, fun h => absurd h (by omega)⟩
/-- element k of a slice of one-cell elements -/
theorem Row.at1 (h : Row w S 1 v n xs) {k : Nat} (hk : k < n) : ∃ b o cap u, v = .slice (some ⟨b, o, none⟩) n cap ∧ S b ∧ xs[k]? = some u ∧ w.cell? ⟨b, o + k, none⟩ = some u := by
  obtain ⟨h1, A, cap, rfl, h2, h3, h0, h4⟩ := h
  obtain ⟨b, o, rfl, h5, h7⟩ := h4 (by omega)
  have hl : k < xs.length := by omega
  exact ⟨b, o, cap, xs[k], rfl, h5, List.getElem?_eq_getElem hl, h7 k _ (List.getElem?_eq_getElem hl)⟩
theorem Row.of_own {base : Nat} {e : TypeId} (h : w.ownsRow base e size v n xs) (hS : ∀ b, v.ownBlock = some b → S b) : Row w S size v n xs := by
  refine ⟨h.1, ?_⟩
  have h' := h
  rcases h.2 with ⟨rfl, rfl⟩ | ⟨g, cap, cur, rfl, hg, hh, hnc, hcm, hcs, ht⟩
  · exact ⟨none, 0, rfl, Nat.le_refl _, Nat.zero_le _, fun _ => rfl, fun h => absurd h (by omega)⟩
  · refine ⟨_, cap, rfl, hnc, hcm, (fun e => by cases e), fun hn => ⟨g, 0, rfl, hS g rfl, fun j u hu => ?_⟩⟩
    have := h'.cells (g := g) rfl j u hu
    rw [Nat.zero_add]
    unfold Addr.add at this
    split at this
    · rename_i h0; subst h0; exact this
    · simpa using this
end

/-- Go's api.Type as data. -/
inductive T where
  | mk (k : Int) (nm : ByteArray) (n : Int) (f : Bool) (ns : List ByteArray) (ms : List Bool) (ks : List T)

def T.kd : T → Int | .mk k _ _ _ _ _ _ => k
def T.nm : T → ByteArray | .mk _ nm _ _ _ _ _ => nm
def T.n : T → Int | .mk _ _ n _ _ _ _ => n
def T.fl : T → Bool | .mk _ _ _ f _ _ _ => f
def T.ns : T → List ByteArray | .mk _ _ _ _ ns _ _ => ns
def T.ms : T → List Bool | .mk _ _ _ _ _ ms _ => ms
def T.ks : T → List T | .mk _ _ _ _ _ _ ks => ks

mutual
def TyR (w : World) (S : Nat → Prop) : T → List Value → Prop
  | .mk k nm n f ns ms ks, cs => ∃ vn vm vk xs, cs = [.int .i64 k, .string nm, .int .i64 n, .bool f, vn, vm, vk] ∧
      Row w S 1 vn ns.length (ns.map .string) ∧ Row w S 1 vm ms.length (ms.map .bool) ∧
      Row w S 7 vk ks.length xs ∧ TysR w S ks xs
def TysR (w : World) (S : Nat → Prop) : List T → List Value → Prop
  | [], cs => cs = []
  | t :: ts, cs => ∃ c1 c2, cs = c1 ++ c2 ∧ TyR w S t c1 ∧ TysR w S ts c2
end

/-- a []api.Type -/
def RowT (w : World) (S : Nat → Prop) (v : Value) (ts : List T) : Prop := ∃ xs, Row w S 7 v ts.length xs ∧ TysR w S ts xs

mutual
theorem TyR.keep {w w' : World} {S S' : Nat → Prop} (hs : SameOn S w w') (h1 : ∀ b, S b → S' b) : ∀ {t : T} {cs : List Value}, TyR w S t cs → TyR w' S' t cs
  | .mk k nm n f ns ms ks, cs, h => by
    simp only [TyR] at h ⊢
    obtain ⟨vn, vm, vk, xs, rfl, a, b, c, d⟩ := h
    exact ⟨vn, vm, vk, xs, rfl, (a.keep hs).more h1, (b.keep hs).more h1, (c.keep hs).more h1, TysR.keep hs h1 d⟩
theorem TysR.keep {w w' : World} {S S' : Nat → Prop} (hs : SameOn S w w') (h1 : ∀ b, S b → S' b) : ∀ {ts : List T} {cs : List Value}, TysR w S ts cs → TysR w' S' ts cs
  | [], cs, h => by simp only [TysR] at h ⊢; exact h
  | t :: ts, cs, h => by
    simp only [TysR] at h ⊢
    obtain ⟨c1, c2, e, a, b⟩ := h
    exact ⟨c1, c2, e, TyR.keep hs h1 a, TysR.keep hs h1 b⟩
end

theorem RowT.keep {w w' : World} {S S' : Nat → Prop} {v : Value} {ts : List T} (h : RowT w S v ts) (hs : SameOn S w w') (h1 : ∀ b, S b → S' b) : RowT w' S' v ts := by
  obtain ⟨xs, a, b⟩ := h
  exact ⟨xs, (a.keep hs).more h1, b.keep hs h1⟩

theorem TyR.len {w : World} {S : Nat → Prop} : ∀ {t : T} {cs : List Value}, TyR w S t cs → cs.length = 7
  | .mk .., cs, h => by simp only [TyR] at h; obtain ⟨_, _, _, _, rfl, _⟩ := h; rfl
theorem TysR.len {w : World} {S : Nat → Prop} : ∀ {ts : List T} {cs : List Value}, TysR w S ts cs → cs.length = ts.length * 7
  | [], cs, h => by simp only [TysR] at h; subst h; rfl
  | t :: ts, cs, h => by
    simp only [TysR] at h
    obtain ⟨c1, c2, rfl, a, b⟩ := h
    rw [List.length_append, a.len, b.len, List.length_cons]; omega
theorem TysR.append {w : World} {S : Nat → Prop} : ∀ {ts us : List T} {cs ds : List Value}, TysR w S ts cs → TysR w S us ds → TysR w S (ts ++ us) (cs ++ ds)
  | [], us, cs, ds, h, h' => by simp only [TysR] at h; subst h; simpa using h'
  | t :: ts, us, cs, ds, h, h' => by
    simp only [TysR, List.cons_append] at h ⊢
    obtain ⟨c1, c2, rfl, a, b⟩ := h
    exact ⟨c1, c2 ++ ds, by simp, a, b.append h'⟩
theorem TysR.one {w : World} {S : Nat → Prop} {t : T} {cs : List Value} (h : TyR w S t cs) : TysR w S [t] cs := by
  simp only [TysR]; exact ⟨cs, [], by simp, h, rfl⟩

theorem TysR.at_ {w : World} {S : Nat → Prop} : ∀ {ts : List T} {cs : List Value} (_ : TysR w S ts cs) (i : Nat) (h : i < ts.length),
    TyR w S ts[i] ((cs.drop (i * 7)).take 7)
  | t :: ts, cs, h, 0, _ => by
    simp only [TysR] at h
    obtain ⟨c1, c2, rfl, a, b⟩ := h
    simpa [List.take_append_of_le_length, a.len, List.take_of_length_le] using a
  | t :: ts, cs, h, i + 1, hi => by
    simp only [TysR] at h
    obtain ⟨c1, c2, rfl, a, b⟩ := h
    have := b.at_ i (by simpa using hi)
    have e : (c1 ++ c2).drop ((i + 1) * 7) = c2.drop (i * 7) := by
      rw [List.drop_append, List.drop_eq_nil_of_le (by rw [a.len]; omega), a.len, List.nil_append]; congr 1; omega
    rw [e]
    simpa using this

theorem list7 : ∀ {l : List Value}, l.length = 7 → ∃ c0 c1 c2 c3 c4 c5 c6, l = [c0, c1, c2, c3, c4, c5, c6]
  | [c0, c1, c2, c3, c4, c5, c6], _ => ⟨c0, c1, c2, c3, c4, c5, c6, rfl⟩

/-- seven cells in a row -/
def Cells7 (w : World) (b o : Nat) (c0 c1 c2 c3 c4 c5 c6 : Value) : Prop :=
  w.cell? ⟨b, o, none⟩ = some c0 ∧ w.cell? ⟨b, o + 1, none⟩ = some c1 ∧ w.cell? ⟨b, o + 2, none⟩ = some c2 ∧
       w.cell? ⟨b, o + 3, none⟩ = some c3 ∧ w.cell? ⟨b, o + 4, none⟩ = some c4 ∧ w.cell? ⟨b, o + 5, none⟩ = some c5 ∧
       w.cell? ⟨b, o + 6, none⟩ = some c6

/-- the seven cells of an api.Type, by their forms; its lists -/
theorem TyR.forms {w : World} {S : Nat → Prop} {t : T} {cs : List Value} (h : TyR w S t cs) : ∃ A1 c1 A2 c2 A3 c3,
    cs = [.int .i64 t.kd, .string t.nm, .int .i64 t.n, .bool t.fl, .slice A1 t.ns.length c1, .slice A2 t.ms.length c2, .slice A3 t.ks.length c3] ∧
    Row w S 1 (.slice A1 t.ns.length c1) t.ns.length (t.ns.map .string) ∧ Row w S 1 (.slice A2 t.ms.length c2) t.ms.length (t.ms.map .bool) ∧ RowT w S (.slice A3 t.ks.length c3) t.ks := by
  obtain ⟨k, nm, n, f, ns, ms, ks⟩ := t
  simp only [TyR] at h
  obtain ⟨vn, vm, vk, xs, rfl, a, b, c, d⟩ := h
  obtain ⟨A1, c1, rfl, _⟩ := a.form
  obtain ⟨A2, c2, rfl, _⟩ := b.form
  obtain ⟨A3, c3, rfl, _⟩ := c.form
  exact ⟨A1, c1, A2, c2, A3, c3, rfl, a, b, ⟨xs, c, d⟩⟩
theorem TyR.mk {w : World} {S : Nat → Prop} {t : T} {A1 A2 A3 : Option Addr} {c1 c2 c3 : Nat} (h1 : Row w S 1 (.slice A1 t.ns.length c1) t.ns.length (t.ns.map .string))
    (h2 : Row w S 1 (.slice A2 t.ms.length c2) t.ms.length (t.ms.map .bool)) (h3 : RowT w S (.slice A3 t.ks.length c3) t.ks) :
    TyR w S t [.int .i64 t.kd, .string t.nm, .int .i64 t.n, .bool t.fl, .slice A1 t.ns.length c1, .slice A2 t.ms.length c2, .slice A3 t.ks.length c3] := by
  obtain ⟨k, nm, n, f, ns, ms, ks⟩ := t
  obtain ⟨xs, a, b⟩ := h3
  simp only [TyR]
  exact ⟨_, _, _, xs, rfl, h1, h2, a, b⟩

/-- element i of a []api.Type: where its cells lie -/
theorem RowT.at_ {w : World} {S : Nat → Prop} {v : Value} {ts : List T} (h : RowT w S v ts) {i : Nat} (hl : i < ts.length) :
    ∃ b o cap A1 c1 A2 c2 A3 c3, v = .slice (some ⟨b, o, none⟩) ts.length cap ∧ S b ∧
      Cells7 w b (o + i * 7) (.int .i64 ts[i].kd) (.string ts[i].nm) (.int .i64 ts[i].n) (.bool ts[i].fl) (.slice A1 ts[i].ns.length c1) (.slice A2 ts[i].ms.length c2) (.slice A3 ts[i].ks.length c3) ∧
      TyR w S ts[i] [.int .i64 ts[i].kd, .string ts[i].nm, .int .i64 ts[i].n, .bool ts[i].fl, .slice A1 ts[i].ns.length c1, .slice A2 ts[i].ms.length c2, .slice A3 ts[i].ks.length c3] := by
  obtain ⟨xs, ⟨h1, A, cap, rfl, h2, h3, h0, h4⟩, ht⟩ := h
  obtain ⟨b, o, rfl, hb1, hc⟩ := h4 (by omega)
  have hr := ht.at_ i hl
  obtain ⟨A1, c1, A2, c2, A3, c3, e, _⟩ := hr.forms
  rw [e] at hr
  have hx : ∀ j u, [.int .i64 ts[i].kd, .string ts[i].nm, .int .i64 ts[i].n, .bool ts[i].fl, .slice A1 ts[i].ns.length c1, .slice A2 ts[i].ms.length c2, .slice A3 ts[i].ks.length c3][j]? = some u → w.cell? ⟨b, o + i * 7 + j, none⟩ = some u := by
    intro j u hj
    rw [← e, List.getElem?_take] at hj
    split at hj
    · rw [List.getElem?_drop] at hj
      rw [Nat.add_assoc]; exact hc _ _ hj
    · cases hj
  exact ⟨b, o, cap, A1, c1, A2, c2, A3, c3, rfl, hb1, ⟨hx 0 _ rfl, hx 1 _ rfl, hx 2 _ rfl, hx 3 _ rfl, hx 4 _ rfl, hx 5 _ rfl, hx 6 _ rfl⟩, hr⟩
theorem RowT.form {w : World} {S : Nat → Prop} {v : Value} {ts : List T} (h : RowT w S v ts) : ∃ A cap, v = .slice A ts.length cap ∧ ts.length ≤ 9223372036854775807 := by
  obtain ⟨xs, a, _⟩ := h; exact a.form

mutual
def T.sz : T → Nat
  | .mk _ _ _ _ _ _ ks => T.szL ks + 1
def T.szL : List T → Nat
  | [] => 0
  | t :: ts => t.sz + T.szL ts + 1
end
theorem szL_mem : ∀ {ks : List T} {i : Nat} (h : i < ks.length), ks[i].sz < T.szL ks
  | t :: ts, 0, h => by simp only [T.szL, List.getElem_cons_zero]; omega
  | t :: ts, i + 1, h => by
    have := szL_mem (ks := ts) (i := i) (by simpa using h)
    simp only [T.szL, List.getElem_cons_succ]; omega
theorem sz_mk {k : Int} {nm : ByteArray} {n : Int} {f : Bool} {ns : List ByteArray} {ms : List Bool} {ks : List T} : (T.mk k nm n f ns ms ks).sz = T.szL ks + 1 := by rw [T.sz]

/-- What fits into a machine (2^47 bytes a slice; int64). -/
def Lim : Nat := 140737488355328
def i64ok (n : Int) : Prop := -9223372036854775808 ≤ n ∧ n ≤ 9223372036854775807
mutual
def T.ok : T → Prop
  | .mk k nm n _ ns ms ks => i64ok k ∧ i64ok n ∧ nm.size ≤ Lim ∧ (∀ s ∈ ns, s.size ≤ Lim) ∧ ns.length * 16 ≤ Lim ∧ ms.length ≤ Lim ∧ ks.length * 112 ≤ Lim ∧ T.okL ks
def T.okL : List T → Prop
  | [] => True
  | t :: ts => t.ok ∧ T.okL ts
end
theorem okL_iff : ∀ {ts : List T}, T.okL ts ↔ ∀ t ∈ ts, t.ok
  | [] => by simp [T.okL]
  | t :: ts => by simp [T.okL, okL_iff (ts := ts)]
theorem okL_at {ts : List T} (h : T.okL ts) {i : Nat} (hi : i < ts.length) : ts[i].ok := okL_iff.1 h _ (List.getElem_mem hi)

/-- Block g is just the cells cs of type t, none frozen. -/
def Blk (w : World) (g : Nat) (t : TypeId) (cs : Array Value) : Prop := w.heap[g]? = some (.cells cs t (0, 0))
section
variable {w w' : World} {g : Nat} {t : TypeId} {cs : Array Value}
theorem Blk.lt (h : Blk w g t cs) : g < w.heap.size := by
  rcases Nat.lt_or_ge g w.heap.size with hlt | hge
  · exact hlt
  · unfold Blk at h; rw [Array.getElem?_eq_none hge] at h; cases h
theorem Blk.cell (h : Blk w g t cs) (i : Nat) : w.cell? ⟨g, i, none⟩ = cs[i]? := cell_of_row w g i cs t (0, 0) h
theorem Blk.frozen (h : Blk w g t cs) (i : Nat) : w.frozen? ⟨g, i, none⟩ = false := by
  unfold Blk at h
  simp [World.frozen?, h]
theorem Blk.new (w : World) (t : TypeId) (cs : Array Value) : Blk (w.alloc (.cells cs t)) w.heap.size t cs := heap_alloc_new w _
theorem Blk.drew (h : Blk w g t cs) : Blk w.drew g t cs := h
theorem Blk.drewN (h : Blk w g t cs) (n : Nat) : Blk (w.drewN n) g t cs := h
theorem Blk.alloc (h : Blk w g t cs) (o : Obj) : Blk (w.alloc o) g t cs := (Below.heap_alloc w o g h.lt).trans h
theorem Blk.set_ (h : Blk w g t cs) (i : Nat) (u : Value) : Blk (w.setCell ⟨g, i, none⟩ u) g t (cs.setIfInBounds i u) := by
  unfold Blk at h ⊢
  simp [World.setCell, Array.getElem?_modify, h]
theorem Blk.far (h : Blk w g t cs) {p : Addr} (hp : g ≠ p.block) (u : Value) : Blk (w.setCell p u) g t cs := (Below.heap_setCell w p u g hp).trans h
theorem Blk.below {B : Nat} (h : Blk w g t cs) (hb : Below B w w') (hg : g < B) : Blk w' g t cs := (hb.block g hg).trans h
theorem Blk.grown {row : Option Nat} (h : Blk w g t cs) (hb : w.grownBy w' row) (hg : some g ≠ row) : Blk w' g t cs := (hb.block g h.lt hg).trans h
end

/-- seven cells of a block that is known whole -/
theorem Blk.cells7 {w : World} {g : Nat} {t : TypeId} {c0 c1 c2 c3 c4 c5 c6 : Value} (h : Blk w g t #[c0, c1, c2, c3, c4, c5, c6]) :
    w.cell? ⟨g, 0, none⟩ = some c0 ∧ w.cell? ⟨g, 1, none⟩ = some c1 ∧ w.cell? ⟨g, 2, none⟩ = some c2 ∧ w.cell? ⟨g, 3, none⟩ = some c3 ∧ w.cell? ⟨g, 4, none⟩ = some c4 ∧
    w.cell? ⟨g, 5, none⟩ = some c5 ∧ w.cell? ⟨g, 6, none⟩ = some c6 ∧ (∀ i, w.frozen? ⟨g, i, none⟩ = false) :=
  ⟨h.cell 0, h.cell 1, h.cell 2, h.cell 3, h.cell 4, h.cell 5, h.cell 6, h.frozen⟩

theorem SameOn.refl (S : Nat → Prop) (w : World) : SameOn S w w := fun _ _ => rfl
theorem SameOn.set_ {S : Nat → Prop} {a b : World} (h : SameOn S a b) {p : Addr} (hp : ¬ S p.block) (u : Value) : SameOn S a (b.setCell p u) :=
  fun k hk => (Below.heap_setCell b p u k (fun e => hp (e ▸ hk))).trans (h k hk)
theorem SameOn.alloc {S : Nat → Prop} {a b : World} (h : SameOn S a b) (hS : Old S b) (o : Obj) : SameOn S a (b.alloc o) :=
  fun k hk => (Below.heap_alloc b o k (hS k hk)).trans (h k hk)
theorem own_form {w : World} {base : Nat} {e : TypeId} {size n : Nat} {v : Value} {xs : List Value} (h : w.ownsRow base e size v n xs) : ∃ A c, v = .slice A n c := by
  rcases h.2 with ⟨rfl, rfl⟩ | ⟨g, cap, cur, rfl, _⟩
  · exact ⟨_, _, rfl⟩
  · exact ⟨_, _, rfl⟩
theorem own_below {w w' : World} {base : Nat} {e : TypeId} {size n : Nat} {v : Value} {xs : List Value} (h : w.ownsRow base e size v n xs) (hb : Below w.heap.size w w') : w'.ownsRow base e size v n xs :=
  h.kept (grown_of_below hb none) (by cases h' : v.ownBlock <;> simp)
theorem one_strs (l : List ByteArray) : ∀ u ∈ l.map Value.string, u.oneCell' = true := by
  intro u h; obtain ⟨s, _, rfl⟩ := List.mem_map.1 h; rfl
theorem one_bools (l : List Bool) : ∀ u ∈ l.map Value.bool, u.oneCell' = true := by
  intro u h; obtain ⟨s, _, rfl⟩ := List.mem_map.1 h; rfl

/-- A result that is an api.Type in new memory. -/
def TRes (w : World) (t : T) (e : Ending) (w' : World) : Prop := ∃ cs : List Value, e = .returned (.agg cs.toArray) ∧ TyR w' (New w w') t cs ∧ Below w.heap.size w w'
/-- A result that is a []api.Type in new memory, the array the call's own. -/
def TsRes (E : TypeId) (w : World) (ts : List T) (e : Ending) (w' : World) : Prop :=
  ∃ v xs, e = .returned v ∧ w'.ownsRow w.heap.size E 7 v ts.length xs ∧ TysR w' (fun b => New w w' b ∧ v.ownBlock ≠ some b) ts xs ∧ Below w.heap.size w w'
end Go.Proofs.Ytanhdklaponekaa
