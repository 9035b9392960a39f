/- Declared types as data (api.Named, api.Method), and a table of them in memory. -/
import Derived.Test.YtanhdklaponekaaRead
import Derived.Test.YtanhdklaponekaaProg
import Derived.Maps.Views
import Derived.Maps.OwnIn
import Derived.Maps.RangeWalk
namespace Go.Proofs.Ytanhdklaponekaa
open Go Go.RowKit

structure Me where
  nm : ByteArray
  p : Bool
  sig : T
structure Nd where
  nm : ByteArray
  un : T
  ms : List Me

def MeR (w : World) (S : Nat → Prop) (m : Me) (cs : List Value) : Prop := ∃ ct, cs = .string m.nm :: .bool m.p :: ct ∧ TyR w S m.sig ct
def RowMe (w : World) (S : Nat → Prop) (v : Value) (ms : List Me) : Prop := ∃ xs, Row w S 9 v ms.length xs ∧ AllR (MeR w S) ms xs
def NdR (w : World) (S : Nat → Prop) (d : Nd) (cs : List Value) : Prop := ∃ ct vm, cs = .string d.nm :: (ct ++ [vm]) ∧ TyR w S d.un ct ∧ RowMe w S vm d.ms
def RowNd (w : World) (S : Nat → Prop) (v : Value) (ds : List Nd) : Prop := ∃ xs, Row w S 9 v ds.length xs ∧ AllR (NdR w S) ds xs

section
variable {α : Type} {Q Q' : α → List Value → Prop} {k : Nat}
theorem AllR.imp (h : ∀ t cs, Q t cs → Q' t cs) : ∀ {ts : List α} {cs : List Value}, AllR Q ts cs → AllR Q' ts cs
  | [], cs, hh => hh
  | t :: ts, cs, hh => by
    obtain ⟨c1, c2, rfl, a, b⟩ := hh
    exact ⟨c1, c2, rfl, h _ _ a, AllR.imp h b⟩
theorem AllR.len (hk : ∀ t cs, Q t cs → cs.length = k) : ∀ {ts : List α} {cs : List Value}, AllR Q ts cs → cs.length = ts.length * k
  | [], cs, h => by simp only [AllR] at h; subst h; simp
  | t :: ts, cs, h => by
    obtain ⟨c1, c2, rfl, a, b⟩ := h
    rw [List.length_append, hk _ _ a, AllR.len hk b, List.length_cons, Nat.add_mul, Nat.one_mul, Nat.add_comm]
theorem AllR.append : ∀ {ts us : List α} {cs ds : List Value}, AllR Q ts cs → AllR Q us ds → AllR Q (ts ++ us) (cs ++ ds)
  | [], us, cs, ds, h, h' => by simp only [AllR] at h; subst h; simpa using h'
  | t :: ts, us, cs, ds, h, h' => by
    obtain ⟨c1, c2, rfl, a, b⟩ := h
    exact ⟨c1, c2 ++ ds, by simp, a, b.append h'⟩
theorem AllR.one {t : α} {cs : List Value} (h : Q t cs) : AllR Q [t] cs := ⟨cs, [], by simp, h, rfl⟩
theorem AllR.at_ (hk : ∀ t cs, Q t cs → cs.length = k) : ∀ {ts : List α} {cs : List Value} (_ : AllR Q ts cs) (i : Nat) (h : i < ts.length), Q ts[i] ((cs.drop (i * k)).take k)
  | t :: ts, cs, h, 0, _ => by
    obtain ⟨c1, c2, rfl, a, b⟩ := h
    have := hk _ _ a
    simpa [List.take_append_of_le_length, this, List.take_of_length_le] using a
  | t :: ts, cs, h, i + 1, hi => by
    obtain ⟨c1, c2, rfl, a, b⟩ := h
    have := b.at_ hk i (by simpa using hi)
    have hl := hk _ _ a
    have e : (c1 ++ c2).drop ((i + 1) * k) = c2.drop (i * k) := by
      rw [List.drop_append, List.drop_eq_nil_of_le (by rw [hl, Nat.add_mul, Nat.one_mul]; omega), hl, List.nil_append]
      congr 1
      rw [Nat.add_mul, Nat.one_mul]; omega
    rw [e]
    simpa using this
/-- element i of a row of such things -/
theorem row_all_at {w : World} {S : Nat → Prop} {v : Value} {ts : List α} {xs : List Value} (h : Row w S k v ts.length xs) (ha : AllR Q ts xs) (hk : ∀ t cs, Q t cs → cs.length = k) {i : Nat} (hi : i < ts.length) :
    ∃ b o cap cs, v = .slice (some ⟨b, o, none⟩) ts.length cap ∧ S b ∧ Q ts[i] cs ∧ ∀ j u, cs[j]? = some u → w.cell? ⟨b, o + i * k + j, none⟩ = some u := by
  obtain ⟨h1, A, cap, rfl, h2, h3, h0, h4⟩ := h
  obtain ⟨b, o, rfl, hb1, hc⟩ := h4 (by omega)
  refine ⟨b, o, cap, _, rfl, hb1, ha.at_ hk i hi, fun j u hj => ?_⟩
  rw [List.getElem?_take] at hj
  split at hj
  · rw [List.getElem?_drop] at hj
    rw [Nat.add_assoc]; exact hc _ _ hj
  · cases hj
end

section
variable {w w' : World} {S S' : Nat → Prop}
theorem MeR.len {m : Me} {cs : List Value} (h : MeR w S m cs) : cs.length = 9 := by obtain ⟨ct, rfl, h⟩ := h; simp [h.len]
theorem MeR.keep (hs : SameOn S w w') (h1 : ∀ b, S b → S' b) {m : Me} {cs : List Value} (h : MeR w S m cs) : MeR w' S' m cs := by
  obtain ⟨ct, rfl, h⟩ := h; exact ⟨ct, rfl, h.keep hs h1⟩
theorem RowMe.keep {v : Value} {ms : List Me} (h : RowMe w S v ms) (hs : SameOn S w w') (h1 : ∀ b, S b → S' b) : RowMe w' S' v ms := by
  obtain ⟨xs, a, b⟩ := h; exact ⟨xs, (a.keep hs).more h1, b.imp fun _ _ h => h.keep hs h1⟩
theorem NdR.len {d : Nd} {cs : List Value} (h : NdR w S d cs) : cs.length = 9 := by obtain ⟨ct, vm, rfl, h, _⟩ := h; simp [h.len]
theorem NdR.keep (hs : SameOn S w w') (h1 : ∀ b, S b → S' b) {d : Nd} {cs : List Value} (h : NdR w S d cs) : NdR w' S' d cs := by
  obtain ⟨ct, vm, rfl, h, h'⟩ := h; exact ⟨ct, vm, rfl, h.keep hs h1, h'.keep hs h1⟩
theorem RowNd.keep {v : Value} {ds : List Nd} (h : RowNd w S v ds) (hs : SameOn S w w') (h1 : ∀ b, S b → S' b) : RowNd w' S' v ds := by
  obtain ⟨xs, a, b⟩ := h; exact ⟨xs, (a.keep hs).more h1, b.imp fun _ _ h => h.keep hs h1⟩
theorem RowMe.form {v : Value} {ms : List Me} (h : RowMe w S v ms) : ∃ A cap, v = .slice A ms.length cap ∧ ms.length ≤ 9223372036854775807 := by
  obtain ⟨xs, a, _⟩ := h; exact a.form
theorem RowNd.form {v : Value} {ds : List Nd} (h : RowNd w S v ds) : ∃ A cap, v = .slice A ds.length cap ∧ ds.length ≤ 9223372036854775807 := by
  obtain ⟨xs, a, _⟩ := h; exact a.form
theorem MeR.forms {m : Me} {cs : List Value} (h : MeR w S m cs) : ∃ A1 c1 A2 c2 A3 c3,
    cs = [.string m.nm, .bool m.p, .int .i64 m.sig.kd, .string m.sig.nm, .int .i64 m.sig.n, .bool m.sig.fl, .slice A1 m.sig.ns.length c1, .slice A2 m.sig.ms.length c2, .slice A3 m.sig.ks.length c3] ∧
    TyR w S m.sig [.int .i64 m.sig.kd, .string m.sig.nm, .int .i64 m.sig.n, .bool m.sig.fl, .slice A1 m.sig.ns.length c1, .slice A2 m.sig.ms.length c2, .slice A3 m.sig.ks.length c3] := by
  obtain ⟨ct, rfl, h⟩ := h
  obtain ⟨A1, c1, A2, c2, A3, c3, rfl, _⟩ := h.forms
  exact ⟨A1, c1, A2, c2, A3, c3, rfl, h⟩
theorem NdR.forms {d : Nd} {cs : List Value} (h : NdR w S d cs) : ∃ A1 c1 A2 c2 A3 c3 A4 c4,
    cs = [.string d.nm, .int .i64 d.un.kd, .string d.un.nm, .int .i64 d.un.n, .bool d.un.fl, .slice A1 d.un.ns.length c1, .slice A2 d.un.ms.length c2, .slice A3 d.un.ks.length c3, .slice A4 d.ms.length c4] ∧
    TyR w S d.un [.int .i64 d.un.kd, .string d.un.nm, .int .i64 d.un.n, .bool d.un.fl, .slice A1 d.un.ns.length c1, .slice A2 d.un.ms.length c2, .slice A3 d.un.ks.length c3] ∧
    RowMe w S (.slice A4 d.ms.length c4) d.ms := by
  obtain ⟨ct, vm, rfl, h, h'⟩ := h
  obtain ⟨A1, c1, A2, c2, A3, c3, rfl, _⟩ := h.forms
  obtain ⟨A4, c4, rfl, _⟩ := h'.form
  exact ⟨A1, c1, A2, c2, A3, c3, A4, c4, rfl, h, h'⟩
end

/-! ### the table -/
def keyS (s : ByteArray) : Lit := .string s.data.toList
theorem keyS_ne {p q : ByteArray} (h : p ≠ q) : keyS p ≠ keyS q := by
  intro e
  simp only [keyS, Lit.string.injEq] at e
  exact h (ByteArray.ext (Array.toList_inj.1 e))
def heldE (v : Value) : Option (DataW Value × List MemPlace) := some (.held v, [])
def look (L : List Nd) (s : ByteArray) : Option Nd := L.find? fun d => decide (d.nm = s)
theorem look_nm {L : List Nd} {s : ByteArray} {d : Nd} (h : look L s = some d) : d.nm = s := by simpa using List.find?_some h
theorem look_mem {L : List Nd} {s : ByteArray} {d : Nd} (h : look L s = some d) : d ∈ L := List.mem_of_find?_eq_some h

def T0 : T := .mk 0 ⟨#[]⟩ 0 false [] [] []
def d0 : Nd := ⟨⟨#[]⟩, T0, []⟩
/-- the declared type of a name; the empty one where there is none -/
def lookD (L : List Nd) (s : ByteArray) : Nd := (look L s).getD d0
def zero7 : List Value := [.int .i64 0, .string ⟨#[]⟩, .int .i64 0, .bool false, .slice none 0 0, .slice none 0 0, .slice none 0 0]
def zero9 : List Value := [.string ⟨#[]⟩, .int .i64 0, .string ⟨#[]⟩, .int .i64 0, .bool false, .slice none 0 0, .slice none 0 0, .slice none 0 0, .slice none 0 0]
theorem T0_cells (w : World) (S : Nat → Prop) : TyR w S T0 zero7 := by
  simp only [T0, zero7, TyR]
  exact ⟨_, _, _, [], rfl, Row.nil_, Row.nil_, Row.nil_, by simp [TysR]⟩
theorem d0_cells (w : World) (S : Nat → Prop) : NdR w S d0 zero9 := ⟨zero7, .slice none 0 0, rfl, T0_cells w S, [], Row.nil_, rfl⟩

/-- what the machine can hold of them -/
def Me.ok (m : Me) : Prop := m.nm.size ≤ Lim ∧ m.sig.ok
def Nd.ok (d : Nd) : Prop := d.nm.size ≤ Lim ∧ d.un.ok ∧ d.ms.length * 136 ≤ Lim ∧ ∀ m ∈ d.ms, m.ok

/-- the map's block b holds what L says, the types in the blocks of S -/
def TabR (w : World) (S : Nat → Prop) (b : Nat) (L : List Nd) : Prop :=
  ∃ n D, n ≤ Lim ∧ w.ownsMap Try.prog 9 heldE b n D ∧
    ∀ s : ByteArray, (look L s = none → Maps.has D (keyS s) = false) ∧
      ∀ d, look L s = some d → Maps.has D (keyS s) = true ∧ ∃ cs : List Value, (∀ z, D.atKey (keyS s) z = .held (.agg cs.toArray)) ∧ NdR w S d cs
/-- a *types.World -/
def WldR (w : World) (S : Nat → Prop) (g : Nat) (L : List Nd) : Prop := S g ∧ ∃ gt b, S gt ∧ w.cell? ⟨g, 0, none⟩ = some (.pointer (some ⟨gt, 0, none⟩)) ∧ w.cell? ⟨gt, 0, none⟩ = some (.map (some b)) ∧ S b ∧ TabR w S b L

theorem ownsMap_same {H : Type} {P : Program} {k : TypeId} {R : Value → Option (DataW H × List MemPlace)} {w w' : World} {b n : Nat} {D : DataW H} (h : w.ownsMap P k R b n D) (e : w'.heap[b]? = w.heap[b]?) : w'.ownsMap P k R b n D := by
  obtain ⟨es, clock, hb, r⟩ := h
  exact ⟨es, clock, e.trans hb, r⟩
theorem TabR.keep {w w' : World} {S S' : Nat → Prop} {b : Nat} {L : List Nd} (h : TabR w S b L) (hb : w'.heap[b]? = w.heap[b]?) (hs : SameOn S w w') (h1 : ∀ b, S b → S' b) : TabR w' S' b L := by
  obtain ⟨n, D, hn, ho, hL⟩ := h
  refine ⟨n, D, hn, ownsMap_same ho hb, fun s => ⟨(hL s).1, fun d hd => ?_⟩⟩
  obtain ⟨g1, cs, g2, g3⟩ := (hL s).2 d hd
  exact ⟨g1, cs, g2, g3.keep hs h1⟩
theorem WldR.keep {w w' : World} {S S' : Nat → Prop} {g : Nat} {L : List Nd} (h : WldR w S g L) (hs : SameOn S w w') (h1 : ∀ b, S b → S' b) : WldR w' S' g L := by
  obtain ⟨hg, gt, b, hgt, c1, c2, hb, ht⟩ := h
  exact ⟨h1 _ hg, gt, b, h1 _ hgt, (hs.cell hg 0).trans c1, (hs.cell hgt 0).trans c2, h1 _ hb, ht.keep (hs b hb) hs h1⟩

/-- a look-up: what comes out, in every world that has the map -/
theorem TabR.look {w : World} {S : Nat → Prop} {b : Nat} {L : List Nd} (h : TabR w S b L) {t e : TypeId} (K : Maps.Keyed Try.prog 9) (ht : Try.prog.underlying t = some (.map 9 e)) (hz : ∀ wx, (zeroValue e).run Try.prog wx = .ok (.agg zero9.toArray) wx) {s : ByteArray}
    (hs : keyOf Try.prog 9 (.string s) = some (keyS s)) :
    ∃ cs, NdR w S (lookD L s) cs ∧ (∀ wx, wx.heap[b]? = w.heap[b]? → (Instr.lookup t (.map (some b)) (.string s) true).run Try.prog wx = .ok (.tuple #[.agg cs.toArray, .bool (look L s).isSome]) wx) ∧
      ∀ wx, wx.heap[b]? = w.heap[b]? → (Instr.lookup t (.map (some b)) (.string s) false).run Try.prog wx = .ok (.agg cs.toArray) wx := by
  obtain ⟨n, D, hn, ho, hL⟩ := h
  cases hl : Go.Proofs.Ytanhdklaponekaa.look L s with
  | none =>
    have h1 := (hL s).1 hl
    refine ⟨zero9, by unfold lookD; rw [hl]; exact d0_cells w S, fun wx hx => ?_, fun wx hx => ?_⟩
    · obtain ⟨v, ps, hrun, hv⟩ := (ownsMap_same ho hx).look_ok K ht (hz wx) (zd := .held (.agg zero9.toArray)) (zp := []) rfl hs
      rw [h1] at hrun
      rw [Maps.atKey_of_not_has h1] at hv
      simp only [heldE, Option.some.injEq, Prod.mk.injEq, DataW.held.injEq] at hv
      rw [hv.1] at hrun
      exact hrun
    · obtain ⟨v, ps, hrun, hv⟩ := (ownsMap_same ho hx).lookup K ht (hz wx) (zd := .held (.agg zero9.toArray)) (zp := []) rfl hs
      rw [Maps.atKey_of_not_has h1] at hv
      simp only [heldE, Option.some.injEq, Prod.mk.injEq, DataW.held.injEq] at hv
      rw [hv.1] at hrun
      exact hrun
  | some d =>
    obtain ⟨h1, cs, h2, h3⟩ := (hL s).2 d hl
    refine ⟨cs, by unfold lookD; rw [hl]; exact h3, fun wx hx => ?_, fun wx hx => ?_⟩
    · obtain ⟨v, ps, hrun, hv⟩ := (ownsMap_same ho hx).look_ok K ht (hz wx) (zd := .held (.agg zero9.toArray)) (zp := []) rfl hs
      rw [h1] at hrun
      rw [h2] at hv
      simp only [heldE, Option.some.injEq, Prod.mk.injEq, DataW.held.injEq] at hv
      rw [hv.1] at hrun
      exact hrun
    · obtain ⟨v, ps, hrun, hv⟩ := (ownsMap_same ho hx).lookup K ht (hz wx) (zd := .held (.agg zero9.toArray)) (zp := []) rfl hs
      rw [h2] at hv
      simp only [heldE, Option.some.injEq, Prod.mk.injEq, DataW.held.injEq] at hv
      rw [hv.1] at hrun
      exact hrun

theorem zero_named (w : World) : (zeroValue 43).run Try.prog w = .ok (.agg zero9.toArray) w := by kernel_rfl
/-- .. for names that fit the machine -/
theorem TabR.looks {w : World} {S : Nat → Prop} {b : Nat} {L : List Nd} (h : TabR w S b L) {s : ByteArray} (hs : s.size ≤ Lim) :
    ∃ A1 c1 A2 c2 A3 c3 A4 c4, NdR w S (lookD L s) [.string (lookD L s).nm, .int .i64 (lookD L s).un.kd, .string (lookD L s).un.nm, .int .i64 (lookD L s).un.n, .bool (lookD L s).un.fl, .slice A1 (lookD L s).un.ns.length c1, .slice A2 (lookD L s).un.ms.length c2, .slice A3 (lookD L s).un.ks.length c3, .slice A4 (lookD L s).ms.length c4] ∧
      (∀ wx, wx.heap[b]? = w.heap[b]? → (Instr.lookup 83 (.map (some b)) (.string s) true).run Try.prog wx = .ok (.tuple #[.agg #[.string (lookD L s).nm, .int .i64 (lookD L s).un.kd, .string (lookD L s).un.nm, .int .i64 (lookD L s).un.n, .bool (lookD L s).un.fl, .slice A1 (lookD L s).un.ns.length c1, .slice A2 (lookD L s).un.ms.length c2, .slice A3 (lookD L s).un.ks.length c3, .slice A4 (lookD L s).ms.length c4], .bool (Go.Proofs.Ytanhdklaponekaa.look L s).isSome]) wx) ∧
      ∀ wx, wx.heap[b]? = w.heap[b]? → (Instr.lookup 83 (.map (some b)) (.string s) false).run Try.prog wx = .ok (.agg #[.string (lookD L s).nm, .int .i64 (lookD L s).un.kd, .string (lookD L s).un.nm, .int .i64 (lookD L s).un.n, .bool (lookD L s).un.fl, .slice A1 (lookD L s).un.ns.length c1, .slice A2 (lookD L s).un.ms.length c2, .slice A3 (lookD L s).un.ks.length c3, .slice A4 (lookD L s).ms.length c4]) wx := by
  obtain ⟨cs, h1, h2, h3⟩ := h.look (Maps.string_keyed Try.underlying9) Try.underlying83 zero_named (s := s) (WideMaps.keyOf_string_mk Try.underlying9 (by unfold Lim at hs; unfold maxLen; omega))
  obtain ⟨A1, c1, A2, c2, A3, c3, A4, c4, rfl, _⟩ := h1.forms
  exact ⟨A1, c1, A2, c2, A3, c3, A4, c4, h1, h2, h3⟩
theorem d0_ok : d0.ok := ⟨by decide, by simp [d0, T0, T.ok, T.okL, i64ok, Lim]; exact Nat.zero_le _, by simp [d0], by simp [d0]⟩
theorem lookD_ok {L : List Nd} (h : ∀ d ∈ L, d.ok) (s : ByteArray) : (lookD L s).ok := by
  unfold lookD
  cases hl : Go.Proofs.Ytanhdklaponekaa.look L s with
  | none => exact d0_ok
  | some d => exact h d (look_mem hl)
end Go.Proofs.Ytanhdklaponekaa
