/- methods.rows, whatever is done with each row. -/
import Derived.Test.YtanhdklaponekaaMtC
namespace Go.Proofs.Ytanhdklaponekaa
open Go Go.RowKit

/-- the names that were met: a map of them to 1 -/
def MetR (w : World) (mb : Nat) (met : List ByteArray) : Prop :=
  ∃ D : DataW Unit, w.ownsMap Try.prog 9 (plainElem Try.prog 3) mb met.length D ∧ ∀ s : ByteArray, D.atKey (keyS s) (.lit (.int .i64 0)) = .lit (.int .i64 (if inM met s = true then 1 else 0)) ∧ Maps.has D (keyS s) = inM met s
theorem MetR.same {w w' : World} {mb : Nat} {met : List ByteArray} (h : MetR w mb met) (e : w'.heap[mb]? = w.heap[mb]?) : MetR w' mb met := by
  obtain ⟨D, h1, h2⟩ := h
  exact ⟨D, ownsMap_same h1 e, h2⟩
theorem MetR.lt {w : World} {mb : Nat} {met : List ByteArray} (h : MetR w mb met) : mb < w.heap.size := by obtain ⟨D, h1, _⟩ := h; exact h1.lt
theorem MetR.look {w : World} {mb : Nat} {met : List ByteArray} (h : MetR w mb met) {s : ByteArray} (hs : s.size ≤ Lim) (hz : (zeroValue 3).run Try.prog w = .ok (.int .i64 0) w) :
    (Instr.lookup 101 (.map (some mb)) (.string s) false).run Try.prog w = .ok (.int .i64 (if inM met s = true then 1 else 0)) w := by
  obtain ⟨D, h1, h2⟩ := h
  obtain ⟨c, hrun, hat, -⟩ := h1.lookup_int (Maps.string_keyed Try.underlying9) Try.underlying101 Try.underlying3 hz (WideMaps.keyOf_string_mk (s := s) Try.underlying9 (by unfold Lim at hs; unfold maxLen; omega))
  have h3 := (h2 s).1
  rw [show keyS s = .string s.data.toList from rfl, hat] at h3
  simp only [DataW.lit.injEq, Lit.int.injEq, true_and] at h3
  rw [h3] at hrun
  exact hrun
theorem inM_cons (met : List ByteArray) (a s : ByteArray) : inM (a :: met) s = (decide (a = s) || inM met s) := rfl

/-- how far the numbers go -/
def Bd (L : List Nd) (U : T → T) (ps : List (T × List Int)) (met : List ByteArray) : Prop :=
  ∀ j, j ≤ ps.length → (rowAt L U ps met j).row.length ≤ 1000000000 ∧ (rowAt L U ps met j).nx.length ≤ 1000000000 ∧ (rowAt L U ps met j).met.length ≤ 1000000000 ∧
    (j < ps.length → (lookD L (pAt ps j).1.nm).ms.length ≤ 1000000000 ∧ (stU U (pAt ps j).1).ks.length ≤ 1000000000 ∧ (pAt ps j).2.length ≤ 1000000000)
section
variable (L : List Nd) (U : T → T) {σ : Type} (step : σ → List (ByteArray × Fd) → σ) (cont : σ → List (ByteArray × Fd) → Bool) (Cont : σ → Prop)
/-- what comes of the rows -/
def RunR : Nat → σ → List (T × List Int) → List ByteArray → σ → Prop
  | 0, _, _, _, _ => False
  | n + 1, s, ps, met, r => (ps = [] ∧ r = s) ∨ (ps ≠ [] ∧ Bd L U ps met ∧
      ((cont s (rowAt L U ps met ps.length).row = false ∧ r = step s (rowAt L U ps met ps.length).row) ∨
       (cont s (rowAt L U ps met ps.length).row = true ∧ Cont (step s (rowAt L U ps met ps.length).row) ∧ RunR n (step s (rowAt L U ps met ps.length).row) (rowAt L U ps met ps.length).nx (rowAt L U ps met ps.length).met r)))
end

/-- the blocks of the data in the inner loop -/
def Sy (mb : Nat) (Z : Nat → Prop) (rb : Nat) (w : World) (v s9 : Value) : Nat → Prop := fun b => b < w.heap.size ∧ b ≠ mb ∧ ¬ Z b ∧ b ≠ rb ∧ v.ownBlock ≠ some b ∧ s9.ownBlock ≠ some b
/-- what lies where in the inner loop; w0: the world ahead of it -/
structure InL (mb : Nat) (Z : Nat → Prop) (w0 wr : World) (met : List ByteArray) (v : Value) (xs : List Value) (l : List (ByteArray × Fd)) (s9 : Value) (xn : List Value) (nx : List (T × List Int)) : Prop where
  row : RowV wr (Sy mb Z w0.heap.size wr v s9) w0.heap.size w0.heap.size v l xs
  own : wr.ownsRow w0.heap.size 107 8 s9 nx.length xn
  nxd : AllR (PlR wr (Sy mb Z w0.heap.size wr v s9)) nx xn
  met : MetR wr mb met
  but : But (fun b => b = mb) w0 wr
section
variable {mb : Nat} {Z : Nat → Prop} {w0 wr : World} {met : List ByteArray} {v : Value} {xs : List Value} {l : List (ByteArray × Fd)} {s9 : Value} {xn : List Value} {nx : List (T × List Int)}
theorem InL.below {w2 : World} (h : InL mb Z w0 wr met v xs l s9 xn nx) (hb : Below wr.heap.size wr w2) : InL mb Z w0 w2 met v xs l s9 xn nx := by
  have hz := hb.size
  have hsub : ∀ b, Sy mb Z w0.heap.size wr v s9 b → Sy mb Z w0.heap.size w2 v s9 b := fun b hb' => ⟨by have := hb'.1; omega, hb'.2⟩
  have hsm : SameOn (Sy mb Z w0.heap.size wr v s9) wr w2 := SameOn.of_below hb fun b hb' => hb'.1
  exact ⟨h.row.grow (X := fun _ => False) (But.of_below hb) (fun _ _ h => h.elim) hsub (fun b hb' => ⟨hb'.1, hb'.2.2.2.1, hb'.2.2.2.2.1⟩), own_below h.own hb, h.nxd.imp fun _ _ k => k.keep hsm hsub,
    h.met.same (hb.block mb h.met.lt), h.but.trans (Y := fun _ => False) (But.of_below hb) (fun _ _ h => h.elim)⟩
/-- the map is written -/
theorem InL.put {w2 : World} {met' : List ByteArray} (h : InL mb Z w0 wr met v xs l s9 xn nx) (hg : wr.grownBy w2 (some mb)) (hm : MetR w2 mb met') (hmb : mb < w0.heap.size) : InL mb Z w0 w2 met' v xs l s9 xn nx := by
  have hb : But (fun b => b = mb) wr w2 := But.of_grown hg fun b hb => by simpa using hb.symm
  have hz := hb.size
  have hsub : ∀ b, Sy mb Z w0.heap.size wr v s9 b → Sy mb Z w0.heap.size w2 v s9 b := fun b hb' => ⟨by have := hb'.1; omega, hb'.2⟩
  have hsm : SameOn (Sy mb Z w0.heap.size wr v s9) wr w2 := hb.sameOn fun b hb' => ⟨hb'.1, hb'.2.1⟩
  refine ⟨h.row.grow hb (fun b _ e => ⟨fun hb' => hb'.2.1 e, by omega, fun e2 => by have := (h.row.own.lt b e2).1; omega⟩) hsub (fun b hb' => ⟨hb'.1, hb'.2.2.2.1, hb'.2.2.2.2.1⟩),
    own_same h.own fun b e => hb.block b (h.own.lt b e).2 (fun e2 => by have := (h.own.lt b e).1; omega), h.nxd.imp fun _ _ k => k.keep hsm hsub, hm, h.but.trans hb (fun _ _ h => h)⟩
/-- stands has told into the row -/
theorem InL.stood {w2 : World} {v2 vn : Value} {xs2 xn2 : List Value} {l2 : List (ByteArray × Fd)} {nx2 : List (T × List Int)} (h : InL mb Z w0 wr met v xs l s9 xn nx)
    (h2 : RowV w2 (Sx (Sy mb Z w0.heap.size wr v s9) wr w2 v2 vn) w0.heap.size w0.heap.size v2 l2 xs2) (hnd : AllR (PlR w2 (Sx (Sy mb Z w0.heap.size wr v s9) wr w2 v2 vn)) nx2 xn2)
    (hb : But (fun b => b = w0.heap.size ∨ v.ownBlock = some b) wr w2) (ho : Own2 v v2 wr.heap.size) (hmb : mb < w0.heap.size) (hZ : ∀ b, Z b → b < w0.heap.size)
    {w3 : World} {s9' : Value} (hown : w3.ownsRow w0.heap.size 107 8 s9' (nx.length + nx2.length) (xn ++ xn2)) (hg : w2.grownBy w3 s9.ownBlock) (hat : s9'.ownBlock = s9.ownBlock ∨ s9'.ownBlock = some w2.heap.size) :
    InL mb Z w0 w3 met v2 xs2 l2 s9' (xn ++ xn2) (nx ++ nx2) := by
  have hz := hb.size
  have hz0 := h.but.size
  have hb3 : But (fun b => s9.ownBlock = some b) w2 w3 := But.of_grown hg fun b hb => hb
  have hz3 := hb3.size
  have hs9l : ∀ b, s9.ownBlock = some b → w0.heap.size ≤ b ∧ b < wr.heap.size := fun b e => h.own.lt b e
  have hs9v : ∀ b, s9.ownBlock = some b → v2.ownBlock ≠ some b := fun b e e2 => by
    rcases ho with e3 | ⟨g, e3, hg3⟩
    · rw [e3] at e2; exact own_ne h.row.own h.own (by decide) b e2 e
    · rw [e3] at e2; simp at e2; have := (hs9l b e).2; omega
  have hfree : ∀ b, Sx (Sy mb Z w0.heap.size wr v s9) wr w2 v2 vn b → b < w2.heap.size ∧ s9.ownBlock ≠ some b := fun b hb' => by
    refine ⟨(h2.far b hb').1, fun e => ?_⟩
    rcases hb' with h1 | ⟨h1, _⟩
    · exact h1.2.2.2.2.2 e
    · have := (hs9l b e).2; omega
  have hsm : SameOn (Sx (Sy mb Z w0.heap.size wr v s9) wr w2 v2 vn) w2 w3 := hb3.sameOn fun b hb' => ⟨(hfree b hb').1, (hfree b hb').2⟩
  have hrb := h.row.var.lt
  have hsub : ∀ b, Sx (Sy mb Z w0.heap.size wr v s9) wr w2 v2 vn b → Sy mb Z w0.heap.size w3 v2 s9' b := fun b hb' => by
    have hf := h2.far b hb'
    refine ⟨by omega, ?_, ?_, hf.2.1, hf.2.2, ?_⟩
    · rcases hb' with h1 | ⟨h1, _⟩
      · exact h1.2.1
      · omega
    · rcases hb' with h1 | ⟨h1, _⟩
      · exact h1.2.2.1
      · exact fun hz' => by have := hZ b hz'; omega
    · rcases hat with e | e
      · rw [e]; exact (hfree b hb').2
      · rw [e]; intro e2; simp at e2; omega
  -- what was in 'next' already
  have hsub0 : ∀ b, Sy mb Z w0.heap.size wr v s9 b → Sx (Sy mb Z w0.heap.size wr v s9) wr w2 v2 vn b := fun b hb' => .inl hb'
  have hsm0 : SameOn (Sy mb Z w0.heap.size wr v s9) wr w2 := hb.sameOn fun b hb' => ⟨hb'.1, fun e => e.elim hb'.2.2.2.1 hb'.2.2.2.2.1⟩
  refine ⟨h2.grow hb3 (fun b hbl e => ⟨fun hb' => (hfree b hb').2 e, ?_, fun e2 => hs9v b e e2⟩) hsub (fun b hb' => ⟨hb'.1, hb'.2.2.2.1, hb'.2.2.2.2.1⟩), by rw [List.length_append]; exact hown,
    (h.nxd.imp fun _ _ k => (k.keep hsm0 hsub0).keep hsm hsub).append (hnd.imp fun _ _ k => k.keep hsm hsub), ?_, ?_⟩
  · intro e2
    exact own_blk h.own h.row.var (by decide) (e2 ▸ e)
  · refine (h.met.same (hb.block mb h.met.lt ?_)).same (hb3.block mb (by have := h.met.lt; omega) (fun e => by have := (hs9l mb e).1; omega))
    intro e
    rcases e with e | e
    · omega
    · have := (h.row.own.lt mb e).1; omega
  · refine (h.but.trans hb fun i hi e => ?_).trans hb3 fun i hi e => ?_
    · rcases e with e | e
      · omega
      · have := (h.row.own.lt i e).1; omega
    · have := (hs9l i e).1; omega
end
end Go.Proofs.Ytanhdklaponekaa
