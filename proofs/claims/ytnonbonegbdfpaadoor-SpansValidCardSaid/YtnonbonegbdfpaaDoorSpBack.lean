/- slices.Backward of edits: its contract as an iterator. -/
import Derived.RangeFuncNested
import Derived.RangeFuncBound
import Derived.RangeFuncCalls
import Derived.RangeFuncLeaves
import Derived.Shelf.Abstract
import Derived.Shelf.RegionOpen
import Derived.WalkKit
import Derived.OwnWalkIn
import Derived.TacticsInMore
import Derived.LoopNIn
import Derived.LoopIn
import Derived.Test.YtnonbonegbdfpaaDoorSpRow
namespace Go.Proofs.YtnonbonegbdfpaaDoor
open Go Go.RowKit Go.Shelf

attribute [local go_sem] Oper.semAt_some

/-- An iterator that hands on N things, the k-th as enc k, to a loop's body that keeps its word Kp: the body is told WHICH comes. -/
def SeqAt (F : Fence) (n : Nat) (P : Program) (g : Nat) (lb : Array Value) (enc : Nat → Array Value) (Kp : World → World → Prop) (N : Nat) (w : World) : Prop :=
  ∀ (l : Nat) (J Jx : Nat → World → Prop) (W : World), Below w.heap.size w W → AbidesFrom W.heap.size J → AbidesFrom W.heap.size Jx →
    (∀ k W1, k < N → J k W1 → YieldAt F (n - 1) P l (enc k) W1 fun e W' => (e = .returned (.bool true) ∧ J (k + 1) W' ∧ Kp W1 W') ∨ (e = .returned (.bool false) ∧ Jx k W')) →
    J 0 W → CallsIn F n P g (#[.func (.yield l) #[] #[]] ++ lb) W fun e W' => (∃ v, e = .returned v) ∧ (J N W' ∨ ∃ k, k < N ∧ Jx k W')

/-- the round's end -/
def atPost (B : Nat) (Kp : World → World → Prop) (I Ix : Nat → World → Prop) (k : Nat) (W : World) : Exit → Act → World → Prop
  | .normal, _, W' => KeepsFrom B W W' ∧ Kp W W' ∧ I (k + 1) W'
  | .ret, _, W' => KeepsFrom B W W' ∧ Ix k W'
  | _, _, _ => False

/-- A RANGE OVER A FUNCTION WHOSE BODY IS TOLD WHICH ELEMENT COMES. -/
theorem wpIn_range_at {F : Fence} {n : Nat} {P : Program} {g : Operand} {ps : Array Tmp} {assign body : Code} {Q : Exit → Act → World → Prop} {a : Act} {w : World}
    (hro : F.round = none) (h1 : 1 ≤ n) {gf : Nat} {lb : Array Value} (hg : a.eval g = .func (.func gf) #[] lb) (hFg : F.fn gf) (eg : ∀ args w, (callFunc gf args).run P w = .ok (.enter gf args) w)
    {enc : Nat → Array Value} {Kp : World → World → Prop} {N : Nat} {w0 : World} (hseq : SeqAt F (n - 1) P gf lb enc Kp N w0)
    (hKt : ∀ {A B C : World}, Kp A B → Kp B C → Kp A C) (hKb : ∀ (W : World) (l : Nat) (o o' : Obj), w.heap.size ≤ l → W.heap[l]? = some o → o.isCells = false → Kp W (W.putObj l o')) (hb0 : Below w0.heap.size w0 w) (hps : ∀ k, (enc k).size = ps.size)
    (I Ix : Nat → World → Prop) (Ax : Nat → Act → World → Prop) (hI : OwnFrom w.heap.size I) (hIx : OwnFrom w.heap.size Ix) (hAx : ∀ k a', OwnFrom w.heap.size (fun (_ : Unit) W => Ax k a' W)) (h0 : I 0 w)
    (hassign : ∀ (l k : Nat) (W : World) (K : Act → World → Prop), k < N → I k W → (∀ a' W', KeepsFrom w.heap.size W W' → Kp W W' → I k W' → Ax k a' W' → K a' W') →
      assign.wpIn (F.inRound l) (n - 1 - 1) P (Exit.then K (fun _ _ _ => False)) { tmps := (ps.zip (enc k)).foldl (fun t (p, v) => t.setIfInBounds p v) a.tmps, defers := [] } W)
    (hbody : ∀ (l k : Nat) (a' : Act) (W : World), k < N → I k W → Ax k a' W → body.wpIn (F.inRound l) (n - 1 - 1) P (atPost w.heap.size Kp I Ix k W) a' W)
    (hdone : ∀ (D : Nat) (W : World), w.heap.size ≤ D → I N W → W.heap[D]? = some (.deferred (some [])) → Q .normal { a with defers := { target := .collected D, args := #[] } :: a.defers } W)
    (hstop : ∀ (D k : Nat) (W : World), w.heap.size ≤ D → k < N → Ix k W → W.heap[D]? = some (.deferred (some [])) → Code.ret.wpIn F n P Q { a with defers := { target := .collected D, args := #[] } :: a.defers } W) :
    (Code.rangeFunc g ps assign body).wpIn F n P Q a w := by
  refine wpIn_rangeFunc fun fn hfn => ?_
  rw [hro]
  obtain ⟨rec, hrec⟩ : ∃ rec : LoopState → Option Code → Loop, rec = fun st pe => { state := st, pending := pe, fn, tmps := a.tmps, params := ps, assign, body, defers := w.heap.size } := ⟨_, rfl⟩
  obtain ⟨W1, hW1⟩ : ∃ W1, (w.alloc (.deferred (some []))).alloc (.loop (rec .ready none)) = W1 := ⟨_, rfl⟩
  have L1 : W1.heap[w.heap.size + 1]? = some (.loop (rec .ready none)) := by
    have := World.alloc_heap_new (w.alloc (.deferred (some []))) (.loop (rec .ready none))
    rw [World.size_alloc, hW1] at this; exact this
  have K1 : W1.heap[w.heap.size]? = some (.deferred (some [])) := by
    rw [← hW1]; exact (Below.heap_alloc _ _ _ (by simp)).trans (World.alloc_heap_new w _)
  have I1 : I 0 W1 := by rw [← hW1]; exact hI.alloc _ (hI.alloc _ h0)
  have B1 : Below w0.heap.size w0 W1 := by
    rw [← hW1]; exact hb0.trans ((((Below.refl _ w).alloc (Nat.le_refl _) _).alloc (by simp) _).mono hb0.size)
  have S1 : W1.heap.size = w.heap.size + 2 := by rw [← hW1]; simp
  have turn : ∀ (W : World) (r : Loop) (o' : Obj), W.heap[w.heap.size + 1]? = some (.loop r) → Kp W (W.putObj (w.heap.size + 1) o') := fun W r o' h1 =>
    hKb W _ (.loop r) o' (by omega) h1 rfl
  refine ⟨w.heap.size + 1, [{ target := .collected w.heap.size, args := #[] }], W1, { target := .fn (.func gf) lb, args := #[.func (.yield (w.heap.size + 1)) #[] #[]] }, W1, gf,
    #[.func (.yield (w.heap.size + 1)) #[] #[]] ++ lb, W1, ?_, ?_, ?_, ?_, fun _ => h1, ?_⟩
  · rw [← hW1, hrec]; exact run_enterLoop_outer _ _ _ _ _
  · simp only [resolve, hg]
    simp [go_sem]
  · intro f hf; simp [Target.leads] at hf; subst hf; exact hFg
  · simp [invoke, go_sem, eg]
  have far : ∀ {A : World} {row : Option Nat}, (∀ r, row = some r → W1.heap.size ≤ r ∧ ∃ o : Obj, A.heap[r]? = some o ∧ o.isWalk = true) → (∀ r, row = some r → w.heap.size ≤ r ∧ ∃ o : Obj, A.heap[r]? = some o ∧ o.isCells = false) :=
    fun hr r e => by
      obtain ⟨h1, o, h2, h3⟩ := hr r e
      exact ⟨by omega, o, h2, Obj.not_cells_of_walk h3⟩
  refine (hseq (w.heap.size + 1)
    (fun k W => I k W ∧ W.heap[w.heap.size + 1]? = some (.loop (rec .ready none)) ∧ W.heap[w.heap.size]? = some (.deferred (some [])))
    (fun k W => Ix k W ∧ W.heap[w.heap.size + 1]? = some (.loop (rec .done (some .ret))) ∧ W.heap[w.heap.size]? = some (.deferred (some [])))
    W1 B1 ?_ ?_ ?_ ⟨I1, L1, K1⟩).mono ?_
  · rintro s A B row ⟨a1, a2, a3⟩ hgr hr
    exact ⟨hI s A B row a1 hgr (far hr), (grownBy_keeps hgr (fun r e => (hr r e).2) a2 rfl).trans a2, (grownBy_keeps hgr (fun r e => (hr r e).2) a3 rfl).trans a3⟩
  · rintro s A B row ⟨a1, a2, a3⟩ hgr hr
    exact ⟨hIx s A B row a1 hgr (far hr), (grownBy_keeps hgr (fun r e => (hr r e).2) a2 rfl).trans a2, (grownBy_keeps hgr (fun r e => (hr r e).2) a3 rfl).trans a3⟩
  · rintro k W hk ⟨i0, l0, k0⟩
    have hy := run_yield (P := P) (args := enc k) l0 (by rw [hrec]; exact hps k)
    rw [hrec] at hy
    refine ⟨fn, _, assign, body, hy, roundIn_of_wpIn hfn (hassign _ k W _ hk i0 ?_)⟩
    intro a' Wa ka ba ia xa
    have la := ka.same _ _ (Nat.le_succ _) l0 rfl
    have da := ka.same _ _ (Nat.le_refl _) k0 rfl
    have za : w.heap.size + 1 < Wa.heap.size := (Array.getElem?_eq_some_iff.1 la).1
    refine ⟨_, run_beginRound la (by rw [hrec]), ?_⟩
    obtain ⟨Wb, hWb⟩ : ∃ Wb, Wa.putObj (w.heap.size + 1) (.loop { rec .ready none with state := .busy }) = Wb := ⟨_, rfl⟩
    have lb' : Wb.heap[w.heap.size + 1]? = some (.loop { rec .ready none with state := .busy }) := by rw [← hWb]; exact World.putObj_heap_same za
    have db : Wb.heap[w.heap.size]? = some (.deferred (some [])) := by rw [← hWb]; exact (World.putObj_heap_other (by omega)).trans da
    have bb : Kp Wa Wb := by rw [← hWb]; exact turn _ _ _ la
    have ib : I k Wb := by rw [← hWb]; exact hI.putObj _ ia (by omega) la rfl
    have xb : Ax k a' Wb := by rw [← hWb]; exact (hAx k a').putObj (s := ()) _ xa (by omega) la rfl
    rw [hWb]
    refine wpIn_mono (hbody _ k a' Wb hk ib xb) ?_
    rintro e a3 W3 hp
    have fin : ∀ jump : Option Code, KeepsFrom w.heap.size Wb W3 →
        (Instr.endRound (w.heap.size + 1) jump).run P W3 = .ok (.bool jump.isNone) (W3.putObj (w.heap.size + 1) (.loop (rec (if jump.isNone then .ready else .done) jump))) ∧
        W3.heap[w.heap.size + 1]? = some (.loop { rec .ready none with state := .busy }) ∧
        (W3.putObj (w.heap.size + 1) (.loop (rec (if jump.isNone then .ready else .done) jump))).heap[w.heap.size + 1]? = some (.loop (rec (if jump.isNone then .ready else .done) jump)) ∧
        (W3.putObj (w.heap.size + 1) (.loop (rec (if jump.isNone then .ready else .done) jump))).heap[w.heap.size]? = some (.deferred (some [])) := fun jump k3 => by
      have l3 := k3.same _ _ (Nat.le_succ _) lb' rfl
      have h3 := run_endRound (P := P) jump l3
      have l3' := l3
      rw [hrec] at h3 l3' ⊢
      exact ⟨h3, l3', World.putObj_heap_same (Array.getElem?_eq_some_iff.1 l3).1, (World.putObj_heap_other (by omega)).trans (k3.same _ _ (Nat.le_refl _) db rfl)⟩
    cases e with
    | normal =>
      obtain ⟨k3, b3, i3⟩ := hp
      obtain ⟨r1, r2, r3, r4⟩ := fin none k3
      exact ⟨_, _, r1, .inl ⟨rfl, ⟨hI.putObj _ i3 (by omega) r2 rfl, r3, r4⟩, hKt ba (hKt bb (hKt b3 (turn _ _ _ r2)))⟩⟩
    | ret =>
      obtain ⟨k3, i3⟩ := hp
      obtain ⟨r1, r2, r3, r4⟩ := fin (some .ret) k3
      exact ⟨_, _, r1, .inr ⟨rfl, hIx.putObj _ i3 (by omega) r2 rfl, r3, r4⟩⟩
    | exit id => exact hp.elim
    | goto t => exact hp.elim
    | panic ch => exact hp.elim
    | outgrown => exact hp.elim
  · rintro e W2 ⟨⟨v, rfl⟩, (⟨i2, l2, k2⟩ | ⟨k, hk, i2, l2, k2⟩)⟩
    · have h2 := run_endLoop (P := P) l2 (by rw [hrec]; simp)
      rw [hrec] at h2
      exact ⟨none, _, h2, hdone _ _ (Nat.le_refl _) (hI.putObj _ i2 (by omega) l2 rfl) ((World.putObj_heap_other (by omega)).trans k2)⟩
    · have h2 := run_endLoop (P := P) l2 (by rw [hrec]; simp)
      rw [hrec] at h2
      exact ⟨some .ret, _, h2, hstop _ k _ (Nat.le_refl _) hk (hIx.putObj _ i2 (by omega) l2 rfl) ((World.putObj_heap_other (by omega)).trans k2)⟩


def bdE : Ed := ⟨ByteArray.empty, 0, 0, ByteArray.empty⟩
/-- what comes in round k: the k-th from the end -/
def backE (zs : List Ed) (k : Nat) : Ed := (zs[zs.length - 1 - k]?).getD bdE
def encE (zs : List Ed) (k : Nat) : Array Value := #[.int .i64 ((zs.length - 1 - k : Nat) : Int), .agg #[.string (backE zs k).p, .int .i64 (backE zs k).fr, .int .i64 (backE zs k).to, .string (backE zs k).tx]]
theorem backE_at {zs : List Ed} {k : Nat} (h : zs.length - 1 - k < zs.length) : backE zs k = zs[zs.length - 1 - k] := by
  unfold backE; rw [List.getElem?_eq_getElem h]; rfl

set_option maxRecDepth 100000 in
set_option maxHeartbeats 2000000 in
theorem back1_in (F : Fence) (n : Nat) (h8 : F.fn 42) (hro : F.round = none) (hn : 1 ≤ n) (l Bs b cap : Nat) (S : Nat → Prop) (zs : List Ed) (hreach : zs.length * 48 ≤ 140737488355328) (hb : S b) (J Jx : Nat → World → Prop)
    (hY : ∀ k W, k < zs.length → J k W → YieldAt F (n - 1) Tryd.prog l (encE zs k) W fun e W' =>
      (e = .returned (.bool true) ∧ J (k + 1) W' ∧ SameOn S W W') ∨ (e = .returned (.bool false) ∧ Jx k W'))
    (W : World) (hBs : W.cell? ⟨Bs, 0, none⟩ = some (.slice (some ⟨b, 0, none⟩) zs.length cap)) (hBn : S Bs)
    (hc : ∀ j (h : j < zs.length), W.cell? ⟨b, j * 4, none⟩ = some (.string zs[j].p) ∧ W.cell? ⟨b, j * 4 + 1, none⟩ = some (.int .i64 zs[j].fr) ∧ W.cell? ⟨b, j * 4 + 2, none⟩ = some (.int .i64 zs[j].to) ∧ W.cell? ⟨b, j * 4 + 3, none⟩ = some (.string zs[j].tx)) (h0 : J 0 W) :
    CallsIn F n Tryd.prog 42 #[.func (.yield l) #[] #[], .pointer (some ⟨Bs, 0, none⟩)] W fun e W' => (∃ v, e = .returned v) ∧
      (J zs.length W' ∨ ∃ k, k < zs.length ∧ Jx k W') := by
  refine callsIn_of_wp Tryd.func42 rfl h8 ?_ hro
  simp only [Tryd.ntmps42, List.size_toArray, List.length_cons, List.length_nil, Nat.reduceAdd, Nat.reduceSub, Array.replicate_succ, Array.replicate_zero, List.push_toArray, List.append_toArray, List.nil_append, List.cons_append]
  have hlz : (zs.length : Int) ≤ 9223372036854775807 := by omega
  gi_wp2
  gi_loopw [3] (fun i wr => ∃ (k : Nat) (i0 : Int), k ≤ zs.length ∧ i = .int .i64 i0 ∧ i0 + 1 + k = zs.length ∧ J k wr ∧ SameOn S W wr)
    (fun i _ => (intOf i + 1).toNat)
  case atStart => exact ⟨0, _, Nat.zero_le _, rfl, by omega, h0, SameOn.refl _ _⟩
  case round =>
    obtain ⟨k, i0, hk, rfl, hi, hJs, hnx⟩ := hrel
    have hBw : wr.cell? ⟨Bs, 0, none⟩ = some (.slice (some ⟨b, 0, none⟩) zs.length cap) := (hnx.cell hBn 0).trans hBs
    by_cases hlt : k < zs.length
    · obtain ⟨m, rfl⟩ : ∃ m : Nat, i0 = m := ⟨i0.toNat, by omega⟩
      have hm : m < zs.length := by omega
      obtain ⟨a0, a1, a2, a3⟩ := hc m hm
      have c0 := (hnx.cell hb (m * 4)).trans a0
      have c1 := (hnx.cell hb (m * 4 + 1)).trans a1
      have c2 := (hnx.cell hb (m * 4 + 2)).trans a2
      have c3 := (hnx.cell hb (m * 4 + 3)).trans a3
      obtain ⟨fn, tmps, assign, body, hy, hR⟩ := hY k wr hlt hJs
      have hmk : zs.length - 1 - k = m := by omega
      have hbk : backE zs k = zs[m] := by unfold backE; rw [hmk, List.getElem?_eq_getElem hm]; rfl
      simp only [encE, hbk, hmk] at hy
      clear hmk hbk
      have hml : (m : Int) < (zs.length : Int) := by omega
      have hm0 : (0 : Int) ≤ (m : Int) := by omega
      clear a0 a1 a2 a3
      gi_wp2
      refine hR.mono ?_
      rintro e W3 (⟨rfl, hJ3, hk3⟩ | ⟨rfl, hJx3⟩)
      · gi_wp2
        go_roundw
        case rel => exact ⟨k + 1, _, by omega, rfl, by omega, hJ3, hnx.trans hk3⟩
        case measure => simp [intOf]
      · gi_wp2
        refine bodyPost_ret (results_none rfl _ _ _) rfl ?_
        exact ⟨⟨_, rfl⟩, .inr ⟨k, hlt, hJx3⟩⟩
    · obtain rfl : k = zs.length := by omega
      obtain rfl : i0 = -1 := by omega
      gi_wp2
      go_end0
      exact ⟨⟨_, rfl⟩, .inl hJs⟩

set_option maxRecDepth 100000 in
set_option maxHeartbeats 1000000 in
/-- .. at the nil slice: no round. -/
theorem back1_nil_in (F : Fence) (n : Nat) (h8 : F.fn 42) (hro : F.round = none) (l Bs cap : Nat) (A : Option Addr) (J : Nat → World → Prop) (W : World) (hBs : W.cell? ⟨Bs, 0, none⟩ = some (.slice A 0 cap)) (h0 : J 0 W) :
    CallsIn F n Tryd.prog 42 #[.func (.yield l) #[] #[], .pointer (some ⟨Bs, 0, none⟩)] W fun e W' => (∃ v, e = .returned v) ∧ J 0 W' := by
  refine callsIn_of_wp Tryd.func42 rfl h8 ?_ hro
  simp only [Tryd.ntmps42, List.size_toArray, List.length_cons, List.length_nil, Nat.reduceAdd, Nat.reduceSub, Array.replicate_succ, Array.replicate_zero, List.push_toArray, List.append_toArray, List.nil_append, List.cons_append]
  gi_wp2
  gi_loopw [3] (fun i wr => i = .int .i64 (-1) ∧ J 0 wr) (fun _ _ => 0)
  case atStart => exact ⟨rfl, h0⟩
  case round =>
    obtain ⟨rfl, hJs⟩ := hrel
    gi_wp2
    go_end0
    exact ⟨⟨_, rfl⟩, hJs⟩

set_option maxHeartbeats 1000000 in
/-- slices.Backward(s): the slice value is boxed. -/
theorem back_in (F : Fence) (n : Nat) (h5 : F.fn 27) (hro : F.round = none) (a : Option Addr) (len cap : Nat) (w : World) :
    CallsIn F n Tryd.prog 27 #[.slice a len cap] w fun e w' => e = .returned (.func (.func 42) #[] #[.pointer (some ⟨w.heap.size, 0, none⟩)]) ∧ w' = w.alloc (.cells #[.slice a len cap] 43) := by
  refine callsIn_of_wp Tryd.func27 rfl h5 ?_ hro
  simp only [Tryd.ntmps27, List.size_toArray, List.length_cons, List.length_nil, Nat.reduceAdd, Nat.reduceSub, Array.replicate_succ, Array.replicate_zero, List.push_toArray, List.append_toArray, List.nil_append, List.cons_append]
  gi_wp2
  go_ret
  exact ⟨rfl, rfl⟩

/-- slices.Backward(s) hands on zs, from its end. -/
theorem back_at (F : Fence) (n : Nat) (h8 : F.fn 42) (hro : F.round = none) (hn : 1 ≤ n) (Bs len cap : Nat) (A : Option Addr) (S : Nat → Prop) (zs : List Ed) (hreach : zs.length * 48 ≤ 140737488355328) (w : World) (hBs : S Bs) (hS : Old S w)
    (hc : w.cell? ⟨Bs, 0, none⟩ = some (.slice A len cap)) {base : Nat} (ho : w.ownsRow base 42 4 (.slice A len cap) zs.length (flat zs)) (hgn : ∀ g, (Value.slice A len cap).ownBlock = some g → S g) :
    SeqAt F n Tryd.prog 42 #[.pointer (some ⟨Bs, 0, none⟩)] (encE zs) (SameOn S) zs.length w := fun l J Jx W hW _ _ hY h0 => by
  have hc' := (hW.cell (p := ⟨Bs, 0, none⟩) (hS Bs hBs)).trans hc
  rcases Nat.eq_zero_or_pos zs.length with hz | hz
  · rw [hz] at ho ⊢
    obtain ⟨A', c', e⟩ := own_form ho
    cases e
    exact (back1_nil_in F n h8 hro l Bs cap A J W hc' h0).mono fun e W' ⟨he, hj⟩ => ⟨he, .inl hj⟩
  · obtain ⟨g, _, hv, -⟩ := ho.form hz
    cases hv
    have hg : S g := hgn g rfl
    refine back1_in F n h8 hro hn l Bs g cap S zs hreach hg J Jx hY W hc' hBs (fun j hj => ?_) h0
    obtain ⟨a0, a1, a2, a3⟩ := own_at4 ho hj rfl
    exact ⟨(hW.cell (p := ⟨g, _, none⟩) (hS g hg)).trans a0, (hW.cell (p := ⟨g, _, none⟩) (hS g hg)).trans a1, (hW.cell (p := ⟨g, _, none⟩) (hS g hg)).trans a2, (hW.cell (p := ⟨g, _, none⟩) (hS g hg)).trans a3⟩
end Go.Proofs.YtnonbonegbdfpaaDoor
