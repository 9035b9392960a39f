/- types.table.Named: a declared type in memory of its own. -/
import Derived.Test.YtanhdklaponekaaWd
import Derived.Test.YtanhdklaponekaaCloneM
import Derived.Test.YtanhdklaponekaaMakeO
namespace Go.Proofs.Ytanhdklaponekaa
open Go Go.RowKit

theorem own_put {w : World} {base : Nat} {e : TypeId} {size g n cap i : Nat} {ys rest : List Value} {c : Value} (d : Value)
    (h : w.ownsRow base e size (.slice (some ⟨g, 0, none⟩) n cap) n (ys ++ c :: rest)) (hy : ys.length = i) :
    (w.setCell ⟨g, i, none⟩ d).ownsRow base e size (.slice (some ⟨g, 0, none⟩) n cap) n ((ys ++ [d]) ++ rest) := by
  have h0 := (h.stored i d).1
  rw [set_mid _ _ _ _ _ hy] at h0
  exact h0
/-- the cells of a method in an owned row -/
theorem own_cells9 {w : World} {base : Nat} {e : TypeId} {g n cap j : Nat} {ys rest : List Value} {a0 a1 c0 c1 c2 c3 c4 c5 c6 : Value}
    (h : w.ownsRow base e 9 (.slice (some ⟨g, 0, none⟩) n cap) n (ys ++ a0 :: a1 :: c0 :: c1 :: c2 :: c3 :: c4 :: c5 :: c6 :: rest)) (hy : ys.length = j * 9) :
    w.cell? ⟨g, j * 9, none⟩ = some a0 ∧ w.cell? ⟨g, j * 9 + 1, none⟩ = some a1 ∧
    w.cell? ⟨g, j * 9 + 2, none⟩ = some c0 ∧ w.cell? ⟨g, j * 9 + 3, none⟩ = some c1 ∧ w.cell? ⟨g, j * 9 + 4, none⟩ = some c2 ∧ w.cell? ⟨g, j * 9 + 5, none⟩ = some c3 ∧
    w.cell? ⟨g, j * 9 + 6, none⟩ = some c4 ∧ w.cell? ⟨g, j * 9 + 7, none⟩ = some c5 ∧ w.cell? ⟨g, j * 9 + 8, none⟩ = some c6 ∧ (∀ i, w.frozen? ⟨g, i, none⟩ = false) := by
  have hl := h.1
  simp only [List.length_append, List.length_cons] at hl
  have hx : ∀ i (u : Value), i < 9 → [a0, a1, c0, c1, c2, c3, c4, c5, c6][i]? = some u → w.cell? ⟨g, j * 9 + i, none⟩ = some u := by
    intro i u hi hu
    rw [h.cellAt (j * 9 + i) (by omega), List.getElem?_append_right (by omega), hy, Nat.add_sub_cancel_left]
    rw [show a0 :: a1 :: c0 :: c1 :: c2 :: c3 :: c4 :: c5 :: c6 :: rest = [a0, a1, c0, c1, c2, c3, c4, c5, c6] ++ rest from rfl, List.getElem?_append_left (by simpa using hi)]
    exact hu
  exact ⟨hx 0 _ (by omega) rfl, hx 1 _ (by omega) rfl, hx 2 _ (by omega) rfl, hx 3 _ (by omega) rfl, hx 4 _ (by omega) rfl, hx 5 _ (by omega) rfl, hx 6 _ (by omega) rfl, hx 7 _ (by omega) rfl, hx 8 _ (by omega) rfl, h.frozenAt⟩
/-- a method's signature stored into an owned row -/
theorem own_set9 {w : World} {base : Nat} {e : TypeId} {g n cap j : Nat} {ys rest : List Value} {a0 a1 c0 c1 c2 c3 c4 c5 c6 : Value} (d0 d1 d2 d3 d4 d5 d6 : Value)
    (h : w.ownsRow base e 9 (.slice (some ⟨g, 0, none⟩) n cap) n (ys ++ a0 :: a1 :: c0 :: c1 :: c2 :: c3 :: c4 :: c5 :: c6 :: rest)) (hy : ys.length = j * 9) :
    (((((((w.setCell ⟨g, j * 9 + 2, none⟩ d0).setCell ⟨g, j * 9 + 3, none⟩ d1).setCell ⟨g, j * 9 + 4, none⟩ d2).setCell ⟨g, j * 9 + 5, none⟩ d3).setCell ⟨g, j * 9 + 6, none⟩ d4).setCell ⟨g, j * 9 + 7, none⟩ d5).setCell ⟨g, j * 9 + 8, none⟩ d6).ownsRow
      base e 9 (.slice (some ⟨g, 0, none⟩) n cap) n ((ys ++ [a0, a1, d0, d1, d2, d3, d4, d5, d6]) ++ rest) := by
  rw [show ys ++ a0 :: a1 :: c0 :: c1 :: c2 :: c3 :: c4 :: c5 :: c6 :: rest = (ys ++ [a0, a1]) ++ c0 :: c1 :: c2 :: c3 :: c4 :: c5 :: c6 :: rest by simp] at h
  have h0 := own_put d0 h (i := j * 9 + 2) (by simp [hy])
  have h1 := own_put d1 h0 (i := j * 9 + 3) (by simp [hy])
  have h2 := own_put d2 h1 (i := j * 9 + 4) (by simp [hy])
  have h3 := own_put d3 h2 (i := j * 9 + 5) (by simp [hy])
  have h4 := own_put d4 h3 (i := j * 9 + 6) (by simp [hy])
  have h5 := own_put d5 h4 (i := j * 9 + 7) (by simp [hy])
  have h6 := own_put d6 h5 (i := j * 9 + 8) (by simp [hy])
  simpa using h6

theorem MeR.split {w : World} {S : Nat → Prop} {ms : List Me} {xs : List Value} (h : AllR (MeR w S) ms xs) {j : Nat} (hj : j < ms.length) : ∃ A1 c1 A2 c2 A3 c3,
    xs.drop (j * 9) = .string ms[j].nm :: .bool ms[j].p :: .int .i64 ms[j].sig.kd :: .string ms[j].sig.nm :: .int .i64 ms[j].sig.n :: .bool ms[j].sig.fl :: .slice A1 ms[j].sig.ns.length c1 :: .slice A2 ms[j].sig.ms.length c2 :: .slice A3 ms[j].sig.ks.length c3 :: xs.drop ((j + 1) * 9) ∧
    TyR w S ms[j].sig [.int .i64 ms[j].sig.kd, .string ms[j].sig.nm, .int .i64 ms[j].sig.n, .bool ms[j].sig.fl, .slice A1 ms[j].sig.ns.length c1, .slice A2 ms[j].sig.ms.length c2, .slice A3 ms[j].sig.ks.length c3] := by
  have h1 := h.at_ (k := 9) (fun _ _ h => h.len) j hj
  obtain ⟨A1, c1, A2, c2, A3, c3, e, h2⟩ := h1.forms
  refine ⟨A1, c1, A2, c2, A3, c3, ?_, h2⟩
  rw [← List.take_append_drop 9 (xs.drop (j * 9)), e, List.drop_drop, show j * 9 + 9 = (j + 1) * 9 by omega]
  rfl
theorem meR_one {w : World} {S : Nat → Prop} : ∀ {ms : List Me} {xs : List Value}, AllR (MeR w S) ms xs → ∀ u ∈ xs, u.oneCell' = true
  | [], cs, h => by simp only [AllR] at h; subst h; simp
  | t :: ts, cs, h => by
    obtain ⟨c1, c2, rfl, a, b⟩ := h
    obtain ⟨A1, c1, A2, c2, A3, c3, rfl, _⟩ := a.forms
    intro u hu
    rcases List.mem_append.1 hu with hu | hu
    · simp only [List.mem_cons, List.not_mem_nil, or_false] at hu
      rcases hu with rfl | rfl | rfl | rfl | rfl | rfl | rfl | rfl | rfl <;> rfl
    · exact meR_one b u hu

theorem Blk.cells9 {w : World} {g : Nat} {t : TypeId} {c0 c1 c2 c3 c4 c5 c6 c7 c8 : Value} (h : Blk w g t #[c0, c1, c2, c3, c4, c5, c6, c7, c8]) :
    w.cell? ⟨g, 0, none⟩ = some c0 ∧ w.cell? ⟨g, 1, none⟩ = some c1 ∧ w.cell? ⟨g, 2, none⟩ = some c2 ∧ w.cell? ⟨g, 3, none⟩ = some c3 ∧ w.cell? ⟨g, 4, none⟩ = some c4 ∧
    w.cell? ⟨g, 5, none⟩ = some c5 ∧ w.cell? ⟨g, 6, none⟩ = some c6 ∧ w.cell? ⟨g, 7, none⟩ = some c7 ∧ w.cell? ⟨g, 8, none⟩ = some c8 ∧ (∀ i, w.frozen? ⟨g, i, none⟩ = false) :=
  ⟨h.cell 0, h.cell 1, h.cell 2, h.cell 3, h.cell 4, h.cell 5, h.cell 6, h.cell 7, h.cell 8, h.frozen⟩

/-- what lies where in the loop: block B the result, B + 1 the declared type -/
structure NmL (ms : List Me) (xs : List Value) (B : Nat) (w wc : World) (c0 c1 c2 c3 c4 c5 c6 c7 : Value) (A4 : Option Addr) (k4 : Nat) (wr : World) (j : Nat) (ys : List Value) : Prop where
  below : Below B w wr
  size : wc.heap.size ≤ wr.heap.size
  r : Blk wr B 43 zero9.toArray
  t : Blk wr (B + 1) 43 #[c0, c1, c2, c3, c4, c5, c6, c7, .slice A4 ms.length k4]
  own : wr.ownsRow wc.heap.size 89 9 (.slice A4 ms.length k4) ms.length (ys ++ xs.drop (j * 9))
  ylen : ys.length = j * 9
  new : AllR (MeR wr (fun b => (wc.heap.size ≤ b ∧ b < wr.heap.size) ∧ (Value.slice A4 ms.length k4).ownBlock ≠ some b)) (ms.take j) ys
  same : SameOn (fun b => B + 2 ≤ b ∧ b < wc.heap.size) wc wr

theorem nmL_step {ms : List Me} {xs : List Value} {B : Nat} {w wc : World} {c0 c1 c2 c3 c4 c5 c6 c7 : Value} {g k4 : Nat} {wr w2 : World} {j : Nat} {ys : List Value}
    {a0 a1 x0 x1 x2 x3 x4 x5 x6 e0 e1 e2 e3 e4 e5 e6 : Value} (hc : B + 2 ≤ wc.heap.size) (hj : j < ms.length)
    (h : NmL ms xs B w wc c0 c1 c2 c3 c4 c5 c6 c7 (some ⟨g, 0, none⟩) k4 wr j ys) (hd : xs.drop (j * 9) = a0 :: a1 :: x0 :: x1 :: x2 :: x3 :: x4 :: x5 :: x6 :: xs.drop ((j + 1) * 9))
    (ha0 : a0 = .string ms[j].nm) (ha1 : a1 = .bool ms[j].p)
    (hb : Below wr.heap.size wr w2) (ht : TyR w2 (New wr w2) ms[j].sig [e0, e1, e2, e3, e4, e5, e6]) :
    NmL ms xs B w wc c0 c1 c2 c3 c4 c5 c6 c7 (some ⟨g, 0, none⟩) k4
      (((((((w2.setCell ⟨g, j * 9 + 2, none⟩ e0).setCell ⟨g, j * 9 + 3, none⟩ e1).setCell ⟨g, j * 9 + 4, none⟩ e2).setCell ⟨g, j * 9 + 5, none⟩ e3).setCell ⟨g, j * 9 + 6, none⟩ e4).setCell ⟨g, j * 9 + 7, none⟩ e5).setCell ⟨g, j * 9 + 8, none⟩ e6)
      (j + 1) (ys ++ [a0, a1, e0, e1, e2, e3, e4, e5, e6]) := by
  have hz := hb.size
  have hzr := h.size
  have hg := h.own.lt g rfl
  have ho2 := own_below h.own hb
  rw [hd] at ho2
  have hset := own_set9 e0 e1 e2 e3 e4 e5 e6 ho2 h.ylen
  have hS : ∀ (S : Nat → Prop), ¬ S g → SameOn S w2 (((((((w2.setCell ⟨g, j * 9 + 2, none⟩ e0).setCell ⟨g, j * 9 + 3, none⟩ e1).setCell ⟨g, j * 9 + 4, none⟩ e2).setCell ⟨g, j * 9 + 5, none⟩ e3).setCell ⟨g, j * 9 + 6, none⟩ e4).setCell ⟨g, j * 9 + 7, none⟩ e5).setCell ⟨g, j * 9 + 8, none⟩ e6) := by
    intro S hn
    repeat (refine SameOn.set_ ?_ hn _)
    exact SameOn.refl _ _
  refine ⟨?_, by simp; omega, ?_, ?_, hset, by simp [h.ylen]; omega, ?_, ?_⟩
  · have h1 : Below B w w2 := h.below.trans (hb.mono (by have := h.t.lt; omega))
    repeat (refine Below.setCell ?_ (by simp; omega) _)
    exact h1
  · have h1 := h.r.below hb h.r.lt
    repeat (refine Blk.far ?_ (by simp; omega) _)
    exact h1
  · have h1 := h.t.below hb h.t.lt
    repeat (refine Blk.far ?_ (by simp; omega) _)
    exact h1
  · rw [List.take_succ_eq_append_getElem hj]
    have k1 : ∀ b, ((wc.heap.size ≤ b ∧ b < wr.heap.size) ∧ (Value.slice (some ⟨g, 0, none⟩) ms.length k4).ownBlock ≠ some b) → _ := fun b hb' => (hS (fun b => b ≠ g) (by simp) b (fun e => hb'.2 (by rw [e]; rfl))).trans (hb.block b hb'.1.2)
    refine AllR.append (h.new.imp fun _ _ hm => hm.keep k1 (fun b hb' => ⟨⟨hb'.1.1, by simp; have := hb'.1.2; omega⟩, hb'.2⟩)) (AllR.one ⟨_, by rw [ha0, ha1], ht.keep (hS _ (fun hn => by have := hn.1; omega)) (fun b hb' => ?_)⟩)
    have h1 := hb'.1
    have h2 := hb'.2
    exact ⟨⟨by omega, by simpa using h2⟩, by simp [Value.ownBlock]; omega⟩
  · intro b hb'
    exact (hS (fun b => b ≠ g) (by simp) b (by omega)).trans ((hb.block b (by omega)).trans (h.same b hb'))

theorem nmL_end {ms : List Me} {xs : List Value} {B : Nat} {w wc : World} {c0 c1 c2 c3 c4 c5 c6 c7 : Value} {A4 : Option Addr} {k4 : Nat} {wr W' : World} {ys : List Value} (hc : B + 2 ≤ wc.heap.size)
    (h : NmL ms xs B w wc c0 c1 c2 c3 c4 c5 c6 c7 A4 k4 wr ms.length ys) (hx : xs.length = ms.length * 9) (hs : SameOn (fun b => b ≠ B) wr W') (hz : wr.heap.size ≤ W'.heap.size) :
    RowMe W' (fun b => B ≤ b ∧ b < W'.heap.size) (.slice A4 ms.length k4) ms := by
  have hsz := h.size
  have hl := h.own.lt
  have ho := h.own
  rw [List.drop_of_length_le (by omega), List.append_nil] at ho
  have hn := h.new
  rw [List.take_of_length_le (Nat.le_refl _)] at hn
  refine ⟨ys, ?_, ?_⟩
  · exact ((Row.of_own (S := fun b => wc.heap.size ≤ b ∧ b < wr.heap.size) ho hl).keep (hs.sub (fun b hb => by omega))).more (fun b hb => by omega)
  · exact hn.imp fun _ _ hm => hm.keep (hs.sub (fun b hb => by have := hb.1; omega)) (fun b hb => by have := hb.1; omega)

/-- A result that is a declared type in new memory. -/
def NdRes (w : World) (d : Nd) (ok : Bool) (e : Ending) (w' : World) : Prop := ∃ cs : List Value, e = .returned (.tuple #[.agg cs.toArray, .bool ok]) ∧ NdR w' (New w w') d cs ∧ Below w.heap.size w w'


attribute [local go_sem ↓] Go.wp_at_zero Go.wp_at_succ
set_option maxHeartbeats 4000000 in
set_option maxRecDepth 100000 in
theorem tnamed_any {d : Nd} {ok : Bool} {nm : ByteArray} {gt b : Nat} {w : World} {S : Nat → Prop} {A1 A2 A3 A4 : Option Addr} {c1 c2 c3 c4 : Nat} (hgt : gt < w.heap.size) (hS : Old S w) (hok : d.ok)
    (hc : w.cell? ⟨gt, 0, none⟩ = some (.map (some b)))
    (hn : NdR w S d [.string d.nm, .int .i64 d.un.kd, .string d.un.nm, .int .i64 d.un.n, .bool d.un.fl, .slice A1 d.un.ns.length c1, .slice A2 d.un.ms.length c2, .slice A3 d.un.ks.length c3, .slice A4 d.ms.length c4])
    (hlk : ∀ o, (Instr.lookup 83 (.map (some b)) (.string nm) true).run Try.prog (w.alloc o) = .ok (.tuple #[.agg #[.string d.nm, .int .i64 d.un.kd, .string d.un.nm, .int .i64 d.un.n, .bool d.un.fl, .slice A1 d.un.ns.length c1, .slice A2 d.un.ms.length c2, .slice A3 d.un.ks.length c3, .slice A4 d.ms.length c4], .bool ok]) (w.alloc o)) :
    Calls Try.prog 54 #[.pointer (some ⟨gt, 0, none⟩), .string nm] w (NdRes w d ok) := by
  have hc' : ∀ o, (w.alloc o).cell? ⟨gt, 0, none⟩ = some (.map (some b)) := fun o => (cell_below ((Below.refl w.heap.size w).alloc (Nat.le_refl _) o) hgt).trans hc
  have HS := Lib.hid hS
  have HOK := Lib.hid hok
  have HN := Lib.hid hn
  clear hS hok hn hc
  go_enter Try.func54, Try.ntmps54
  go_wp2_with fail
  refine (own_calls (S := S) HOK.out.2.1 (t := d.un) (cs := [.int .i64 d.un.kd, .string d.un.nm, .int .i64 d.un.n, .bool d.un.fl, .slice A1 d.un.ns.length c1, .slice A2 d.un.ms.length c2, .slice A3 d.un.ks.length c3]) ?_ ?_).mono ?_
  · obtain ⟨ct, vm, e, h, _⟩ := HN.out
    obtain ⟨B1, k1, B2, k2, B3, k3, rfl, _⟩ := h.forms
    simp only [List.cons_append, List.nil_append, List.cons.injEq] at e
    obtain ⟨-, -, -, -, -, e1, e2, e3, -⟩ := e
    rw [e1, e2, e3]
    exact h.keep (((SameOn.refl _ _).alloc HS.out _).alloc (HS.out.alloc _) _) (fun _ h => h)
  · exact (HS.out.alloc _).alloc _
  rintro e w1 h1
  obtain ⟨E1, e1, E2, e2, E3, e3, rfl, ht1, hb1⟩ := h1.forms
  have hz1 := hb1.size
  simp at hz1
  have HB0 : Hid (Blk w1 w.heap.size 43 zero9.toArray) := ((Blk.new _ _ _).alloc _).below hb1 (by simp; omega)
  have HB1 : Hid (Blk w1 (w.heap.size + 1) 43 #[.string d.nm, .int .i64 d.un.kd, .string d.un.nm, .int .i64 d.un.n, .bool d.un.fl, .slice A1 d.un.ns.length c1, .slice A2 d.un.ms.length c2, .slice A3 d.un.ks.length c3, .slice A4 d.ms.length c4]) := by
    refine Blk.below ?_ hb1 (by simp)
    simpa using Blk.new (w.alloc _) _ _
  have HT1 := Lib.hid ht1
  have HX1 : Hid (Below w.heap.size w w1) := (((Below.refl _ _).alloc (Nat.le_refl _) _).alloc (by simp) _).trans (hb1.mono (by simp; omega))
  obtain ⟨g0, g1, g2, g3, g4, g5, g6, g7, g8, gf⟩ := HB1.out.cells9
  clear h1 ht1 hb1
  go_wp2_with fail
  refine (fun H : (∀ W, (Below w.heap.size w W ∧ W.heap.size = w1.heap.size ∧ Blk W w.heap.size 43 zero9.toArray ∧
      Blk W (w.heap.size + 1) 43 #[.string d.nm, .int .i64 d.un.kd, .string d.un.nm, .int .i64 d.un.n, .bool d.un.fl, .slice E1 d.un.ns.length e1, .slice E2 d.un.ms.length e2, .slice E3 d.un.ks.length e3, .slice A4 d.ms.length c4] ∧
      TyR W (fun b => w.heap.size + 2 ≤ b ∧ b < W.heap.size) d.un [.int .i64 d.un.kd, .string d.un.nm, .int .i64 d.un.n, .bool d.un.fl, .slice E1 d.un.ns.length e1, .slice E2 d.un.ms.length e2, .slice E3 d.un.ks.length e3]) → Calls _ _ _ W _) => H _ ?_) ?_
  · refine ⟨?_, by simp, ?_, ?_, ?_⟩
    · repeat (refine Below.setCell ?_ (by simp) _)
      exact HX1.out
    · repeat (refine Blk.far ?_ (by simp) _)
      exact HB0.out
    · simpa using ((((((HB1.out.set_ 1 (.int .i64 d.un.kd)).set_ 2 (.string d.un.nm)).set_ 3 (.int .i64 d.un.n)).set_ 4 (.bool d.un.fl)).set_ 5 (.slice E1 d.un.ns.length e1)).set_ 6 (.slice E2 d.un.ms.length e2)).set_ 7 (.slice E3 d.un.ks.length e3)
    · refine HT1.out.keep ?_ (fun b hb => ⟨by have := hb.1; simp at this; omega, by have := hb.2; simpa using this⟩)
      repeat (refine SameOn.set_ ?_ (fun h => by have := h.1; simp at this; omega) _)
      exact SameOn.refl _ _
  rintro W ⟨hbW, hzW, hW0, hW1, hWT⟩
  clear HB0 HB1 HT1 HX1 g0 g1 g2 g3 g4 g5 g6 g7 g8 gf
  have HW0 := Lib.hid hW0
  have HW1 := Lib.hid hW1
  have HWT := Lib.hid hWT
  have HBW := Lib.hid hbW
  clear hW0 hW1 hWT hbW
  obtain ⟨xs, hx1, hx2⟩ : RowMe w S (.slice A4 d.ms.length c4) d.ms := by
    obtain ⟨ct, vm, e, h, hm⟩ := HN.out
    obtain ⟨B1, k1, B2, k2, B3, k3, rfl, _⟩ := h.forms
    simp only [List.cons_append, List.nil_append, List.cons.injEq] at e
    obtain ⟨-, -, -, -, -, -, -, -, rfl, -⟩ := e
    exact hm
  have HXR := Lib.hid hx1
  have HXM := Lib.hid hx2
  have hml : d.ms.length ≤ 9223372036854775807 := by obtain ⟨_, _, _, h⟩ := hx1.form; exact h
  clear hx1 hx2
  refine (clone_mes _ S _ _ xs (HXR.out.keep (SameOn.of_below HBW.out HS.out)) (HS.out.below HBW.out) (meR_one HXM.out) HOK.out.2.2.1).mono ?_
  rintro e w2 ⟨v2, rfl, ho2, -, hb2⟩
  obtain ⟨A5, c5, rfl⟩ := own_form ho2
  have hz2 := hb2.size
  have hlt0 : w.heap.size + 2 ≤ W.heap.size := by omega
  have HL0 : Hid (NmL d.ms xs w.heap.size w W (.string d.nm) (.int .i64 d.un.kd) (.string d.un.nm) (.int .i64 d.un.n) (.bool d.un.fl) (.slice E1 d.un.ns.length e1) (.slice E2 d.un.ms.length e2) (.slice E3 d.un.ks.length e3) A5 c5 (w2.setCell ⟨w.heap.size + 1, 8, none⟩ (.slice A5 d.ms.length c5)) 0 []) := by
    refine ⟨(HBW.out.trans (hb2.mono (by omega))).setCell (by simp) _, by simpa using hz2, (HW0.out.below hb2 (by omega)).far (by simp) _, by simpa using (HW1.out.below hb2 (by omega)).set_ 8 (.slice A5 d.ms.length c5), ?_, rfl, rfl, ?_⟩
    · simp only [Nat.zero_mul, List.drop_zero, List.nil_append]
      exact ownsRow_setCell_below ho2 (a := ⟨w.heap.size + 1, 8, none⟩) (by simp; omega) _
    · exact (SameOn.of_below (hb2.mono (Nat.le_refl _)) (fun b hb => hb.2)).set_ (by simp) _
  obtain ⟨g0, g1, g2, g3, g4, g5, g6, g7, g8, gf⟩ := (HW1.out.below hb2 (by omega)).cells9
  have hl2 : w.heap.size + 1 < w2.heap.size := by omega
  clear ho2 hb2
  go_wp2_with fail
  clear g0 g1 g2 g3 g4 g5 g6 g7 g8 gf
  go_loopg [32] d.ms.length (fun m i wr => ∃ (j : Nat) (ys : List Value), m = d.ms.length - j ∧ j ≤ d.ms.length ∧ i = .int .i64 j ∧ Hid (NmL d.ms xs w.heap.size w W (.string d.nm) (.int .i64 d.un.kd) (.string d.un.nm) (.int .i64 d.un.n) (.bool d.un.fl) (.slice E1 d.un.ns.length e1) (.slice E2 d.un.ms.length e2) (.slice E3 d.un.ks.length e3) A5 c5 wr j ys))
  case atStart => exact ⟨0, [], by simp, by omega, rfl, HL0⟩
  case round =>
    obtain ⟨j, ys, rfl, hj, rfl, HL⟩ := hrel
    have hzr := HL.out.size
    obtain ⟨g0, g1, g2, g3, g4, g5, g6, g7, g8, gf⟩ := HL.out.t.cells9
    by_cases hlt : j < d.ms.length
    · obtain ⟨F1, f1, F2, f2, F3, f3, hd, hty⟩ := MeR.split HXM.out hlt
      obtain ⟨g, cap, hv, _⟩ := HL.out.own.form (by omega)
      cases hv
      have hg := HL.out.own.lt g rfl
      have hcell := HL.out.own
      rw [hd] at hcell
      obtain ⟨k0, k1, k2, k3, k4, k5, k6, k7, k8, kf⟩ := own_cells9 hcell HL.out.ylen
      have HD := Lib.hid hd
      have HTY := Lib.hid hty
      have HCELL := Lib.hid hcell
      clear hd hty hcell
      have hgl := hg.2
      have hj3 : (j : Int) < (d.ms.length : Int) := by omega
      have hj4 : (0 : Int) ≤ (j : Int) := by omega
      go_wp2_with fail
      go_region_with
        (first
          | (go_at_call 41
             refine (own_calls (S := S) (t := d.ms[j].sig) (cs := [.int .i64 d.ms[j].sig.kd, .string d.ms[j].sig.nm, .int .i64 d.ms[j].sig.n, .bool d.ms[j].sig.fl, .slice F1 d.ms[j].sig.ns.length f1, .slice F2 d.ms[j].sig.ms.length f2, .slice F3 d.ms[j].sig.ks.length f3]) (HOK.out.2.2.2 _ (List.getElem_mem hlt)).2 (HTY.out.keep (SameOn.of_below HL.out.below.drew HS.out) (fun _ h => h)) (HS.out.below HL.out.below.drew)).mono ?_
             rintro e w3 h3
             obtain ⟨G1, u1, G2, u2, G3, u3, rfl, ht3, hb3⟩ := h3.forms
             have hcell3 := own_below HCELL.out ((Below.refl _ _).drew.trans hb3)
             obtain ⟨p0, p1, p2, p3, p4, p5, p6, p7, p8, pf⟩ := own_cells9 hcell3 HL.out.ylen
             obtain ⟨q0, q1, q2, q3, q4, q5, q6, q7, q8, qf⟩ := (HL.out.t.below ((Below.refl _ _).drew.trans hb3) HL.out.t.lt).cells9
             have HSTEP := Lib.hid (nmL_step hlt0 hlt HL.out HD.out rfl rfl ((Below.refl _ _).drew.trans hb3) (ht3.keep (SameOn.refl _ _) (fun _ h => h)))
             clear h3 ht3 hb3 hcell3)
          | fail)
      all_goals
        go_wp2_with fail
        go_roundg (d.ms.length - (j + 1))
        case measure => omega
        case rel => exact ⟨j + 1, _, rfl, by omega, by go_num, HSTEP⟩
    · obtain rfl : j = d.ms.length := by omega
      obtain ⟨r0, r1, r2, r3, r4, r5, r6, r7, r8, rf⟩ := Blk.cells9 HL.out.r
      clear hj hlt
      go_wp2_with fail
      refine bodyPost_ret (v := .tuple #[.agg #[.string d.nm, .int .i64 d.un.kd, .string d.un.nm, .int .i64 d.un.n, .bool d.un.fl, .slice E1 d.un.ns.length e1, .slice E2 d.un.ms.length e2, .slice E3 d.un.ks.length e3, .slice A5 d.ms.length c5], .bool ok]) (by simp [results, Try.results54, go_sem, r0, r1, r2, r3, r4, r5, r6, r7, r8]) rfl ⟨_, rfl, ?_, ?_⟩
      · have hn9 : ∀ W', SameOn (fun b => b ≠ w.heap.size) wr W' → wr.heap.size ≤ W'.heap.size → NdR W' (New w W') d [.string d.nm, .int .i64 d.un.kd, .string d.un.nm, .int .i64 d.un.n, .bool d.un.fl, .slice E1 d.un.ns.length e1, .slice E2 d.un.ms.length e2, .slice E3 d.un.ks.length e3, .slice A5 d.ms.length c5] := by
          intro W' hs hz
          refine ⟨[.int .i64 d.un.kd, .string d.un.nm, .int .i64 d.un.n, .bool d.un.fl, .slice E1 d.un.ns.length e1, .slice E2 d.un.ms.length e2, .slice E3 d.un.ks.length e3], _, rfl, ?_, nmL_end hlt0 HL.out ((HXM.out).len (k := 9) (fun _ _ h => h.len)) hs hz⟩
          exact (HWT.out.keep HL.out.same (fun _ h => h)).keep (hs.sub (fun b hb => by omega)) (fun b hb => ⟨by omega, by omega⟩)
        refine hn9 _ ?_ (by simp)
        repeat (refine SameOn.set_ ?_ (by simp) _)
        exact SameOn.refl _ _
      · repeat (refine Below.setCell ?_ (by simp) _)
        exact HL.out.below

/-- types.table.Named -/
theorem tnamed_calls {L : List Nd} {nm : ByteArray} {gt b : Nat} {w : World} {S : Nat → Prop} (hgt : gt < w.heap.size) (hb : b < w.heap.size) (hS : Old S w) (hL : ∀ d ∈ L, d.ok) (hnm : nm.size ≤ Lim)
    (hc : w.cell? ⟨gt, 0, none⟩ = some (.map (some b))) (ht : TabR w S b L) :
    Calls Try.prog 54 #[.pointer (some ⟨gt, 0, none⟩), .string nm] w (NdRes w (lookD L nm) (look L nm).isSome) := by
  obtain ⟨A1, c1, A2, c2, A3, c3, A4, c4, h1, h2, -⟩ := ht.looks hnm
  exact tnamed_any hgt hS (lookD_ok hL nm) hc h1 (fun o => h2 _ (Below.heap_alloc w o b hb))
end Go.Proofs.Ytanhdklaponekaa
