/- recastlaw11.UnifyBack: what the law's loop keeps. -/
import Derived.Test.YtanhdklaponekaaAwake11
namespace Go.Proofs.Ytanhdklaponekaa
open Go Go.RowKit

theorem okL_set {us : List T} {m : Nat} {t : T} (h : T.okL us) (ht : t.ok) : T.okL (us.set m t) :=
  okL_iff.2 fun x hx => by
    rcases List.mem_or_eq_of_mem_set hx with hx | rfl
    · exact okL_iff.1 h x hx
    · exact ht
theorem atParam_ok {q u : T} {us : List T} {m : Nat} (hq : q.ok) (h : T.okL us) : T.okL (atParam q u us m).2 := by
  unfold atParam; split
  · exact h
  · split
    · exact okL_set h hq
    · exact h
theorem ok_ks {t : T} (h : t.ok) : T.okL t.ks := by
  obtain ⟨k, nm, n, f, ns, ms, ks⟩ := t
  rw [T.ok] at h; exact h.2.2.2.2.2.2.2
mutual
theorem matchT_ok : ∀ (p q : T) (us : List T), q.ok → T.okL us → T.okL (matchT p q us).2
  | .mk k nm n f ns ms ks, q, us, hq, h => by
    rw [matchT]; split
    · exact atParam_ok hq h
    · split
      · exact matchL_ok ks q.ks us (ok_ks hq) h
      · exact h
theorem matchL_ok : ∀ (ps xs us : List T), T.okL xs → T.okL us → T.okL (matchL ps xs us).2
  | p :: ps, a :: xs, us, hx, h => by
    rw [T.okL] at hx
    rw [matchL]; split
    · exact matchL_ok ps xs _ hx.2 (matchT_ok p a us hx.1 h)
    · exact matchT_ok p a us hx.1 h
  | [], _, us, _, h => by simpa only [matchL] using h
  | _ :: _, [], us, _, h => by simpa only [matchL] using h
end

/-- what holds at the head of the loop that fills the list -/
structure UB (w wr : World) (p q : T) (us vs : List T) (ys : List Value) (base g n : Nat) (A1 A2 A3 D1 D2 D3 : Option Addr) (c1 c2 c3 d1 d2 d3 : Nat) : Prop where
  below : Below w.heap.size w wr
  gl : w.heap.size + 2 ≤ g
  gr : g < wr.heap.size
  b1 : Blk wr w.heap.size 26 #[.int .i64 p.kd, .string p.nm, .int .i64 p.n, .bool p.fl, .slice A1 p.ns.length c1, .slice A2 p.ms.length c2, .slice A3 p.ks.length c3]
  b2 : Blk wr (w.heap.size + 1) 26 #[.int .i64 q.kd, .string q.nm, .int .i64 q.n, .bool q.fl, .slice D1 q.ns.length d1, .slice D2 q.ms.length d2, .slice D3 q.ks.length d3]
  own : wr.ownsRow base 26 7 (.slice (some ⟨g, 0, none⟩) n n) n ys
  ty : TysR wr (fun b => (w.heap.size ≤ b ∧ b < wr.heap.size) ∧ b ≠ g) vs ys
  says : Says us vs
  len : vs.length = n
  ok : T.okL vs

section
variable {w wr w2 : World} {p q : T} {us vs : List T} {ys : List Value} {base g n : Nat} {A1 A2 A3 D1 D2 D3 : Option Addr} {c1 c2 c3 d1 d2 d3 : Nat}
theorem UB.step (h : UB w wr p q us vs ys base g n A1 A2 A3 D1 D2 D3 c1 c2 c3 d1 d2 d3) (hb : Below wr.heap.size wr w2) : UB w w2 p q us vs ys base g n A1 A2 A3 D1 D2 D3 c1 c2 c3 d1 d2 d3 := by
  have hz := hb.size
  have hz0 := h.below.size
  have hgr := h.gr
  have h1 := h.b1.lt
  have h2 := h.b2.lt
  exact ⟨h.below.trans (hb.mono (by omega)), h.gl, by omega, h.b1.below hb h1, h.b2.below hb h2, own_below h.own hb, h.ty.keep (SameOn.of_below hb (fun b hb => hb.1.2)) (fun b hb => ⟨⟨hb.1.1, by have := hb.1.2; omega⟩, hb.2⟩), h.says, h.len, h.ok⟩
theorem UB.set_ {j : Nat} {t : T} {x0 x1 x2 x3 x4 x5 x6 e0 e1 e2 e3 e4 e5 e6 : Value} (h : UB w wr p q us vs ys base g n A1 A2 A3 D1 D2 D3 c1 c2 c3 d1 d2 d3) (hj : j < vs.length) (hz : vs[j].kd = 0)
    (hy : ys = ys.take (j * 7) ++ (x0 :: x1 :: x2 :: x3 :: x4 :: x5 :: x6 :: ys.drop ((j + 1) * 7))) (hl : (ys.take (j * 7)).length = j * 7)
    (ht : TyR wr (fun b => (w.heap.size ≤ b ∧ b < wr.heap.size) ∧ b ≠ g) t [e0, e1, e2, e3, e4, e5, e6]) (hok : t.ok)
    (hp1 : TysR wr (fun b => (w.heap.size ≤ b ∧ b < wr.heap.size) ∧ b ≠ g) (vs.take j) (ys.take (j * 7))) (hp3 : TysR wr (fun b => (w.heap.size ≤ b ∧ b < wr.heap.size) ∧ b ≠ g) (vs.drop (j + 1)) (ys.drop ((j + 1) * 7))) :
    UB w (((((((wr.setCell ⟨g, j * 7, none⟩ e0).setCell ⟨g, j * 7 + 1, none⟩ e1).setCell ⟨g, j * 7 + 2, none⟩ e2).setCell ⟨g, j * 7 + 3, none⟩ e3).setCell ⟨g, j * 7 + 4, none⟩ e4).setCell ⟨g, j * 7 + 5, none⟩ e5).setCell ⟨g, j * 7 + 6, none⟩ e6)
      p q us (vs.set j t) ((ys.take (j * 7) ++ [e0, e1, e2, e3, e4, e5, e6]) ++ ys.drop ((j + 1) * 7)) base g n A1 A2 A3 D1 D2 D3 c1 c2 c3 d1 d2 d3 := by
  have hz0 := h.below.size
  have hgl := h.gl
  have hgr := h.gr
  have hS : ∀ (S : Nat → Prop), ¬ S g → SameOn S wr (((((((wr.setCell ⟨g, j * 7, none⟩ e0).setCell ⟨g, j * 7 + 1, none⟩ e1).setCell ⟨g, j * 7 + 2, none⟩ e2).setCell ⟨g, j * 7 + 3, none⟩ e3).setCell ⟨g, j * 7 + 4, none⟩ e4).setCell ⟨g, j * 7 + 5, none⟩ e5).setCell ⟨g, j * 7 + 6, none⟩ e6) := by
    intro S hn
    repeat (refine SameOn.set_ ?_ hn _)
    exact SameOn.refl _ _
  have hset := h.own
  rw [hy] at hset
  have hset2 := own_set7 e0 e1 e2 e3 e4 e5 e6 hset hl
  have hk := hS (fun b => (w.heap.size ≤ b ∧ b < wr.heap.size) ∧ b ≠ g) (fun hh => hh.2 rfl)
  refine ⟨?_, hgl, by simpa using hgr, ?_, ?_, hset2, tysR_set hj (hp1.keep hk ?_) (ht.keep hk ?_) (hp3.keep hk ?_), ?_, by rw [List.length_set, h.len], okL_set h.ok hok⟩
  · repeat (refine Below.setCell ?_ (by simp; omega) _)
    exact h.below
  · repeat (refine Blk.far ?_ (by simp; omega) _)
    exact h.b1
  · repeat (refine Blk.far ?_ (by simp; omega) _)
    exact h.b2
  · exact fun b hb => by simpa using hb
  · exact fun b hb => by simpa using hb
  · exact fun b hb => by simpa using hb
  · refine h.says.trans ⟨by simp, fun i h1 h2 hne => ?_⟩
    by_cases e : j = i
    · subst e; exact absurd hz hne
    · simp [e]
end

theorem make_six (n : Nat) (hn : n ≤ 6) (w : World) : ∃ cs : Array Value, (Instr.makeSlice 24 (.int .i64 n) (.int .i64 n)).run Try.prog w = .ok (.slice (some ⟨w.heap.size, 0, none⟩) n n) (w.alloc (.cells cs 26)) ∧
    cs.size = n * 7 ∧ ∀ (W : World) (S : Nat → Prop), TysR W S (List.replicate n T.zero) cs.toList := by
  have key : ∀ (n : Nat) (W : World) (S : Nat → Prop), TysR W S (List.replicate n T.zero) ((List.replicate n [.int .i64 0, .string ⟨#[]⟩, .int .i64 0, .bool false, .slice none 0 0, .slice none 0 0, .slice none 0 0]).flatten) := by
    intro n W S
    induction n with
    | zero => simp [TysR]
    | succ n ih =>
      rw [List.replicate_succ, List.replicate_succ, List.flatten_cons]
      simp only [TysR]
      exact ⟨_, _, rfl, zero_R W S, ih⟩
  rcases (by omega : n = 0 ∨ n = 1 ∨ n = 2 ∨ n = 3 ∨ n = 4 ∨ n = 5 ∨ n = 6) with rfl | rfl | rfl | rfl | rfl | rfl | rfl
  · exact ⟨((List.replicate 0 [.int .i64 0, .string ⟨#[]⟩, .int .i64 0, .bool false, .slice none 0 0, .slice none 0 0, .slice none 0 0]).flatten).toArray, by kernel_rfl, by simp, fun W S => by simpa using key 0 W S⟩
  · exact ⟨((List.replicate 1 [.int .i64 0, .string ⟨#[]⟩, .int .i64 0, .bool false, .slice none 0 0, .slice none 0 0, .slice none 0 0]).flatten).toArray, by kernel_rfl, by simp, fun W S => by simpa using key 1 W S⟩
  · exact ⟨((List.replicate 2 [.int .i64 0, .string ⟨#[]⟩, .int .i64 0, .bool false, .slice none 0 0, .slice none 0 0, .slice none 0 0]).flatten).toArray, by kernel_rfl, by simp, fun W S => by simpa using key 2 W S⟩
  · exact ⟨((List.replicate 3 [.int .i64 0, .string ⟨#[]⟩, .int .i64 0, .bool false, .slice none 0 0, .slice none 0 0, .slice none 0 0]).flatten).toArray, by kernel_rfl, by simp, fun W S => by simpa using key 3 W S⟩
  · exact ⟨((List.replicate 4 [.int .i64 0, .string ⟨#[]⟩, .int .i64 0, .bool false, .slice none 0 0, .slice none 0 0, .slice none 0 0]).flatten).toArray, by kernel_rfl, by simp, fun W S => by simpa using key 4 W S⟩
  · exact ⟨((List.replicate 5 [.int .i64 0, .string ⟨#[]⟩, .int .i64 0, .bool false, .slice none 0 0, .slice none 0 0, .slice none 0 0]).flatten).toArray, by kernel_rfl, by simp, fun W S => by simpa using key 5 W S⟩
  · exact ⟨((List.replicate 6 [.int .i64 0, .string ⟨#[]⟩, .int .i64 0, .bool false, .slice none 0 0, .slice none 0 0, .slice none 0 0]).flatten).toArray, by kernel_rfl, by simp, fun W S => by simpa using key 6 W S⟩
end Go.Proofs.Ytanhdklaponekaa
