/- types.Subst where no parameter is replaced at the top. -/
import Derived.Test.YtanhdklaponekaaSubst
namespace Go.Proofs.Ytanhdklaponekaa
open Go Go.RowKit

/-- Behind the two clones: what lies where. -/
structure SubMid (B : Nat) (w wc : World) (k : Int) (nm : ByteArray) (n : Int) (f : Bool) (ns : List ByteArray) (ms : List Bool) (A1 A2 A3 : Option Addr) (c1 c2 l3 c3 : Nat) : Prop where
  below : Below B w wc
  size : B + 2 ≤ wc.heap.size
  t : Blk wc B 26 #[.int .i64 k, .string nm, .int .i64 n, .bool f, .slice A1 ns.length c1, .slice A2 ms.length c2, .slice A3 l3 c3]
  r : Blk wc (B + 1) 26 #[.int .i64 0, .string ⟨#[]⟩, .int .i64 0, .bool false, .slice none 0 0, .slice none 0 0, .slice none 0 0]
  ns : Row wc (fun b => B + 2 ≤ b ∧ b < wc.heap.size) 1 (.slice A1 ns.length c1) ns.length (ns.map .string)
  ms : Row wc (fun b => B + 2 ≤ b ∧ b < wc.heap.size) 1 (.slice A2 ms.length c2) ms.length (ms.map .bool)

theorem tysR_one {w : World} {S : Nat → Prop} : ∀ {ts : List T} {cs : List Value}, TysR w S ts cs → ∀ u ∈ cs, u.oneCell' = true
  | [], cs, h => by simp only [TysR] at h; subst h; simp
  | t :: ts, cs, h => by
    simp only [TysR] at h
    obtain ⟨c1, c2, rfl, a, b⟩ := h
    obtain ⟨A1, c1, A2, c2, A3, c3, rfl, _⟩ := a.forms
    intro u hu
    rcases List.mem_append.1 hu with hu | hu
    · exact one7 u hu
    · exact tysR_one b u hu

theorem subMid_mk {B H0 E1 E2 : Nat} {w w1 w2 : World} {k : Int} {nm : ByteArray} {n : Int} {f : Bool} {ns : List ByteArray} {ms : List Bool} {A1 A2 A3 B1 B2 : Option Addr} {c1 c2 l3 c3 d1 d2 : Nat}
    (hb : Below B w w2) (hz : B + 2 ≤ w2.heap.size)
    (hD1 : Blk w2 B 26 #[.int .i64 k, .string nm, .int .i64 n, .bool f, .slice A1 ns.length c1, .slice A2 ms.length c2, .slice A3 l3 c3])
    (hD2 : Blk w2 (B + 1) 26 #[.int .i64 0, .string ⟨#[]⟩, .int .i64 0, .bool false, .slice none 0 0, .slice none 0 0, .slice none 0 0])
    (hz0 : B + 2 ≤ H0) (hz1 : H0 ≤ w1.heap.size) (ho1 : w1.ownsRow H0 E1 1 (.slice B1 ns.length d1) ns.length (ns.map .string)) (hb2 : Below w1.heap.size w1 w2)
    (ho2 : w2.ownsRow w1.heap.size E2 1 (.slice B2 ms.length d2) ms.length (ms.map .bool)) :
    SubMid B w ((w2.setCell ⟨B, 4, none⟩ (.slice B1 ns.length d1)).setCell ⟨B, 5, none⟩ (.slice B2 ms.length d2)) k nm n f ns ms B1 B2 A3 d1 d2 l3 c3 := by
  have hz2 := hb2.size
  have l1 := ho1.lt
  have l2 := ho2.lt
  have hsm : SameOn (fun b => B + 2 ≤ b ∧ b < w2.heap.size) w2 ((w2.setCell ⟨B, 4, none⟩ (.slice B1 ns.length d1)).setCell ⟨B, 5, none⟩ (.slice B2 ms.length d2)) := by
    repeat (refine SameOn.set_ ?_ (by simp; try omega) _)
    exact SameOn.refl _ _
  refine ⟨(hb.setCell (by simp) _).setCell (by simp) _, by simpa using hz, (hD1.set_ 4 _).set_ 5 _, (hD2.far (by simp) _).far (by simp) _, ?_, ?_⟩
  · exact ((Row.of_own (S := fun b => B + 2 ≤ b ∧ b < w2.heap.size) (own_below ho1 hb2) (fun b hb => by have := l1 b hb; omega)).keep hsm).more (fun b hb => by simpa using hb)
  · exact ((Row.of_own (S := fun b => B + 2 ≤ b ∧ b < w2.heap.size) ho2 (fun b hb => by have := l2 b hb; omega)).keep hsm).more (fun b hb => by simpa using hb)

/-- what lies where in the loop -/
structure SubLoop (us ks : List T) (xs : List Value) (B : Nat) (w wc : World) (k : Int) (nm : ByteArray) (n : Int) (f : Bool) (ns : List ByteArray) (ms : List Bool) (A1 A2 A4 : Option Addr) (c1 c2 c4 : Nat) (wr : World) (j : Nat) (ys : List Value) : Prop where
  below : Below B w wr
  size : wc.heap.size ≤ wr.heap.size
  t : Blk wr B 26 #[.int .i64 k, .string nm, .int .i64 n, .bool f, .slice A1 ns.length c1, .slice A2 ms.length c2, .slice A4 ks.length c4]
  r : Blk wr (B + 1) 26 #[.int .i64 0, .string ⟨#[]⟩, .int .i64 0, .bool false, .slice none 0 0, .slice none 0 0, .slice none 0 0]
  own : wr.ownsRow wc.heap.size 26 7 (.slice A4 ks.length c4) ks.length (ys ++ xs.drop (j * 7))
  ylen : ys.length = j * 7
  new : TysR wr (fun b => (wc.heap.size ≤ b ∧ b < wr.heap.size) ∧ (Value.slice A4 ks.length c4).ownBlock ≠ some b) (substL us (ks.take j)) ys
  same : SameOn (fun b => B + 2 ≤ b ∧ b < wc.heap.size) wc wr

theorem TysR.split {w : World} {S : Nat → Prop} {ts : List T} {cs : List Value} (h : TysR w S ts cs) {j : Nat} (hj : j < ts.length) : ∃ A1 c1 A2 c2 A3 c3,
    cs.drop (j * 7) = .int .i64 ts[j].kd :: .string ts[j].nm :: .int .i64 ts[j].n :: .bool ts[j].fl :: .slice A1 ts[j].ns.length c1 :: .slice A2 ts[j].ms.length c2 :: .slice A3 ts[j].ks.length c3 :: cs.drop ((j + 1) * 7) ∧
    TyR w S ts[j] [.int .i64 ts[j].kd, .string ts[j].nm, .int .i64 ts[j].n, .bool ts[j].fl, .slice A1 ts[j].ns.length c1, .slice A2 ts[j].ms.length c2, .slice A3 ts[j].ks.length c3] := by
  have h1 := h.at_ j hj
  obtain ⟨A1, c1, A2, c2, A3, c3, e, _⟩ := h1.forms
  rw [e] at h1
  refine ⟨A1, c1, A2, c2, A3, c3, ?_, h1⟩
  rw [← List.take_append_drop 7 (cs.drop (j * 7)), e, List.drop_drop, show j * 7 + 7 = (j + 1) * 7 by omega]
  rfl

theorem subLoop_step {us ks : List T} {xs : List Value} {B : Nat} {w wc : World} {k : Int} {nm : ByteArray} {n : Int} {f : Bool} {ns : List ByteArray} {ms : List Bool} {A1 A2 : Option Addr} {g c1 c2 c4 : Nat} {wr w2 : World} {j : Nat} {ys : List Value} {o : Obj}
    {x0 x1 x2 x3 x4 x5 x6 d0 d1 d2 d3 d4 d5 d6 : Value} {t' : T} (hc : B + 2 ≤ wc.heap.size) (hj : j < ks.length)
    (h : SubLoop us ks xs B w wc k nm n f ns ms A1 A2 (some ⟨g, 0, none⟩) c1 c2 c4 wr j ys) (hd : xs.drop (j * 7) = x0 :: x1 :: x2 :: x3 :: x4 :: x5 :: x6 :: xs.drop ((j + 1) * 7))
    (hb : Below (wr.alloc o).heap.size (wr.alloc o) w2) (ht : TyR w2 (New (wr.alloc o) w2) t' [d0, d1, d2, d3, d4, d5, d6]) (he : t' = subst us ks[j]) :
    SubLoop us ks xs B w wc k nm n f ns ms A1 A2 (some ⟨g, 0, none⟩) c1 c2 c4
      (((((((w2.setCell ⟨g, j * 7, none⟩ d0).setCell ⟨g, j * 7 + 1, none⟩ d1).setCell ⟨g, j * 7 + 2, none⟩ d2).setCell ⟨g, j * 7 + 3, none⟩ d3).setCell ⟨g, j * 7 + 4, none⟩ d4).setCell ⟨g, j * 7 + 5, none⟩ d5).setCell ⟨g, j * 7 + 6, none⟩ d6)
      (j + 1) (ys ++ [d0, d1, d2, d3, d4, d5, d6]) := by
  have hz := hb.size
  have hzr := h.size
  simp at hz
  have hg := h.own.lt g rfl
  have hal : Below wr.heap.size wr w2 := ((Below.refl _ _).alloc (Nat.le_refl _) o).trans (hb.mono (by simp))
  have ho2 := own_below h.own hal
  rw [hd] at ho2
  have hset := own_set7 d0 d1 d2 d3 d4 d5 d6 ho2 h.ylen
  have hS : ∀ (S : Nat → Prop), ¬ S g → SameOn S w2 (((((((w2.setCell ⟨g, j * 7, none⟩ d0).setCell ⟨g, j * 7 + 1, none⟩ d1).setCell ⟨g, j * 7 + 2, none⟩ d2).setCell ⟨g, j * 7 + 3, none⟩ d3).setCell ⟨g, j * 7 + 4, none⟩ d4).setCell ⟨g, j * 7 + 5, none⟩ d5).setCell ⟨g, j * 7 + 6, none⟩ d6) := by
    intro S hn
    repeat (refine SameOn.set_ ?_ hn _)
    exact SameOn.refl _ _
  refine ⟨?_, by simp; omega, ?_, ?_, hset, by simp [h.ylen]; omega, ?_, ?_⟩
  · have h1 : Below B w w2 := h.below.trans (hal.mono (by have := h.t.lt; omega))
    repeat (refine Below.setCell ?_ (by simp; omega) _)
    exact h1
  · have h1 := h.t.below hal h.t.lt
    repeat (refine Blk.far ?_ (by simp; omega) _)
    exact h1
  · have h1 := h.r.below hal h.r.lt
    repeat (refine Blk.far ?_ (by simp; omega) _)
    exact h1
  · rw [substL_take us ks j hj, ← he]
    refine TysR.append (h.new.keep (fun b hb' => ?_) (fun b hb' => ?_)) (TysR.one (ht.keep (hS _ ?_) (fun b hb' => ?_)))
    · exact (hS (fun b => b ≠ g) (by simp) b (fun e => hb'.2 (by rw [e]; rfl))).trans (hal.block b hb'.1.2)
    · exact ⟨⟨hb'.1.1, by simp; have := hb'.1.2; omega⟩, hb'.2⟩
    · intro hn; have := hn.1; simp at this; omega
    · have h1 := hb'.1; have h2 := hb'.2; simp at h1
      exact ⟨⟨by omega, by simpa using h2⟩, by simp [Value.ownBlock]; omega⟩
  · intro b hb'
    exact (hS (fun b => b ≠ g) (by simp) b (by omega)).trans ((hal.block b (by omega)).trans (h.same b hb'))

theorem subLoop_end {us ks : List T} {xs : List Value} {B : Nat} {w wc : World} {k : Int} {nm : ByteArray} {n : Int} {f : Bool} {ns : List ByteArray} {ms : List Bool} {A1 A2 A3 A4 : Option Addr} {c1 c2 l3 c3 c4 : Nat} {wr W' : World} {ys : List Value}
    (hm : SubMid B w wc k nm n f ns ms A1 A2 A3 c1 c2 l3 c3) (h : SubLoop us ks xs B w wc k nm n f ns ms A1 A2 A4 c1 c2 c4 wr ks.length ys) (hx : xs.length = ks.length * 7)
    (hs : SameOn (fun b => b ≠ B + 1) wr W') (hz : wr.heap.size ≤ W'.heap.size) :
    TyR W' (fun b => B ≤ b ∧ b < W'.heap.size) (.mk k nm n f ns ms (substL us ks)) [.int .i64 k, .string nm, .int .i64 n, .bool f, .slice A1 ns.length c1, .slice A2 ms.length c2, .slice A4 ks.length c4] := by
  have hsz := h.size
  have hc := hm.size
  have hl := h.own.lt
  have ho := h.own
  rw [List.drop_of_length_le (by omega), List.append_nil] at ho
  have hn := h.new
  rw [List.take_of_length_le (Nat.le_refl _)] at hn
  simp only [TyR]
  refine ⟨_, _, _, ys, rfl, ?_, ?_, ?_, ?_⟩
  · exact ((hm.ns.keep h.same).keep (hs.sub (fun b hb => by omega))).more (fun b hb => by omega)
  · exact ((hm.ms.keep h.same).keep (hs.sub (fun b hb => by omega))).more (fun b hb => by omega)
  · rw [substL_len]
    exact ((Row.of_own (S := fun b => wc.heap.size ≤ b ∧ b < wr.heap.size) ho hl).keep (hs.sub (fun b hb => by omega))).more (fun b hb => by omega)
  · exact hn.keep (hs.sub (fun b hb => by have := hb.1; omega)) (fun b hb => by have := hb.1; omega)

theorem SameOn.of_two {S : Nat → Prop} {B : Nat} {w a b : World} (h1 : Below B w a) (h2 : Below B w b) (hS : ∀ b, S b → b < B) : SameOn S a b :=
  fun k hk => (h2.block k (hS k hk)).trans (h1.block k (hS k hk)).symm
theorem subLoop_start {us ks : List T} {xs : List Value} {B : Nat} {w wc : World} {k : Int} {nm : ByteArray} {n : Int} {f : Bool} {ns : List ByteArray} {ms : List Bool} {A1 A2 A3 A4 : Option Addr} {c1 c2 c3 c4 : Nat} {w1 : World}
    (hm : SubMid B w wc k nm n f ns ms A1 A2 A3 c1 c2 ks.length c3) (ho : w1.ownsRow wc.heap.size 26 7 (.slice A4 ks.length c4) ks.length xs) (hb : Below wc.heap.size wc w1) :
    SubLoop us ks xs B w wc k nm n f ns ms A1 A2 A4 c1 c2 c4 (w1.setCell ⟨B, 6, none⟩ (.slice A4 ks.length c4)) 0 [] := by
  have hc := hm.size
  have hz := hb.size
  refine ⟨(hm.below.trans (hb.mono (by omega))).setCell (by simp) _, by simpa using hz, (hm.t.below hb (by omega)).set_ 6 _, (hm.r.below hb (by omega)).far (by simp) _, ?_, rfl, by simp [TysR, substL], ?_⟩
  · simpa using ownsRow_setCell_below ho (a := ⟨B, 6, none⟩) (by simp; omega) _
  · intro b hb'
    exact (Below.heap_setCell _ _ _ _ (by simp; omega)).trans (hb.block b hb'.2)

attribute [local go_sem ↓] Go.wp_at_zero Go.wp_at_succ
set_option maxHeartbeats 8000000 in
theorem subst_rest (N : Nat) (us : List T) (va : Value) (hou : T.okL us)
    (ih : ∀ (t : T) (cs : List Value) (w : World) (S S' : Nat → Prop), t.sz < N → t.ok → TyR w S t cs → RowT w S' va us → Old S w → Old S' w → Calls Try.prog 15 #[.agg cs.toArray, va] w (TRes w (subst us t)))
    {k : Int} {nm : ByteArray} {n : Int} {f : Bool} {ns : List ByteArray} {ms : List Bool} {ks : List T} (cs : List Value) (w : World) (S S' : Nat → Prop)
    (hN : (T.mk k nm n f ns ms ks).sz < N + 1) (hok : (T.mk k nm n f ns ms ks).ok) (hr : TyR w S (.mk k nm n f ns ms ks) cs) (ha : RowT w S' va us) (hS : Old S w) (hS' : Old S' w)
    (hc : (k == 9) = false ∨ ((k == 9) = true ∧ n < 0) ∨ ((k == 9) = true ∧ 0 ≤ n ∧ (us.length : Int) ≤ n)) :
    Calls Try.prog 15 #[.agg cs.toArray, va] w (TRes w (.mk k nm n f ns ms (substL us ks))) := by
  obtain ⟨A1, c1, A2, c2, A3, c3, rfl, r1, r2, r3⟩ := hr.forms
  clear hr
  simp only [T.kd, T.nm, T.n, T.fl, T.ns, T.ms, T.ks] at *
  obtain ⟨Aa, capa, rfl, hla⟩ := ha.form
  have HS := Lib.hid hS
  have HS' := Lib.hid hS'
  have R1 := Lib.hid r1
  have R2 := Lib.hid r2
  have R3 := Lib.hid r3
  have HA := Lib.hid ha
  have HSZ := Lib.hid hN
  have IH := Lib.hid ih
  have HOU := Lib.hid hou
  simp only [T.ok] at hok
  obtain ⟨-, -, -, -, ho1, ho2, ho3, ho4⟩ := hok
  have HO1 := Lib.hid ho1
  have HO2 := Lib.hid ho2
  have HO3 := Lib.hid ho3
  have HO4 := Lib.hid ho4
  clear hS hS' r1 r2 r3 ha hN ih hou ho1 ho2 ho3 ho4
  go_enter Try.func15, Try.ntmps15
  go_upto_region 1 with fail
  go_cut [21] (fun s W => s = .bool false ∧ Hid (Below w.heap.size w W ∧ w.heap.size + 2 ≤ W.heap.size ∧ Blk W w.heap.size 26 #[.int .i64 k, .string nm, .int .i64 n, .bool f, .slice A1 ns.length c1, .slice A2 ms.length c2, .slice A3 ks.length c3] ∧
          Blk W (w.heap.size + 1) 26 #[.int .i64 0, .string ⟨#[]⟩, .int .i64 0, .bool false, .slice none 0 0, .slice none 0 0, .slice none 0 0]))
  case first =>
    rcases hc with h | ⟨h, h'⟩ | ⟨h, h', h''⟩
    all_goals
      go_wp2_with fail
      go_meet
      refine ⟨by first | rfl | (simp; omega), ((Below.refl _ _).alloc (Nat.le_refl _) _).alloc (by simp) _, by simp, (Blk.new _ _ _).alloc _, ?_⟩
      simpa using Blk.new (w.alloc _) _ _
  case rest =>
    obtain ⟨rfl, hcut2⟩ := hcut
    obtain ⟨hbW, hzW, hB1, hB2⟩ := hcut2.out
    obtain ⟨g0, g1, g2, g3, g4, g5, g6, gf⟩ := hB1.cells7
    have HB1 := Lib.hid hB1
    have HB2 := Lib.hid hB2
    clear hB1 hB2 hcut2 hc
    rename World => W
    go_upto_region 3 with fail
    go_cut [] (fun wc => ∃ B1 d1 B2 d2, Hid (SubMid w.heap.size w wc k nm n f ns ms B1 B2 A3 d1 d2 ks.length c3))
    case first =>
      go_region_with
        (first
          | (go_at_call 42
             refine (clone_strs _ S _ _ _ (R1.out.keep (SameOn.of_below hbW.drew HS.out)) (HS.out.below hbW.drew) (one_strs _) HO1.out).mono ?_
             rintro e w1 ⟨v1, rfl, ho1, -, hb1⟩
             obtain ⟨B1, d1, rfl⟩ := own_form ho1
             have hz1 := hb1.size
             simp at hz1
             have hbW1 : Below w.heap.size w w1 := hbW.drew.trans (hb1.mono (by simp; omega))
             have HC1 := Lib.hid (HB1.out.drew.below hb1 (by simp; omega))
             have HC2 := Lib.hid (HB2.out.drew.below hb1 (by simp; omega))
             obtain ⟨k0, k1, k2, k3, k4, k5, k6, kf⟩ := HC1.out.cells7
             have hlt1 : w.heap.size + 2 ≤ w1.heap.size := by omega)
          | (go_at_call 43
             refine (clone_bools _ S _ _ _ (R2.out.keep (SameOn.of_below hbW1 HS.out)) (HS.out.below hbW1) (one_bools _) (by rw [Nat.mul_one]; exact HO2.out)).mono ?_
             rintro e w2 ⟨v2, rfl, ho2, -, hb2⟩
             obtain ⟨B2, d2, rfl⟩ := own_form ho2
             have hz2 := hb2.size
             have hbW2 : Below w.heap.size w w2 := hbW1.trans (hb2.mono (by omega))
             have HD1 := Lib.hid (HC1.out.below hb2 (by omega))
             have HD2 := Lib.hid (HC2.out.below hb2 (by omega))
             obtain ⟨m0, m1, m2, m3, m4, m5, m6, mf⟩ := HD1.out.cells7))
      all_goals
        go_wp2_with fail
        go_meet
        exact ⟨B1, d1, B2, d2, subMid_mk hbW2 (by omega) HD1.out HD2.out (by simpa using hzW) hz1 ho1 hb2 ho2⟩
    case rest =>
      obtain ⟨B1, d1, B2, d2, HMID⟩ := hcut
      clear HB1 HB2 g0 g1 g2 g3 g4 g5 g6 gf hbW hzW
      obtain ⟨g0, g1, g2, g3, g4, g5, g6, gf⟩ := HMID.out.t.cells7
      have hzc := HMID.out.size
      have hbc := HMID.out.below
      obtain ⟨xs, hx1, hx2⟩ := R3.out.keep (SameOn.of_below hbc HS.out) (fun _ h => h)
      have HX1 := Lib.hid hx1
      have HONE : Hid (∀ u ∈ xs, u.oneCell' = true) := tysR_one hx2
      have HXL := Lib.hid hx2.len
      have hkl : ks.length ≤ 9223372036854775807 := by obtain ⟨_, _, _, h⟩ := hx1.form; exact h
      have HX2 := Lib.hid hx2
      clear hx1 hx2
      go_wp2_with fail
      refine (clone_types _ S _ _ _ HX1.out (HS.out.below hbc) HONE.out HO3.out).mono ?_
      rintro e w1 ⟨v1, rfl, ho1, -, hb1⟩
      obtain ⟨A4, c4, rfl⟩ := own_form ho1
      have hz1 := hb1.size
      have HB1 := Lib.hid (HMID.out.t.below hb1 (by omega))
      obtain ⟨m0, m1, m2, m3, m4, m5, m6, mf⟩ := HB1.out.cells7
      have HSTART : Hid (SubLoop us ks xs w.heap.size w wc k nm n f ns ms B1 B2 A4 d1 d2 c4 (w1.setCell ⟨w.heap.size, 6, none⟩ (.slice A4 ks.length c4)) 0 []) :=
        subLoop_start HMID.out ho1 hb1
      clear ho1 hb1 g0 g1 g2 g3 g4 g5 g6 gf
      go_wp2_with fail
      clear m0 m1 m2 m3 m4 m5 m6 mf HB1
      go_loopg [43] ks.length (fun m i wr => ∃ (j : Nat) (ys : List Value), m = ks.length - j ∧ j ≤ ks.length ∧ i = .int .i64 j ∧ Hid (SubLoop us ks xs w.heap.size w wc k nm n f ns ms B1 B2 A4 d1 d2 c4 wr j ys))
      case atStart => exact ⟨0, [], by simp, by omega, rfl, HSTART⟩
      case round =>
        obtain ⟨j, ys, rfl, hj, rfl, HL⟩ := hrel
        clear HSTART
        have hzr := HL.out.size
        have hbr := HL.out.below
        by_cases hlt : j < ks.length
        · obtain ⟨E1, e1, E2, e2, E3, e3, hd, hty⟩ := HX2.out.split hlt
          obtain ⟨g, cap, hv, _⟩ := HL.out.own.form (by omega)
          cases hv
          have hg := HL.out.own.lt g rfl
          have hcell := HL.out.own
          rw [hd] at hcell
          obtain ⟨g0, g1, g2, g3, g4, g5, g6, gf⟩ := own_cells7 hcell HL.out.ylen
          obtain ⟨m0, m1, m2, m3, m4, m5, m6, mf⟩ := HL.out.t.cells7
          have HD := Lib.hid hd
          have HTY := Lib.hid hty
          have HCELL := Lib.hid hcell
          clear hd hty hcell
          have hgl := hg.2
          have hwl : w.heap.size < wr.heap.size := by omega
          have hxs : SameOn S wc ((wr.alloc (.cells #[.int .i64 ks[j].kd, .string ks[j].nm, .int .i64 ks[j].n, .bool ks[j].fl, .slice E1 ks[j].ns.length e1, .slice E2 ks[j].ms.length e2, .slice E3 ks[j].ks.length e3] 26)).drew) :=
            SameOn.of_two hbc ((hbr.alloc (by omega) _).drew) HS.out
          have HXS := Lib.hid hxs
          have hbx : Below w.heap.size w ((wr.alloc (.cells #[.int .i64 ks[j].kd, .string ks[j].nm, .int .i64 ks[j].n, .bool ks[j].fl, .slice E1 ks[j].ns.length e1, .slice E2 ks[j].ms.length e2, .slice E3 ks[j].ks.length e3] 26)).drew) := (hbr.alloc (by omega) _).drew
          have HBX := Lib.hid hbx
          clear hxs hbx
          have hj3 : (j : Int) < (ks.length : Int) := by omega
          have hj4 : (0 : Int) ≤ (j : Int) := by omega
          go_wp2_with fail
          go_region_with
            (first
              | (go_at_call 15
                 refine (IH.out ks[j] [.int .i64 ks[j].kd, .string ks[j].nm, .int .i64 ks[j].n, .bool ks[j].fl, .slice E1 ks[j].ns.length e1, .slice E2 ks[j].ms.length e2, .slice E3 ks[j].ks.length e3] _ S S' (by have := HSZ.out; rw [sz_mk] at this; have := szL_mem hlt; omega) (okL_at HO4.out hlt) (HTY.out.keep HXS.out (fun _ h => h)) (HA.out.keep (SameOn.of_below HBX.out HS'.out) (fun _ h => h)) (HS.out.below HBX.out) (HS'.out.below HBX.out)).mono ?_
                 rintro e w2 h2
                 obtain ⟨F1, f1, F2, f2, F3, f3, rfl, ht2, hb2⟩ := h2.forms
                 have hal : Below wr.heap.size wr w2 := ((Below.refl _ _).alloc (Nat.le_refl _) _).drew.trans (hb2.mono (by simp))
                 have hcell2 := own_below HCELL.out hal
                 obtain ⟨p0, p1, p2, p3, p4, p5, p6, pf⟩ := own_cells7 hcell2 HL.out.ylen
                 obtain ⟨q0, q1, q2, q3, q4, q5, q6, qf⟩ := (HL.out.t.below hal HL.out.t.lt).cells7
                 have HSTEP := Lib.hid (subLoop_step hzc hlt HL.out HD.out ((Below.refl _ _).drew.trans hb2) (ht2.keep (SameOn.refl _ _) (fun _ h => h)) rfl)
                 clear h2 ht2 hb2 hal hcell2)
              | fail)
          all_goals
            go_wp2_with fail
            go_roundg (ks.length - (j + 1))
            case measure => omega
            case rel => exact ⟨j + 1, _, rfl, by omega, by go_num, HSTEP⟩
        · obtain rfl : j = ks.length := by omega
          have hlx := HL.out.own.1
          obtain ⟨m0, m1, m2, m3, m4, m5, m6, mf⟩ := HL.out.t.cells7
          obtain ⟨n0, n1, n2, n3, n4, n5, n6, nf⟩ := HL.out.r.cells7
          clear hlt hj hlx
          go_wp2_with fail
          refine bodyPost_ret (v := .agg #[.int .i64 k, .string nm, .int .i64 n, .bool f, .slice B1 ns.length d1, .slice B2 ms.length d2, .slice A4 ks.length c4]) (by simp [results, Try.results15, go_sem, n0, n1, n2, n3, n4, n5, n6]) rfl ⟨_, rfl, ?_, ?_⟩
          · refine subLoop_end HMID.out HL.out HXL.out ?_ (by simp)
            repeat (refine SameOn.set_ ?_ (by simp) _)
            exact SameOn.refl _ _
          · repeat (refine Below.setCell ?_ (by simp) _)
            exact hbr
end Go.Proofs.Ytanhdklaponekaa
