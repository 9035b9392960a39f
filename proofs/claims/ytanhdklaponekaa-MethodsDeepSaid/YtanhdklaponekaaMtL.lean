/- methods.looked. -/
import Derived.Test.YtanhdklaponekaaWdU
namespace Go.Proofs.Ytanhdklaponekaa
open Go Go.RowKit

def lookedP (U : T → T) (t : T) : T × Bool :=
  if (U t).kd = 10 then (match (U t).ks with
    | [] => (t, false)
    | k :: _ => if (U k).kd = 10 ∨ (U k).kd = 15 ∨ (U k).kd = 9 then (t, false) else (k, true)) else (t, false)

theorem TyR.row3 {w : World} {S : Nat → Prop} {t : T} {v0 v1 v2 v3 v4 v5 v6 : Value} (h : TyR w S t [v0, v1, v2, v3, v4, v5, v6]) : RowT w S v6 t.ks := by
  obtain ⟨A1, c1, A2, c2, A3, c3, e, -, -, hk⟩ := h.forms
  simp only [List.cons.injEq] at e
  rw [e.2.2.2.2.2.2.1]
  exact hk
theorem TyR.row1 {w : World} {S : Nat → Prop} {t : T} {v0 v1 v2 v3 v4 v5 v6 : Value} (h : TyR w S t [v0, v1, v2, v3, v4, v5, v6]) : Row w S 1 v4 t.ns.length (t.ns.map .string) := by
  obtain ⟨A1, c1, A2, c2, A3, c3, e, h4, -, -⟩ := h.forms
  simp only [List.cons.injEq] at e
  rw [e.2.2.2.2.1]
  exact h4
theorem TyR.row2 {w : World} {S : Nat → Prop} {t : T} {v0 v1 v2 v3 v4 v5 v6 : Value} (h : TyR w S t [v0, v1, v2, v3, v4, v5, v6]) : Row w S 1 v5 t.ms.length (t.ms.map .bool) := by
  obtain ⟨A1, c1, A2, c2, A3, c3, e, -, h5, -⟩ := h.forms
  simp only [List.cons.injEq] at e
  rw [e.2.2.2.2.2.1]
  exact h5
/-- a type and a flag; the type in the blocks of S or in new ones -/
def TFRes (w : World) (S : Nat → Prop) (x : T × Bool) (e : Ending) (w' : World) : Prop :=
  ∃ cs : List Value, e = .returned (.tuple #[.agg cs.toArray, .bool x.2]) ∧ TyR w' (fun b => S b ∨ New w w' b) x.1 cs ∧ x.1.ok ∧ Below w.heap.size w w'
theorem TFRes.mk_ {w w' wx : World} {S S1 : Nat → Prop} {x : T × Bool} {cs : List Value} {v : Value} (hv : v = .tuple #[.agg cs.toArray, .bool x.2]) (ht : TyR wx S1 x.1 cs) (hs : SameOn S1 wx w') (hS : ∀ b, S1 b → S b ∨ New w w' b)
    (hok : x.1.ok) (hb : Below w.heap.size w w') : TFRes w S x (.returned v) w' := ⟨cs, by rw [hv], ht.keep hs hS, hok, hb⟩

theorem und_ok {L : List Nd} (h : ∀ d ∈ L, d.ok) : ∀ {n : Nat} {t r : T}, t.ok → undr L n t = some r → r.ok
  | 0, t, r, _, e => by simp [undr] at e
  | n + 1, t, r, ht, e => by
    unfold undr at e
    split at e
    · split at e
      · simp only [Option.some.injEq] at e; rw [← e]; exact ht
      · rename_i d hd
        exact und_ok h (h d (look_mem hd)).2.1 e
    · simp only [Option.some.injEq] at e; rw [← e]; exact ht

theorem fieldK (c0 c1 c2 c3 c4 c5 c6 : Value) (w : World) : (Instr.field 26 (.agg #[c0, c1, c2, c3, c4, c5, c6]) 0).run Try.prog w = .ok c0 w := by kernel_rfl
set_option maxHeartbeats 4000000 in
set_option maxRecDepth 100000 in
theorem looked_calls {L : List Nd} {U : T → T} {g : Nat} {w : World} {S S' : Nat → Prop} {t : T} {cs : List Value} (h : WC w S g L) (hU : UndF L U) (ht : TyR w S' t cs) (hS' : Old S' w) (hok : t.ok) :
    Calls Try.prog 66 #[.pointer (some ⟨g, 0, none⟩), .agg cs.toArray] w (TFRes w S' (lookedP U t)) := by
  obtain ⟨A1, c1, A2, c2, A3, c3, rfl, -⟩ := ht.forms
  have HT := Lib.hid ht
  have H := Lib.hid h
  have HU := Lib.hid hU
  have HK := Lib.hid hok
  have HS := Lib.hid hS'
  obtain ⟨r, hr⟩ : ∃ r, lookedP U t = r := ⟨_, rfl⟩
  rw [hr]
  have HR := Lib.hid hr
  clear ht h hU hok hS' hr
  go_enter Try.func66, Try.ntmps66
  go_wp2_with fail
  obtain ⟨n, hn⟩ := HU.out t
  refine (wunder_calls (L := L) (S := S) (S' := S') (t := t) (cs := [.int .i64 t.kd, .string t.nm, .int .i64 t.n, .bool t.fl, .slice A1 t.ns.length c1, .slice A2 t.ms.length c2, .slice A3 t.ks.length c3]) ((H.out.alloc _).alloc _) (HT.out.keep (SameOn.of_below ((below_al _ _).alloc (by simp) _) HS.out) (fun _ h => h)) ((HS.out.alloc _).alloc _) HK.out hn).mono ?_
  rintro e w1 ⟨h1, hu⟩
  obtain ⟨B1, d1, B2, d2, B3, d3, rfl, hty, hb1⟩ := h1.forms
  have hz1 := hb1.size
  simp at hz1
  have HX : Hid (Below w.heap.size w w1) := ((below_al _ _).alloc (by simp) _).trans (hb1.mono (by simp; omega))
  have HB1 : Hid (Blk w1 w.heap.size 26 #[.int .i64 t.kd, .string t.nm, .int .i64 t.n, .bool t.fl, .slice A1 t.ns.length c1, .slice A2 t.ms.length c2, .slice A3 t.ks.length c3]) := ((Blk.new w _ _).alloc _).below hb1 (by simp; omega)
  have HB2 : Hid (Blk w1 (w.heap.size + 1) 26 #[.int .i64 0, .string ⟨#[]⟩, .int .i64 0, .bool false, .slice none 0 0, .slice none 0 0, .slice none 0 0]) := by
    refine Blk.below ?_ hb1 (by simp)
    simpa using Blk.new (w.alloc _) _ _
  have HTY := Lib.hid hty
  have HUO := Lib.hid hu
  clear h1 hb1 hty hu hn
  obtain ⟨k0, k1, k2, k3, k4, k5, k6, kf⟩ := HB1.out.cells7
  obtain ⟨n0, n1, n2, n3, n4, n5, n6, nf⟩ := HB2.out.cells7
  have hl1 : w.heap.size < w1.heap.size := by omega
  have hl2 : w.heap.size + 1 < w1.heap.size := by omega
  obtain ⟨u, hu⟩ : ∃ u, U t = u := ⟨_, rfl⟩
  rw [hu] at HTY HUO ⊢
  have HUE := Lib.hid hu
  clear hu
  by_cases h10 : u.kd = 10
  case neg =>
    have hb10 : (u.kd != 10) = true := by simpa using h10
    have HRR : Hid (r = (t, false)) := by rw [← HR.out, lookedP, HUE.out, if_neg h10]; rfl
    clear h10
    go_wp2_with fail
    refine bodyPost_ret (v := .tuple #[.agg #[.int .i64 t.kd, .string t.nm, .int .i64 t.n, .bool t.fl, .slice A1 t.ns.length c1, .slice A2 t.ms.length c2, .slice A3 t.ks.length c3], .bool false]) (by simp [results, Try.results66, go_sem, n0, n1, n2, n3, n4, n5, n6, hl2]) rfl ?_
    rw [HRR.out]
    refine TFRes.mk_ rfl HT.out (SameOn.of_below ?_ HS.out) (fun _ h => .inl h) HK.out ?_
    all_goals
      refine Below.alloc ?_ (by simp; omega) _
      repeat (refine Below.setCell ?_ (by simp) _)
      exact HX.out
  case pos =>
    have hb10 : (u.kd != 10) = false := by simpa using h10
    by_cases hks : u.ks = []
    case pos =>
      have hlen : u.ks.length = 0 := by rw [hks]; rfl
      have HRR : Hid (r = (t, false)) := by rw [← HR.out, lookedP, HUE.out, if_pos h10, hks]; rfl
      clear h10 hks
      go_wp2_with fail
      refine bodyPost_ret (v := .tuple #[.agg #[.int .i64 t.kd, .string t.nm, .int .i64 t.n, .bool t.fl, .slice A1 t.ns.length c1, .slice A2 t.ms.length c2, .slice A3 t.ks.length c3], .bool false]) (by simp [results, Try.results66, go_sem, n0, n1, n2, n3, n4, n5, n6, hl2]) rfl ?_
      rw [HRR.out]
      refine TFRes.mk_ rfl HT.out (SameOn.of_below ?_ HS.out) (fun _ h => .inl h) HK.out ?_
      all_goals
        refine Below.alloc ?_ (by simp; omega) _
        repeat (refine Below.setCell ?_ (by simp) _)
        exact HX.out
    case neg =>
      obtain ⟨k, rest, hks⟩ := List.exists_cons_of_ne_nil hks
      have h0 : 0 < u.ks.length := by rw [hks]; simp
      have hke : u.ks[0] = k := by simp [hks]
      have hrow : RowT w1 (New ((w.alloc (.cells #[.int .i64 t.kd, .string t.nm, .int .i64 t.n, .bool t.fl, .slice A1 t.ns.length c1, .slice A2 t.ms.length c2, .slice A3 t.ks.length c3] 26)).alloc (.cells #[.int .i64 0, .string ⟨#[]⟩, .int .i64 0, .bool false, .slice none 0 0, .slice none 0 0, .slice none 0 0] 26)) w1) (.slice B3 u.ks.length d3) u.ks := HTY.out.row3
      have hnew : ∀ b, New ((w.alloc (.cells #[.int .i64 t.kd, .string t.nm, .int .i64 t.n, .bool t.fl, .slice A1 t.ns.length c1, .slice A2 t.ms.length c2, .slice A3 t.ks.length c3] 26)).alloc (.cells #[.int .i64 0, .string ⟨#[]⟩, .int .i64 0, .bool false, .slice none 0 0, .slice none 0 0, .slice none 0 0] 26)) w1 b → w.heap.size + 2 ≤ b ∧ b < w1.heap.size := fun b hb => ⟨by have := hb.1; simp at this; omega, hb.2⟩
      have hrow2 : RowT w1 (fun b => w.heap.size + 2 ≤ b ∧ b < w1.heap.size) (.slice B3 u.ks.length d3) u.ks := hrow.keep (SameOn.refl _ _) hnew
      clear hrow hnew
      obtain ⟨b, o, cap, E1, e1, E2, e2, E3, e3, hv, hSb, ⟨g0, g1, g2, g3, g4, g5, g6⟩, hkr⟩ := hrow2.at_ h0
      cases hv
      simp only [hke] at g0 g1 g2 g3 g4 g5 g6 hkr
      simp only [Nat.zero_mul, Nat.add_zero] at g0 g1 g2 g3 g4 g5 g6
      have hbl := hSb.2
      have hln : ¬ u.ks.length = 0 := by omega
      have hln2 : (0 : Int) < (u.ks.length : Int) := by omega
      have hko : k.ok := by
        have := HUO.out
        obtain ⟨k', nm, n, f, ns, ms, ks⟩ := u
        simp only [T.ks] at hks
        rw [hks] at this
        exact this.2.2.2.2.2.2.2.1
      have HKR := Lib.hid hkr
      have HKO := Lib.hid hko
      have HSB := Lib.hid hSb
      obtain ⟨m, hm⟩ := HU.out k
      have HM := Lib.hid hm
      have HR2 : Hid (r = if (U k).kd = 10 ∨ (U k).kd = 15 ∨ (U k).kd = 9 then (t, false) else (k, true)) := by rw [← HR.out, lookedP, HUE.out, if_pos h10, hks]; exact rfl
      clear hkr hko hSb hm h10 hks hke hrow2
      go_wp2_with fail
      refine (wunder_calls (L := L) (S := S) (S' := fun b => w.heap.size + 2 ≤ b ∧ b < w1.heap.size) (t := k) (cs := [.int .i64 k.kd, .string k.nm, .int .i64 k.n, .bool k.fl, .slice E1 k.ns.length e1, .slice E2 k.ms.length e2, .slice E3 k.ks.length e3]) ((H.out.below HX.out).alloc _) (HKR.out.keep (SameOn.of_below (below_al _ _) (fun b hb => hb.2)) (fun _ h => h)) (fun b hb => by have := hb.2; simp; omega) HKO.out HM.out).mono ?_
      rintro e w2 ⟨h2, -⟩
      obtain ⟨F1, f1, F2, f2, F3, f3, rfl, -, hb2⟩ := h2.forms
      have hz2 := hb2.size
      simp at hz2
      have HX2 : Hid (Below w1.heap.size w1 w2) := (below_al _ _).trans (hb2.mono (by simp))
      have HC1 := Lib.hid (HB1.out.below HX2.out hl1)
      have HC2 := Lib.hid (HB2.out.below HX2.out hl2)
      have HC3 : Hid (Blk w2 w1.heap.size 26 #[.int .i64 u.kd, .string u.nm, .int .i64 u.n, .bool u.fl, .slice B1 u.ns.length d1, .slice B2 u.ms.length d2, .slice (some ⟨b, o, none⟩) u.ks.length d3]) := (Blk.new w1 _ _).below hb2 (by simp)
      clear h2 hb2
      clear k0 k1 k2 k3 k4 k5 k6 kf n0 n1 n2 n3 n4 n5 n6 nf
      obtain ⟨k0, k1, k2, k3, k4, k5, k6, kf⟩ := HC1.out.cells7
      obtain ⟨n0, n1, n2, n3, n4, n5, n6, nf⟩ := HC2.out.cells7
      obtain ⟨m0, m1, m2, m3, m4, m5, m6, mf⟩ := HC3.out.cells7
      have q0 := (cell_below HX2.out (o := o) hbl).trans g0
      have q1 := (cell_below HX2.out (o := o + 1) hbl).trans g1
      have q2 := (cell_below HX2.out (o := o + 2) hbl).trans g2
      have q3 := (cell_below HX2.out (o := o + 3) hbl).trans g3
      have q4 := (cell_below HX2.out (o := o + 4) hbl).trans g4
      have q5 := (cell_below HX2.out (o := o + 5) hbl).trans g5
      have q6 := (cell_below HX2.out (o := o + 6) hbl).trans g6
      clear g0 g1 g2 g3 g4 g5 g6
      have hBX : Hid (Below w.heap.size w w2) := HX.out.trans (HX2.out.mono (by omega))
      obtain ⟨kk, hkk⟩ : ∃ kk, (U k).kd = kk := ⟨_, rfl⟩
      rw [hkk] at HR2 ⊢
      clear hkk
      have hfk := fieldK
      by_cases hc : kk = 10 ∨ kk = 15 ∨ kk = 9
      · have HRR : Hid (r = (t, false)) := by rw [HR2.out, if_pos hc]; exact rfl
        clear HR2
        rcases hc with rfl | rfl | rfl
        all_goals
          go_wp2_with fail
          refine bodyPost_ret (v := .tuple #[.agg #[.int .i64 t.kd, .string t.nm, .int .i64 t.n, .bool t.fl, .slice A1 t.ns.length c1, .slice A2 t.ms.length c2, .slice A3 t.ks.length c3], .bool false]) (by simp [results, Try.results66, go_sem, n0, n1, n2, n3, n4, n5, n6]) rfl ?_
          rw [HRR.out]
          refine TFRes.mk_ rfl HT.out (SameOn.of_below ?_ HS.out) (fun _ h => .inl h) HK.out ?_
          all_goals
            repeat (refine Below.setCell ?_ (by simp) _)
            exact hBX.out
      · have HRR : Hid (r = (k, true)) := by rw [HR2.out, if_neg hc]; exact rfl
        have hc1 : (kk == 10) = false := by simp; omega
        have hc2 : (kk == 15) = false := by simp; omega
        have hc3 : (kk == 9) = false := by simp; omega
        clear HR2 hc
        go_wp2_with fail
        refine bodyPost_ret (v := .tuple #[.agg #[.int .i64 k.kd, .string k.nm, .int .i64 k.n, .bool k.fl, .slice E1 k.ns.length e1, .slice E2 k.ms.length e2, .slice E3 k.ks.length e3], .bool true]) (by simp [results, Try.results66, go_sem, n0, n1, n2, n3, n4, n5, n6]) rfl ?_
        rw [HRR.out]
        refine TFRes.mk_ rfl (HKR.out.keep (SameOn.of_below HX2.out (fun b hb => hb.2)) (fun _ h => h)) ?_ (fun b hb => .inr ⟨by omega, by simp; omega⟩) HKO.out ?_
        · repeat (refine SameOn.set_ ?_ (by simp) _)
          exact SameOn.refl _ _
        · repeat (refine Below.setCell ?_ (by simp) _)
          exact hBX.out
end Go.Proofs.Ytanhdklaponekaa
