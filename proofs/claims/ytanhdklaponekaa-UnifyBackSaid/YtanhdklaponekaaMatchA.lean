/- unify.Match at a type parameter. -/
import Derived.Test.YtanhdklaponekaaMatchP
namespace Go.Proofs.Ytanhdklaponekaa
open Go Go.RowKit

theorem Blk.two (w : World) (t : TypeId) (a b : Array Value) : Blk ((w.alloc (.cells a t)).alloc (.cells b t)) w.heap.size t a ∧ Blk ((w.alloc (.cells a t)).alloc (.cells b t)) (w.heap.size + 1) t b :=
  ⟨(Blk.new w t a).alloc _, by simpa using Blk.new (w.alloc (.cells a t)) t b⟩
theorem below_two (w : World) (o p : Obj) : Below w.heap.size w ((w.alloc o).alloc p) := ((Below.refl _ _).alloc (Nat.le_refl _) _).alloc (by simp) _

theorem grown_set {w b : World} {g : Nat} (h : w.grownBy b (some g)) (o : Nat) (u : Value) : w.grownBy (b.setCell ⟨g, o, none⟩ u) (some g) :=
  ⟨h.os, h.tape, h.output, by simpa [World.setCell] using h.size, fun i hi hne => (Below.heap_setCell b ⟨g, o, none⟩ u i (fun e => hne (by rw [e]))).trans (h.block i hi hne)⟩

theorem MatchRes.set_ {m base g cap H0 : Nat} {SA : Nat → Prop} {w w2 : World} {us : List T} {ar : T} {r : Bool × List T} {ys zs : List Value} {x0 x1 x2 x3 x4 x5 x6 d0 d1 d2 d3 d4 d5 d6 : Value} {en : Ending}
    (hr : r = (true, us.set m ar)) (he : en = .returned (.bool true)) (hm : m < us.length)
    (hc : w.ownsRow base 26 7 (.slice (some ⟨g, 0, none⟩) us.length cap) us.length (ys ++ x0 :: x1 :: x2 :: x3 :: x4 :: x5 :: x6 :: zs)) (hy : ys.length = m * 7)
    (ht1 : TysR w SA (us.take m) ys) (ht3 : TysR w SA (us.drop (m + 1)) zs) (hA : Old SA w) (hnA : ¬ SA g) (hgl : g < w.heap.size) (hb : Below w.heap.size w w2)
    (h0 : w.heap.size ≤ H0) (hd : TyR w2 (fun b => H0 ≤ b ∧ b < w2.heap.size) ar [d0, d1, d2, d3, d4, d5, d6]) :
    MatchRes base g cap SA w r en (((((((w2.setCell ⟨g, m * 7, none⟩ d0).setCell ⟨g, m * 7 + 1, none⟩ d1).setCell ⟨g, m * 7 + 2, none⟩ d2).setCell ⟨g, m * 7 + 3, none⟩ d3).setCell ⟨g, m * 7 + 4, none⟩ d4).setCell ⟨g, m * 7 + 5, none⟩ d5).setCell ⟨g, m * 7 + 6, none⟩ d6) := by
  subst hr he
  have hS : ∀ (S : Nat → Prop), ¬ S g → SameOn S w2 (((((((w2.setCell ⟨g, m * 7, none⟩ d0).setCell ⟨g, m * 7 + 1, none⟩ d1).setCell ⟨g, m * 7 + 2, none⟩ d2).setCell ⟨g, m * 7 + 3, none⟩ d3).setCell ⟨g, m * 7 + 4, none⟩ d4).setCell ⟨g, m * 7 + 5, none⟩ d5).setCell ⟨g, m * 7 + 6, none⟩ d6) := by
    intro S hn
    repeat (refine SameOn.set_ ?_ hn _)
    exact SameOn.refl _ _
  have hset := own_set7 d0 d1 d2 d3 d4 d5 d6 (own_below hc hb) hy
  refine ⟨rfl, ?_, (ys ++ [d0, d1, d2, d3, d4, d5, d6]) ++ zs, by simpa using hset, tysR_set hm ?_ ?_ ?_⟩
  · have h1 := grown_of_below hb (some g)
    repeat (refine grown_set ?_ _ _)
    exact h1
  · exact (ht1.keep (SameOn.of_below hb hA) (fun _ h => h)).keep (hS _ hnA) (fun _ h => .inl h)
  · exact hd.keep (hS _ (fun h => by omega)) (fun b h => .inr ⟨by omega, by simpa using h.2⟩)
  · exact (ht3.keep (SameOn.of_below hb hA) (fun _ h => h)).keep (hS _ hnA) (fun _ h => .inl h)

set_option maxHeartbeats 4000000 in
attribute [local go_sem ↓] Go.wp_at_zero Go.wp_at_succ in
theorem match_param {m : Nat} {nm : ByteArray} {f : Bool} {ns : List ByteArray} {ms : List Bool} {ks : List T} {ar : T} {us : List T} {xs cs ds : List Value} {w : World} {S S' SA : Nat → Prop} {base g cap : Nat}
    (hm : m < us.length) (_hlim : us.length ≤ 1000000000000) (hp : TyR w S (.mk 9 nm m f ns ms ks) cs) (ha : TyR w S' ar ds) (hok : ar.ok) (hS' : Old S' w) (hA : Old SA w) (hnA : ¬ SA g)
    (ho : w.ownsRow base 26 7 (.slice (some ⟨g, 0, none⟩) us.length cap) us.length xs) (ht : TysR w SA us xs) :
    Calls Try.prog 11 #[.agg cs.toArray, .agg ds.toArray, .slice (some ⟨g, 0, none⟩) us.length cap] w (MatchRes base g cap SA w (atParam ar us[m] us m)) := by
  obtain ⟨A1, c1, A2, c2, A3, c3, rfl, -⟩ := hp.forms
  obtain ⟨D1, d1, D2, d2, D3, d3, rfl, -⟩ := ha.forms
  simp only [mk_kd, mk_nm, mk_n, mk_fl, mk_ns, mk_ms, mk_ks]
  obtain ⟨U1, e1, U2, e2, U3, e3, hxs, hyl, hu, ht1, ht3⟩ := tysR_mid ht hm
  have hcell := ho
  rw [hxs] at hcell
  obtain ⟨g0, g1, g2, g3, g4, g5, g6, gf⟩ := own_cells7 hcell hyl
  have hgl := (ho.lt g rfl).2
  have H := Lib.hid ha
  have HS' := Lib.hid hS'
  have HA := Lib.hid hA
  have HO := Lib.hid ho
  have HT := Lib.hid ht
  have HOK := Lib.hid hok
  have HC := Lib.hid hcell
  have HU := Lib.hid hu
  have HYL := Lib.hid hyl
  have HT1 := Lib.hid ht1
  have HT3 := Lib.hid ht3
  have HNA := Lib.hid hnA
  clear hp ha hok hS' hA hnA ho ht hxs hcell hyl hu ht1 ht3
  have hm0 : (0 : Int) ≤ (m : Int) := by omega
  have hm1 : (m : Int) < (us.length : Int) := by omega
  cases hod : oddB ar.kd
  case true =>
    have hres : atParam ar us[m] us m = (false, us) := by rw [atParam, if_pos hod]
    have HR := Lib.hid hres
    have HOD := Lib.hid hod
    clear hres hod
    go_enter Try.func11, Try.ntmps11
    go_wp2_with fail
    refine (odd_calls (t := ar) (S := S') ((H.out.al HS'.out _).al (HS'.out.alloc _) _) ((HS'.out.alloc _).alloc _)).mono ?_
    rintro e w1 ⟨rfl, hb1⟩
    rw [HOD.out]
    have hbw : Below w.heap.size w w1 := (below_two w _ _).trans (hb1.mono (by simp; omega))
    clear hb1
    go_wp2_with fail
    go_ret
    exact MatchRes.same' HR.out rfl HO.out HT.out HA.out hbw
  case false =>
    by_cases hz : us[m].kd = 0
    case pos =>
      have hres : atParam ar us[m] us m = (true, us.set m ar) := by rw [atParam, if_neg (by rw [hod]; simp), if_pos hz]
      have hzb : (us[m].kd == 0) = true := by simpa using hz
      have HR := Lib.hid hres
      have HOD := Lib.hid hod
      clear hres hod hz
      go_enter Try.func11, Try.ntmps11
      go_wp2_with fail
      refine (odd_calls (t := ar) (S := S') ((H.out.al HS'.out _).al (HS'.out.alloc _) _) ((HS'.out.alloc _).alloc _)).mono ?_
      rintro e w1 ⟨rfl, hb1⟩
      rw [HOD.out]
      have hbw : Below w.heap.size w w1 := (below_two w _ _).trans (hb1.mono (by simp; omega))
      obtain ⟨p0, p1, p2, p3, p4, p5, p6, pf⟩ := ((Blk.two w 26 #[.int .i64 9, .string nm, .int .i64 m, .bool f, .slice A1 ns.length c1, .slice A2 ms.length c2, .slice A3 ks.length c3] #[.int .i64 ar.kd, .string ar.nm, .int .i64 ar.n, .bool ar.fl, .slice D1 ar.ns.length d1, .slice D2 ar.ms.length d2, .slice D3 ar.ks.length d3]).1.below hb1 (by simp; omega)).cells7
      obtain ⟨q0, q1, q2, q3, q4, q5, q6, qf⟩ := ((Blk.two w 26 #[.int .i64 9, .string nm, .int .i64 m, .bool f, .slice A1 ns.length c1, .slice A2 ms.length c2, .slice A3 ks.length c3] #[.int .i64 ar.kd, .string ar.nm, .int .i64 ar.n, .bool ar.fl, .slice D1 ar.ns.length d1, .slice D2 ar.ms.length d2, .slice D3 ar.ks.length d3]).2.below hb1 (by simp)).cells7
      obtain ⟨n0, n1, n2, n3, n4, n5, n6, nf⟩ := own_cells7 (own_below HC.out hbw) HYL.out
      have hz1 := hb1.size
      simp at hz1
      have HBW := Lib.hid hbw
      clear hb1 g0 g1 g2 g3 g4 g5 g6 gf hbw
      go_wp2_with fail
      go_region_with
        (first
          | (go_at_call 36
             refine (uown_calls (t := ar) (S := S') HOK.out (H.out.keep (SameOn.of_below HBW.out.drew HS'.out) (fun _ h => h)) (HS'.out.below HBW.out.drew)).mono ?_
             rintro e w2 h2
             obtain ⟨F1, f1, F2, f2, F3, f3, rfl, ht2, hb2⟩ := h2.forms
             have hz2 := hb2.size
             simp at hz2
             have hbw2 : Below w.heap.size w w2 := HBW.out.drew.trans (hb2.mono (by simp; omega))
             obtain ⟨r0, r1, r2, r3, r4, r5, r6, rf⟩ := own_cells7 (own_below HC.out hbw2) HYL.out
             have HB2 := Lib.hid hbw2
             have HT2 := Lib.hid ht2
             have k0 := (cell_below hb2 (b := w.heap.size) (o := 2) (by simp; omega)).trans p2
             clear h2 ht2 hb2 hbw2)
          | fail)
      all_goals
        go_wp2_with fail
        go_ret
        exact MatchRes.set_ (H0 := w1.drew.heap.size) HR.out rfl hm HC.out HYL.out HT1.out HT3.out HA.out HNA.out hgl HB2.out (by simp; omega) HT2.out
    case neg =>
      have hres : atParam ar us[m] us m = (ident us[m] ar, us) := by rw [atParam, if_neg (by rw [hod]; simp), if_neg hz]
      have hzb : (us[m].kd == 0) = false := by simpa using hz
      have HR := Lib.hid hres
      have HOD := Lib.hid hod
      clear hres hod hz
      go_enter Try.func11, Try.ntmps11
      go_wp2_with fail
      refine (odd_calls (t := ar) (S := S') ((H.out.al HS'.out _).al (HS'.out.alloc _) _) ((HS'.out.alloc _).alloc _)).mono ?_
      rintro e w1 ⟨rfl, hb1⟩
      rw [HOD.out]
      have hbw : Below w.heap.size w w1 := (below_two w _ _).trans (hb1.mono (by simp; omega))
      obtain ⟨p0, p1, p2, p3, p4, p5, p6, pf⟩ := ((Blk.two w 26 #[.int .i64 9, .string nm, .int .i64 m, .bool f, .slice A1 ns.length c1, .slice A2 ms.length c2, .slice A3 ks.length c3] #[.int .i64 ar.kd, .string ar.nm, .int .i64 ar.n, .bool ar.fl, .slice D1 ar.ns.length d1, .slice D2 ar.ms.length d2, .slice D3 ar.ks.length d3]).1.below hb1 (by simp; omega)).cells7
      obtain ⟨q0, q1, q2, q3, q4, q5, q6, qf⟩ := ((Blk.two w 26 #[.int .i64 9, .string nm, .int .i64 m, .bool f, .slice A1 ns.length c1, .slice A2 ms.length c2, .slice A3 ks.length c3] #[.int .i64 ar.kd, .string ar.nm, .int .i64 ar.n, .bool ar.fl, .slice D1 ar.ns.length d1, .slice D2 ar.ms.length d2, .slice D3 ar.ks.length d3]).2.below hb1 (by simp)).cells7
      obtain ⟨n0, n1, n2, n3, n4, n5, n6, nf⟩ := own_cells7 (own_below HC.out hbw) HYL.out
      have HBW := Lib.hid hbw
      clear hb1 g0 g1 g2 g3 g4 g5 g6 gf hbw
      go_wp2_with fail
      go_region_with
        (first
          | (go_at_call 14
             refine (ident_calls (a := us[m]) (b := ar) (S := SA) (S' := S') (HU.out.keep (SameOn.of_below HBW.out.drew HA.out) (fun _ h => h)) (H.out.keep (SameOn.of_below HBW.out.drew HS'.out) (fun _ h => h)) (HA.out.below HBW.out.drew) (HS'.out.below HBW.out.drew)).mono ?_
             rintro e w2 ⟨rfl, hb2⟩
             have hbw2 : Below w.heap.size w w2 := HBW.out.drew.trans (hb2.mono (by have := HBW.out.size; simp; omega))
             have HB2 := Lib.hid hbw2
             clear hb2 hbw2)
          | fail)
      all_goals
        go_wp2_with fail
        go_ret
        exact MatchRes.same' HR.out rfl HO.out HT.out HA.out HB2.out
end Go.Proofs.Ytanhdklaponekaa
