/- recastlaw11.UnifyBack: the walk: true. -/
import Derived.Test.YtanhdklaponekaaUBack
namespace Go.Proofs.Ytanhdklaponekaa
open Go Go.RowKit

/-- two types in one new block: a []api.Type -/
theorem row_two {w : World} {S : Nat → Prop} {p q : T} {g : Nat} {cs ds : List Value} (hb : Blk w g 26 (cs ++ ds).toArray) (hp : TyR w S p cs) (hq : TyR w S q ds) (hg : S g) : RowT w S (.slice (some ⟨g, 0, none⟩) 2 2) [p, q] :=
  ⟨cs ++ ds, ⟨by simp [hp.len, hq.len], _, _, rfl, Nat.le_refl _, by unfold maxLen; omega, (fun e => by cases e), fun _ => ⟨g, 0, rfl, hg, fun j u hu => by rw [Nat.zero_add, hb.cell j]; simpa using hu⟩⟩,
    (TysR.one hp).append (TysR.one hq)⟩

/-- does the law look at these? -/
def lookAt (p q : T) (n : Int) : Bool := decide (inSum 60 [p, q] 0 ≤ 60) && (decide (0 ≤ n) && (decide (n ≤ 6) && !unk q))

theorem zero_ok : T.zero.ok := by
  unfold T.zero
  rw [T.ok]
  exact ⟨by unfold i64ok; omega, by unfold i64ok; omega, Nat.zero_le _, by simp, by simp, by simp, by simp, by simp [T.okL]⟩

/-- the boxes -/
def Boxes2 (w W : World) (p q : T) (A1 A2 A3 D1 D2 D3 : Option Addr) (c1 c2 c3 d1 d2 d3 : Nat) : Prop :=
  Below w.heap.size w W ∧ w.heap.size + 2 ≤ W.heap.size ∧
  Blk W w.heap.size 26 #[.int .i64 p.kd, .string p.nm, .int .i64 p.n, .bool p.fl, .slice A1 p.ns.length c1, .slice A2 p.ms.length c2, .slice A3 p.ks.length c3] ∧
  Blk W (w.heap.size + 1) 26 #[.int .i64 q.kd, .string q.nm, .int .i64 q.n, .bool q.fl, .slice D1 q.ns.length d1, .slice D2 q.ms.length d2, .slice D3 q.ks.length d3]
theorem Boxes2.step {w W W' : World} {p q : T} {A1 A2 A3 D1 D2 D3 : Option Addr} {c1 c2 c3 d1 d2 d3 : Nat} (h : Boxes2 w W p q A1 A2 A3 D1 D2 D3 c1 c2 c3 d1 d2 d3) (hb : Below W.heap.size W W') : Boxes2 w W' p q A1 A2 A3 D1 D2 D3 c1 c2 c3 d1 d2 d3 := by
  obtain ⟨h1, h2, h3, h4⟩ := h
  have := hb.size
  exact ⟨h1.trans (hb.mono (by omega)), by omega, h3.below hb h3.lt, h4.below hb h4.lt⟩

set_option maxHeartbeats 8000000 in
set_option maxRecDepth 100000 in
attribute [local go_sem ↓] Go.wp_at_zero Go.wp_at_succ in
theorem unifyBack_walk {p q : T} {n : Int} {cs ds : List Value} {w : World} {S S' : Nat → Prop} (hp : TyR w S p cs) (hq : TyR w S' q ds) (hpo : p.ok) (hqo : q.ok) (hS : Old S w) (hS' : Old S' w) :
    Calls Try.prog 3 #[.agg cs.toArray, .agg ds.toArray, .int .i64 n] w fun e w' => e = .returned (.bool true) ∧ Below w.heap.size w w' := by
  obtain ⟨A1, c1, A2, c2, A3, c3, rfl, -⟩ := hp.forms
  obtain ⟨D1, d1, D2, d2, D3, d3, rfl, -⟩ := hq.forms
  have HP := Lib.hid hp
  have HQ := Lib.hid hq
  have HPO := Lib.hid hpo
  have HQO := Lib.hid hqo
  have HS := Lib.hid hS
  have HS' := Lib.hid hS'
  clear hp hq hpo hqo hS hS'
  obtain ⟨lb, HLB⟩ : ∃ lb, Hid (lookAt p q n = lb) := ⟨_, rfl⟩
  go_enter Try.func3, Try.ntmps3
  go_upto_region 1 with fail
  go_cut [25] (fun s W => s = .bool (!lb) ∧ Hid (Boxes2 w W p q A1 A2 A3 D1 D2 D3 c1 c2 c3 d1 d2 d3))
  case first =>
    have h2 := Blk.two w 26 #[.int .i64 p.kd, .string p.nm, .int .i64 p.n, .bool p.fl, .slice A1 p.ns.length c1, .slice A2 p.ms.length c2, .slice A3 p.ks.length c3] #[.int .i64 q.kd, .string q.nm, .int .i64 q.n, .bool q.fl, .slice D1 q.ns.length d1, .slice D2 q.ms.length d2, .slice D3 q.ks.length d3]
    have HB0 : Hid (Boxes2 w _ p q A1 A2 A3 D1 D2 D3 c1 c2 c3 d1 d2 d3) := ⟨below_two _ _ _, by simp, h2.1, h2.2⟩
    clear h2
    go_wp2_with fail
    refine (in11_calls (ts := [p, q]) (S := fun b => S b ∨ S' b ∨ b = w.heap.size + 2) (row_two ?_ ((HP.out.keep (((SameOn.refl _ _).alloc HS.out _).alloc (HS.out.alloc _) _ |>.alloc ((HS.out.alloc _).alloc _) _) (fun _ h => .inl h))) ((HQ.out.keep (((SameOn.refl _ _).alloc HS'.out _).alloc (HS'.out.alloc _) _ |>.alloc ((HS'.out.alloc _).alloc _) _) (fun _ h => .inr (.inl h)))) (.inr (.inr rfl))) ?_).mono ?_
    · exact Blk.new_at _ _ _ (by simp)
    · intro b hb
      rcases hb with hb | hb | hb
      · have := HS.out b hb; simp; omega
      · have := HS'.out b hb; simp; omega
      · subst hb; simp
    rintro e w1 ⟨rfl, hb1⟩
    have HB1 := Lib.hid ((HB0.out.step ((Below.refl _ _).alloc (Nat.le_refl _) _)).step hb1)
    have hz1 := hb1.size
    simp at hz1
    obtain ⟨q0, q1, q2, q3, q4, q5, q6, qf⟩ := HB1.out.2.2.2.cells7
    clear hb1 HB0
    cases hin : decide (inSum 60 [p, q] 0 ≤ 60)
    case false =>
      obtain rfl : lb = false := by rw [← HLB.out, lookAt, hin, Bool.false_and]
      clear hin HLB
      go_wp2_with fail
      go_meet
      exact ⟨rfl, HB1⟩
    case true =>
      have HIN := Lib.hid hin
      clear hin
      by_cases h0 : n < 0
      · obtain rfl : lb = false := by rw [← HLB.out, lookAt, decide_eq_false (show ¬ 0 ≤ n by omega), Bool.false_and, Bool.and_false]
        clear HLB
        go_wp2_with fail
        go_meet
        exact ⟨rfl, HB1⟩
      by_cases h6 : 6 < n
      · obtain rfl : lb = false := by rw [← HLB.out, lookAt, decide_eq_false (show ¬ n ≤ 6 by omega), Bool.false_and, Bool.and_false, Bool.and_false]
        have h0' : 0 ≤ n := by omega
        clear HLB h0
        go_wp2_with fail
        go_meet
        exact ⟨rfl, HB1⟩
      have hl : lb = !unk q := by rw [← HLB.out, lookAt, HIN.out, decide_eq_true (show 0 ≤ n by omega), decide_eq_true (show n ≤ 6 by omega)]; rfl
      have h0' : 0 ≤ n := by omega
      have h6' : n ≤ 6 := by omega
      have HL := Lib.hid hl
      clear HLB h0 h6 hl
      go_wp2_with fail
      refine (unk_calls (t := q) (S := S') (HQ.out.keep (SameOn.of_below HB1.out.1 HS'.out) (fun _ h => h)) (HS'.out.below HB1.out.1)).mono ?_
      rintro e w2 ⟨rfl, hb2⟩
      have HB2 := Lib.hid (HB1.out.step hb2)
      clear hb2
      go_wp2_with fail
      go_meet
      exact ⟨by rw [HL.out]; simp; intro h; omega, HB2⟩
  case rest =>
    obtain ⟨rfl, HB⟩ := hcut
    rename World => W
    have hbW := HB.out.1
    cases hlb : lb
    case false =>
      subst hlb
      clear HLB
      go_wp2_with fail
      refine (awake11 _).mono ?_
      rintro e w1 ⟨rfl, hb1⟩
      have hbw : Below w.heap.size w w1 := hbW.trans (hb1.mono (by have := HB.out.2.1; omega))
      clear hb1
      go_wp2_with fail
      go_ret
      exact ⟨rfl, hbw⟩
    case true =>
      subst hlb
      have hla := HLB.out
      simp only [lookAt, Bool.and_eq_true, decide_eq_true_eq, Bool.not_eq_true'] at hla
      obtain ⟨-, h0, h6, huk⟩ := hla
      obtain ⟨m, rfl⟩ := Int.eq_ofNat_of_zero_le h0
      have hm6 : m ≤ 6 := by omega
      have HUK := Lib.hid huk
      clear HLB huk h6
      obtain ⟨zc, hmk, hzs, hzt⟩ := make_six m hm6 W
      have HZS := Lib.hid hzs
      have HZT := Lib.hid hzt
      clear hzs hzt
      have hzW := HB.out.2.1
      obtain ⟨g0, g1, g2, g3, g4, g5, g6, gf⟩ := HB.out.2.2.1.cells7
      obtain ⟨k0, k1, k2, k3, k4, k5, k6, kf⟩ := HB.out.2.2.2.cells7
      have hl1 : w.heap.size < W.heap.size := by omega
      have hl2 : w.heap.size + 1 < W.heap.size := by omega
      go_wp2_with fail
      have hBX : Below w.heap.size w (W.alloc (.cells zc 26)) := hbW.alloc (by omega) _
      have hmc := match_calls (p := p) (q := q) (us := List.replicate m T.zero) (xs := zc.toList) (w := W.alloc (.cells zc 26)) (S := S) (S' := S') (SA := fun _ => False) (base := w.heap.size) (g := W.heap.size) (cap := m)
        (by rw [List.length_replicate]; omega) (HP.out.keep (SameOn.of_below hBX HS.out) (fun _ h => h)) (HQ.out.keep (SameOn.of_below hBX HS'.out) (fun _ h => h)) HQO.out (HS.out.below hBX) (HS'.out.below hBX) (fun _ h => h.elim)
        (fun h => by have := HS.out _ h; omega) (fun h => by have := HS'.out _ h; omega) (fun h => h)
        (by rw [List.length_replicate]; exact own_of_blk (Blk.new _ _ _) (by omega) HZS.out (by unfold maxLen; omega)) (HZT.out _ _)
      rw [List.length_replicate] at hmc
      refine hmc.mono ?_
      clear hmc
      rintro e w2 ⟨rfl, hg2, ys, ho2, ht2⟩
      have hln : (matchT p q (List.replicate m T.zero)).2.length = m := by rw [matchT_len, List.length_replicate]
      rw [hln] at ho2
      obtain ⟨rs, HRS⟩ : ∃ rs, Hid (matchT p q (List.replicate m T.zero) = rs) := ⟨_, rfl⟩
      rw [HRS.out] at ht2 hln ⊢
      have hz2 := hg2.size
      simp at hz2
      have hb2 : Below w.heap.size w w2 := hBX.grown hg2 (by simp; omega) (fun k hk => by injection hk with hk; omega)
      have HB1 := Lib.hid ((HB.out.2.2.1.alloc (.cells zc 26)).grown hg2 (by simp; omega))
      have HB2 := Lib.hid ((HB.out.2.2.2.alloc (.cells zc 26)).grown hg2 (by simp; omega))
      have hok : T.okL rs.2 := by
        rw [← HRS.out]
        refine matchT_ok p q _ HQO.out (okL_iff.2 fun t ht => ?_)
        rw [(List.mem_replicate.1 ht).2]
        exact zero_ok
      have HUB : Hid (UB w w2 p q rs.2 rs.2 ys w.heap.size W.heap.size m A1 A2 A3 D1 D2 D3 c1 c2 c3 d1 d2 d3) :=
        ⟨hb2, hzW, by omega, HB1.out, HB2.out, ho2, ht2.keep (SameOn.refl _ _) (fun b hb => by rcases hb with hb | hb; exact hb.elim; have h1 := hb.1; have h2 := hb.2; simp at h1; omega), Says.refl _, hln, hok⟩
      clear hBX hg2 ho2 ht2 hok g0 g1 g2 g3 g4 g5 g6 gf k0 k1 k2 k3 k4 k5 k6 kf hmk HB1 HB2
      cases hr1 : rs.1
      case false =>
        have HR1 := Lib.hid hr1
        clear hr1
        go_wp2_with fail
        refine (awake11 _).mono ?_
        rintro e w3 ⟨rfl, hb3⟩
        have hbw : Below w.heap.size w w3 := hb2.trans (hb3.mono (by omega))
        clear hb3
        go_wp2_with fail
        go_ret
        exact ⟨rfl, hbw⟩
      case true =>
        have HR1 := Lib.hid hr1
        clear hr1 hb2
        go_wp2_with fail
        go_loopg [8] m (fun f i wr => ∃ (j : Nat) (vs : List T) (ys : List Value), f = m - j ∧ j ≤ m ∧ i = .int .i64 j ∧ Hid (UB w wr p q rs.2 vs ys w.heap.size W.heap.size m A1 A2 A3 D1 D2 D3 c1 c2 c3 d1 d2 d3))
        case atStart => exact ⟨0, rs.2, ys, by simp, by omega, rfl, HUB⟩
        case round =>
          obtain ⟨j, vs, ys, rfl, hj, rfl, HL⟩ := hrel
          clear HUB hln hz2
          have hwr := HL.out.gr
          by_cases hlt : j < m
          · have hjv : j < vs.length := by rw [HL.out.len]; exact hlt
            obtain ⟨X1, x1, X2, x2, X3, x3, hy, hyl, -, hp1, hp3⟩ := tysR_mid HL.out.ty hjv
            have hcell := HL.out.own
            rw [hy] at hcell
            obtain ⟨g0, g1, g2, g3, g4, g5, g6, gf⟩ := own_cells7 hcell hyl
            have HY := Lib.hid hy
            have HYL := Lib.hid hyl
            have HC := Lib.hid hcell
            clear hy hyl hp1 hp3 hcell
            by_cases hz : vs[j].kd = 0
            · have hzb : (vs[j].kd == 0) = true := by simpa using hz
              have HZ := Lib.hid hz
              clear hz
              go_wp2_with fail
              refine (make_calls (S := fun _ => False) (ks := []) (by simp [T.okL]) (by simp) (rowT_nil _ _) (fun _ h => h.elim)).mono ?_
              rintro e w3 h3
              obtain ⟨F1, f1, F2, f2, F3, f3, rfl, ht3, hb3⟩ := h3.forms
              have HT3 := Lib.hid ht3
              have HB3 := Lib.hid hb3
              have hz3 := hb3.size
              clear h3 ht3 hb3
              go_wp2_with fail
              refine (param_calls (n := j) (c := anyT) (S := fun b => wr.heap.size ≤ b ∧ b < w3.heap.size) (by omega) HT3.out (fun b hb => hb.2)).mono ?_
              rintro e w4 ⟨es, rfl, ht4, hb4⟩
              obtain ⟨G1, g1', G2, g2', G3, g3', rfl, -⟩ := ht4.forms
              have hz4 := hb4.size
              have hx4 : Below wr.heap.size wr w4 := HB3.out.trans (hb4.mono hz3)
              have HU4 := Lib.hid (HL.out.step hx4)
              obtain ⟨h0', h1', h2', h3', h4', h5', h6', hf'⟩ := own_cells7 (own_below HC.out hx4) HYL.out
              have HT4 : Hid (TyR w4 (fun b => (w.heap.size ≤ b ∧ b < w4.heap.size) ∧ b ≠ W.heap.size) (paramT j anyT) _) := ht4.keep (SameOn.refl _ _) (fun b hb => by
                have hx := HL.out.below.size
                rcases hb with hb | hb
                · exact ⟨⟨by omega, by omega⟩, by omega⟩
                · have h1 := hb.1; have h2 := hb.2; exact ⟨⟨by omega, by omega⟩, by omega⟩)
              clear ht4 hb4 hx4 g0 g1 g2 g3 g4 g5 g6 gf
              go_wp2_with fail
              obtain ⟨_, _, _, _, _, _, hy2, hyl2, -, hp1, hp3⟩ := tysR_mid HU4.out.ty hjv
              have HNEXT := Lib.hid (HU4.out.set_ hjv HZ.out hy2 hyl2 HT4.out (paramT_ok (by omega) anyT_ok) hp1 hp3)
              clear hy2 hyl2 hp1 hp3
              go_roundg (m - (j + 1))
              case measure => omega
              case rel => exact ⟨j + 1, _, _, rfl, by omega, by go_num, HNEXT⟩
            · have hzb : (vs[j].kd == 0) = false := by simpa using hz
              clear hz
              go_wp2_with fail
              go_roundg (m - (j + 1))
              case measure => omega
              case rel => exact ⟨j + 1, _, _, rfl, by omega, by go_num, HL⟩
          · have hge : m ≤ j := by omega
            clear hlt
            go_wp2_with fail
            obtain ⟨g0, g1, g2, g3, g4, g5, g6, gf⟩ := HL.out.b1.cells7
            obtain ⟨k0, k1, k2, k3, k4, k5, k6, kf⟩ := HL.out.b2.cells7
            have hbr := HL.out.below
            have hb1r := HL.out.b1.lt
            have hb2r := HL.out.b2.lt
            have hfin : ident (subst vs p) q = true := match_back p q (List.replicate m T.zero) vs HUK.out (by rw [HRS.out]; exact HR1.out) (by rw [HRS.out]; exact HL.out.says)
            have HFIN := Lib.hid hfin
            clear hfin
            have hrow : RowT wr (fun b => w.heap.size ≤ b ∧ b < wr.heap.size) (.slice (some ⟨W.heap.size, 0, none⟩) m m) vs := by
              refine ⟨ys, ?_, HL.out.ty.keep (SameOn.refl _ _) (fun b hb => hb.1)⟩
              rw [HL.out.len]
              refine Row.of_own HL.out.own (fun b hb => ?_)
              have hb' : W.heap.size = b := by simpa [Value.ownBlock] using hb
              exact ⟨by omega, by omega⟩
            have HROW := Lib.hid hrow
            clear hrow
            go_region_with
              (first
                | (go_at_call 15
                   refine (subst_calls (t := p) (us := vs) (S := S) (S' := fun b => w.heap.size ≤ b ∧ b < wr.heap.size) HPO.out HL.out.ok (HP.out.keep (SameOn.of_below hbr.drew HS.out) (fun _ h => h)) (HROW.out.keep (SameOn.refl _ _) (fun _ h => h)) (HS.out.below hbr.drew) (fun b hb => hb.2)).mono ?_
                   rintro e w3 h3
                   obtain ⟨F1, f1, F2, f2, F3, f3, rfl, ht3, hb3⟩ := h3.forms
                   have hz3 := hb3.size
                   simp at hz3
                   have hx3 : Below wr.heap.size wr w3 := (Below.refl wr.heap.size wr).drew.trans hb3
                   have hbw3 : Below w.heap.size w w3 := hbr.trans (hx3.mono (by omega))
                   obtain ⟨m0, m1, m2, m3, m4, m5, m6, mf⟩ := (HL.out.b2.below hx3 hb2r).cells7
                   have HT3 := Lib.hid ht3
                   have HX3 := Lib.hid hbw3
                   clear h3 ht3 hb3 hx3 hbw3)
                | (go_at_call 14
                   refine (ident_calls (a := subst vs p) (b := q) (S := New wr.drew w3) (S' := S') HT3.out (HQ.out.keep (SameOn.of_below HX3.out HS'.out) (fun _ h => h)) (fun b hb => hb.2) (HS'.out.below HX3.out)).mono ?_
                   rintro e w4 ⟨rfl, hb4⟩
                   rw [HFIN.out]
                   have hz4 := hb4.size
                   have HX4 := Lib.hid (HX3.out.trans (hb4.mono (by omega)))
                   clear hb4)
                | (go_at_call 10
                   refine (awake11 _).mono ?_
                   rintro e w5 ⟨rfl, hb5⟩
                   have HX5 := Lib.hid (HX4.out.trans (hb5.mono (by have := HX4.out.size; omega)))
                   clear hb5)
                | fail)
            all_goals
              go_wp2_with fail
              go_ret
              exact ⟨rfl, HX5.out⟩
end Go.Proofs.Ytanhdklaponekaa
