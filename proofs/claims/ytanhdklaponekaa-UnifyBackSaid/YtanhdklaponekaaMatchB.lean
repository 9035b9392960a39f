/- unify.Match where the parameter's type is no type parameter in range. -/
import Derived.Test.YtanhdklaponekaaMatchA
namespace Go.Proofs.Ytanhdklaponekaa
open Go Go.RowKit

/-- the two boxes -/
def Boxes (w W : World) (k : Int) (nm : ByteArray) (n : Int) (f : Bool) (ns : List ByteArray) (ms : List Bool) (l : Nat) (A1 A2 A3 : Option Addr) (c1 c2 c3 : Nat) (k' : Int) (nm' : ByteArray) (n' : Int) (f' : Bool) (ns' : List ByteArray) (ms' : List Bool) (l' : Nat) (D1 D2 D3 : Option Addr) (d1 d2 d3 : Nat) : Prop :=
  Below w.heap.size w W ∧ w.heap.size + 2 ≤ W.heap.size ∧
  Blk W w.heap.size 26 #[.int .i64 k, .string nm, .int .i64 n, .bool f, .slice A1 ns.length c1, .slice A2 ms.length c2, .slice A3 l c3] ∧
  Blk W (w.heap.size + 1) 26 #[.int .i64 k', .string nm', .int .i64 n', .bool f', .slice D1 ns'.length d1, .slice D2 ms'.length d2, .slice D3 l' d3]

theorem Boxes.dr {w W : World} {k : Int} {nm : ByteArray} {n : Int} {f : Bool} {ns : List ByteArray} {ms : List Bool} {l : Nat} {A1 A2 A3 : Option Addr} {c1 c2 c3 : Nat} {k' : Int} {nm' : ByteArray} {n' : Int} {f' : Bool} {ns' : List ByteArray} {ms' : List Bool} {l' : Nat} {D1 D2 D3 : Option Addr} {d1 d2 d3 : Nat}
    (h : Hid (Boxes w W k nm n f ns ms l A1 A2 A3 c1 c2 c3 k' nm' n' f' ns' ms' l' D1 D2 D3 d1 d2 d3)) (q : Nat) : Hid (Boxes w (W.drewN q) k nm n f ns ms l A1 A2 A3 c1 c2 c3 k' nm' n' f' ns' ms' l' D1 D2 D3 d1 d2 d3) :=
  ⟨below_drewN h.out.1 q, h.out.2.1, h.out.2.2.1, h.out.2.2.2⟩

/-- what holds at the head of the loop over the kids -/
structure MLoop (ks ks' us vs : List T) (ys : List Value) (w wr : World) (SA : Nat → Prop) (base g cap j : Nat) (k : Int) (nm : ByteArray) (n : Int) (f : Bool) (ns : List ByteArray) (ms : List Bool) (l : Nat) (A1 A2 A3 : Option Addr) (c1 c2 c3 : Nat)
    (k' : Int) (nm' : ByteArray) (n' : Int) (f' : Bool) (ns' : List ByteArray) (ms' : List Bool) (l' : Nat) (D1 D2 D3 : Option Addr) (d1 d2 d3 : Nat) : Prop where
  eq : matchL (ks.drop j) (ks'.drop j) vs = matchL ks ks' us
  len : vs.length = us.length
  grown : w.grownBy wr (some g)
  size : w.heap.size + 2 ≤ wr.heap.size
  b1 : Blk wr w.heap.size 26 #[.int .i64 k, .string nm, .int .i64 n, .bool f, .slice A1 ns.length c1, .slice A2 ms.length c2, .slice A3 l c3]
  b2 : Blk wr (w.heap.size + 1) 26 #[.int .i64 k', .string nm', .int .i64 n', .bool f', .slice D1 ns'.length d1, .slice D2 ms'.length d2, .slice D3 l' d3]
  own : wr.ownsRow base 26 7 (.slice (some ⟨g, 0, none⟩) us.length cap) us.length ys
  ty : TysR wr (fun b => SA b ∨ New w wr b) vs ys

section
variable {N : Nat} {ks ks' us vs : List T} {ys : List Value} {w wr w1 : World} {S S' SA : Nat → Prop} {base g cap j : Nat} {k : Int} {nm : ByteArray} {n : Int} {f : Bool} {ns : List ByteArray} {ms : List Bool} {l : Nat} {A1 A2 A3 : Option Addr} {c1 c2 c3 : Nat}
    {k' : Int} {nm' : ByteArray} {n' : Int} {f' : Bool} {ns' : List ByteArray} {ms' : List Bool} {l' : Nat} {D1 D2 D3 : Option Addr} {d1 d2 d3 : Nat}
theorem mloop_start (ho : w.ownsRow base 26 7 (.slice (some ⟨g, 0, none⟩) us.length cap) us.length ys) (ht : TysR w SA us ys) (hA : Old SA w) (hb : Below w.heap.size w wr) (hz : w.heap.size + 2 ≤ wr.heap.size)
    (h1 : Blk wr w.heap.size 26 #[.int .i64 k, .string nm, .int .i64 n, .bool f, .slice A1 ns.length c1, .slice A2 ms.length c2, .slice A3 l c3])
    (h2 : Blk wr (w.heap.size + 1) 26 #[.int .i64 k', .string nm', .int .i64 n', .bool f', .slice D1 ns'.length d1, .slice D2 ms'.length d2, .slice D3 l' d3]) :
    MLoop ks ks' us us ys w wr SA base g cap 0 k nm n f ns ms l A1 A2 A3 c1 c2 c3 k' nm' n' f' ns' ms' l' D1 D2 D3 d1 d2 d3 :=
  ⟨by simp, rfl, grown_of_below hb _, hz, h1, h2, own_below ho hb, ht.keep (SameOn.of_below hb hA) (fun _ h => .inl h)⟩

/-- what the inner call leaves, told from the first world -/
structure MAfter (us vs : List T) (r : Bool × List T) (w w1 : World) (SA : Nat → Prop) (base g cap : Nat) (k : Int) (nm : ByteArray) (n : Int) (f : Bool) (ns : List ByteArray) (ms : List Bool) (l : Nat) (A1 A2 A3 : Option Addr) (c1 c2 c3 : Nat)
    (k' : Int) (nm' : ByteArray) (n' : Int) (f' : Bool) (ns' : List ByteArray) (ms' : List Bool) (l' : Nat) (D1 D2 D3 : Option Addr) (d1 d2 d3 : Nat) : Prop where
  len : r.2.length = us.length
  grown : w.grownBy w1 (some g)
  size : w.heap.size + 2 ≤ w1.heap.size
  b1 : Blk w1 w.heap.size 26 #[.int .i64 k, .string nm, .int .i64 n, .bool f, .slice A1 ns.length c1, .slice A2 ms.length c2, .slice A3 l c3]
  b2 : Blk w1 (w.heap.size + 1) 26 #[.int .i64 k', .string nm', .int .i64 n', .bool f', .slice D1 ns'.length d1, .slice D2 ms'.length d2, .slice D3 l' d3]
  row : ∃ zs, w1.ownsRow base 26 7 (.slice (some ⟨g, 0, none⟩) us.length cap) us.length zs ∧ TysR w1 (fun b => SA b ∨ New w w1 b) r.2 zs

theorem mloop_call {o : Obj} {cs ds : List Value} {p q : T} (h : MLoop ks ks' us vs ys w wr SA base g cap j k nm n f ns ms l A1 A2 A3 c1 c2 c3 k' nm' n' f' ns' ms' l' D1 D2 D3 d1 d2 d3)
    (hS : Old S w) (hS' : Old S' w) (hA : Old SA w) (hn1 : ¬ S g) (hn2 : ¬ S' g) (hn3 : ¬ SA g) (hgl : g < w.heap.size)
    (hp : TyR wr S p cs) (hq : TyR wr S' q ds) (hok : q.ok) (hsz : p.sz < N) (hlim : us.length ≤ 1000000000000)
    (ih : ∀ (p q : T) (us : List T) (xs cs ds : List Value) (w : World) (S S' SA : Nat → Prop), p.sz < N → us.length ≤ 1000000000000 → TyR w S p cs → TyR w S' q ds → q.ok → Old S w → Old S' w → Old SA w → ¬ S g → ¬ S' g → ¬ SA g →
      w.ownsRow base 26 7 (.slice (some ⟨g, 0, none⟩) us.length cap) us.length xs → TysR w SA us xs →
      Calls Try.prog 11 #[.agg cs.toArray, .agg ds.toArray, .slice (some ⟨g, 0, none⟩) us.length cap] w (MatchRes base g cap SA w (matchT p q us))) :
    Calls Try.prog 11 #[.agg cs.toArray, .agg ds.toArray, .slice (some ⟨g, 0, none⟩) us.length cap] ((wr.alloc o).drew) fun e w1 => e = .returned (.bool (matchT p q vs).1) ∧
      Hid (MAfter us vs (matchT p q vs) w w1 SA base g cap k nm n f ns ms l A1 A2 A3 c1 c2 c3 k' nm' n' f' ns' ms' l' D1 D2 D3 d1 d2 d3) := by
  have hz := h.size
  have hsame : ∀ (T' : Nat → Prop), Old T' wr → SameOn T' wr ((wr.alloc o).drew) := fun T' hT => (SameOn.refl _ _).alloc hT o
  have hSr : Old S wr := hS.grown h.grown
  have hSr' : Old S' wr := hS'.grown h.grown
  have hAr : Old (fun b => SA b ∨ New w wr b) wr := fun b hb => by
    rcases hb with hb | hb
    · have := hA b hb; omega
    · exact hb.2
  have hx : ∀ (T' : Nat → Prop), Old T' wr → Old T' ((wr.alloc o).drew) := fun T' hT => hT.alloc o
  have hal : Below wr.heap.size wr ((wr.alloc o).drew) := ((Below.refl _ _).alloc (Nat.le_refl _) _).drew
  have hnA : ¬ (SA g ∨ New w wr g) := fun h1 => h1.elim hn3 (fun h1 => by have := h1.1; omega)
  have hown : ((wr.alloc o).drew).ownsRow base 26 7 (.slice (some ⟨g, 0, none⟩) vs.length cap) vs.length ys := by
    rw [h.len]; exact own_below h.own hal
  have hc := ih p q vs ys cs ds ((wr.alloc o).drew) S S' (fun b => SA b ∨ New w wr b) hsz (by rw [h.len]; exact hlim) (hp.keep (hsame _ hSr) (fun _ h => h)) (hq.keep (hsame _ hSr') (fun _ h => h)) hok (hx _ hSr) (hx _ hSr') (hx _ hAr) hn1 hn2 hnA hown (h.ty.keep (hsame _ hAr) (fun _ h => h))
  rw [h.len] at hc
  refine hc.mono ?_
  rintro e w1 ⟨rfl, hg1, zs, ho1, ht1⟩
  have hl : (matchT p q vs).2.length = us.length := by rw [matchT_len, h.len]
  rw [hl] at ho1
  have hg2 : wr.grownBy w1 (some g) := (grown_of_below hal (some g)).trans hg1
  have hz1 := hg2.size
  refine ⟨rfl, hl, h.grown.trans hg2, by omega, h.b1.grown hg2 (by simp; omega), h.b2.grown hg2 (by simp; omega), zs, ho1, ht1.keep (SameOn.refl _ _) (fun b hb => ?_)⟩
  rcases hb with (hb | hb) | hb
  · exact .inl hb
  · exact .inr ⟨hb.1, by have := hb.2; omega⟩
  · have h1 := hb.1
    have h2 := hb.2
    simp at h1
    exact .inr ⟨by omega, h2⟩

theorem mloop_ret {r r' : Bool × List T} {e : Ending} (hr : r = r') (he : e = .returned (.bool r'.1)) (h : MAfter us vs r' w w1 SA base g cap k nm n f ns ms l A1 A2 A3 c1 c2 c3 k' nm' n' f' ns' ms' l' D1 D2 D3 d1 d2 d3) : MatchRes base g cap SA w r e w1 := by
  subst hr he
  obtain ⟨zs, h1, h2⟩ := h.row
  exact ⟨rfl, h.grown, zs, by rw [h.len]; exact h1, h2⟩
theorem mloop_next (h : MLoop ks ks' us vs ys w wr SA base g cap j k nm n f ns ms l A1 A2 A3 c1 c2 c3 k' nm' n' f' ns' ms' l' D1 D2 D3 d1 d2 d3) (h1 : j < ks.length) (h2 : j < ks'.length) (hm : (matchT ks[j] ks'[j] vs).1 = true)
    (ha : MAfter us vs (matchT ks[j] ks'[j] vs) w w1 SA base g cap k nm n f ns ms l A1 A2 A3 c1 c2 c3 k' nm' n' f' ns' ms' l' D1 D2 D3 d1 d2 d3) :
    MLoop ks ks' us (matchT ks[j] ks'[j] vs).2 (Classical.choose ha.row) w w1 SA base g cap (j + 1) k nm n f ns ms l A1 A2 A3 c1 c2 c3 k' nm' n' f' ns' ms' l' D1 D2 D3 d1 d2 d3 := by
  have hz := Classical.choose_spec ha.row
  refine ⟨?_, ha.len, ha.grown, ha.size, ha.b1, ha.b2, hz.1, hz.2⟩
  rw [← h.eq, matchL_step _ _ _ _ h1 h2, if_pos hm]
theorem mloop_end {r : Bool × List T} {e : Ending} (hr : r = (true, vs)) (he : e = .returned (.bool true)) (h : MLoop ks ks' us vs ys w wr SA base g cap j k nm n f ns ms l A1 A2 A3 c1 c2 c3 k' nm' n' f' ns' ms' l' D1 D2 D3 d1 d2 d3) : MatchRes base g cap SA w r e wr := by
  subst hr he
  exact ⟨rfl, h.grown, ys, by simp only [h.len]; exact h.own, h.ty⟩
end

set_option maxHeartbeats 8000000 in
set_option maxRecDepth 100000 in
attribute [local go_sem ↓] Go.wp_at_zero Go.wp_at_succ in
theorem match_fields (N : Nat) {k n : Int} {nm : ByteArray} {f : Bool} {ns : List ByteArray} {ms : List Bool} {ks : List T} {ar : T} {us : List T} {xs cs ds : List Value} {w : World} {S S' SA : Nat → Prop} {base g cap : Nat}
    (ih : ∀ (p q : T) (us : List T) (xs cs ds : List Value) (w : World) (S S' SA : Nat → Prop), p.sz < N → us.length ≤ 1000000000000 → TyR w S p cs → TyR w S' q ds → q.ok → Old S w → Old S' w → Old SA w → ¬ S g → ¬ S' g → ¬ SA g →
      w.ownsRow base 26 7 (.slice (some ⟨g, 0, none⟩) us.length cap) us.length xs → TysR w SA us xs →
      Calls Try.prog 11 #[.agg cs.toArray, .agg ds.toArray, .slice (some ⟨g, 0, none⟩) us.length cap] w (MatchRes base g cap SA w (matchT p q us)))
    (hN : (T.mk k nm n f ns ms ks).sz < N + 1) (hlim : us.length ≤ 1000000000000) (hp : TyR w S (.mk k nm n f ns ms ks) cs) (ha : TyR w S' ar ds) (hok : ar.ok) (hS : Old S w) (hS' : Old S' w) (hA : Old SA w) (hn : ¬ S g) (hn' : ¬ S' g) (hnA : ¬ SA g)
    (ho : w.ownsRow base 26 7 (.slice (some ⟨g, 0, none⟩) us.length cap) us.length xs) (ht : TysR w SA us xs)
    (hc : (k == 9) = false ∨ ((k == 9) = true ∧ n < 0) ∨ ((k == 9) = true ∧ 0 ≤ n ∧ (us.length : Int) ≤ n)) :
    Calls Try.prog 11 #[.agg cs.toArray, .agg ds.toArray, .slice (some ⟨g, 0, none⟩) us.length cap] w
      (MatchRes base g cap SA w (if fieldsEq (.mk k nm n f ns ms ks) ar then matchL ks ar.ks us else (false, us))) := by
  obtain ⟨r, HRR⟩ : ∃ r, Hid (r = if fieldsEq (.mk k nm n f ns ms ks) ar then matchL ks ar.ks us else (false, us)) := ⟨_, rfl⟩
  rw [← HRR.out]
  obtain ⟨k', nm', n', f', ns', ms', ks'⟩ := ar
  obtain ⟨A1, c1, A2, c2, A3, c3, rfl, p1, p2, p3⟩ := hp.forms
  obtain ⟨D1, d1, D2, d2, D3, d3, rfl, q1, q2, q3⟩ := ha.forms
  simp only [mk_kd, mk_nm, mk_n, mk_fl, mk_ns, mk_ms, mk_ks] at *
  have hkl : ks.length ≤ 9223372036854775807 := by obtain ⟨_, _, _, h⟩ := p3.form; exact h
  have hgl := (ho.lt g rfl).2
  have P1 := Lib.hid p1
  have P2 := Lib.hid p2
  have P3 := Lib.hid p3
  have Q1 := Lib.hid q1
  have Q2 := Lib.hid q2
  have Q3 := Lib.hid q3
  have HS := Lib.hid hS
  have HS' := Lib.hid hS'
  have HA := Lib.hid hA
  have HO := Lib.hid ho
  have HT := Lib.hid ht
  have HOK : Hid (T.okL ks') := by simp only [T.ok] at hok; exact hok.2.2.2.2.2.2.2
  have HN1 := Lib.hid hn
  have HN2 := Lib.hid hn'
  have HN3 := Lib.hid hnA
  have IH := Lib.hid ih
  have HSZ := Lib.hid hN
  have HLIM := Lib.hid hlim
  clear hp ha hok hS hS' hA hn hn' hnA ho ht p1 p2 p3 q1 q2 q3 ih hN hlim
  go_enter Try.func11, Try.ntmps11
  go_upto_region 1 with fail
  go_cut [23] (fun s W => s = .bool false ∧ Hid (Boxes w W k nm n f ns ms ks.length A1 A2 A3 c1 c2 c3 k' nm' n' f' ns' ms' ks'.length D1 D2 D3 d1 d2 d3))
  case first =>
    rcases hc with h | ⟨h, h'⟩ | ⟨h, h', h''⟩
    all_goals
      go_wp2_with fail
      go_meet
      exact ⟨by first | rfl | (simp; omega), below_two _ _ _, by simp, (Blk.two _ _ _ _).1, (Blk.two _ _ _ _).2⟩
  case rest =>
    obtain ⟨rfl, HB⟩ := hcut
    clear hc
    rename World => W
    obtain ⟨hbW, hzW, hB1, hB2⟩ := HB.out
    obtain ⟨g0, g1, g2, g3, g4, g5, g6, gf⟩ := hB1.cells7
    obtain ⟨k0, k1, k2, k3, k4, k5, k6, kf⟩ := hB2.cells7
    clear hB1 hB2
    go_upto_region 8 with fail
    go_cut [96] (fun s W => s = .bool (!fieldsEq (.mk k nm n f ns ms ks) (.mk k' nm' n' f' ns' ms' ks')) ∧ Hid (Boxes w W k nm n f ns ms ks.length A1 A2 A3 c1 c2 c3 k' nm' n' f' ns' ms' ks'.length D1 D2 D3 d1 d2 d3))
    case first =>
      have hfe : fieldsEq (.mk k nm n f ns ms ks) (.mk k' nm' n' f' ns' ms' ks') = (decide (k = k') && (decide (nm = nm') && (decide (n = n') && (decide (f = f') && (decide (ns = ns') && (decide (ms = ms') && decide (ks.length = ks'.length))))))) := rfl
      have HBX := HB
      by_cases h1 : k = k'
      case neg =>
        rw [decide_eq_false h1] at hfe; simp only [Bool.false_and] at hfe
        have HF := Lib.hid hfe
        have b1 : (k != k') = true := by simpa using h1
        clear h1 hfe
        go_wp2_with fail
        go_meet
        exact ⟨by rw [HF.out]; simp, HBX⟩
      rw [decide_eq_true h1, Bool.true_and] at hfe
      have b1 : (k != k') = false := by simpa using h1
      clear h1
      by_cases h2 : nm = nm'
      case neg =>
        rw [decide_eq_false h2] at hfe; simp only [Bool.false_and] at hfe
        have HF := Lib.hid hfe
        have b2 : (nm.toList == nm'.toList) = false := by rw [bytes_eq]; simpa using h2
        clear h2 hfe
        go_wp2_with fail
        go_meet
        exact ⟨by rw [HF.out]; simp, HBX⟩
      rw [decide_eq_true h2, Bool.true_and] at hfe
      have b2 : (nm.toList == nm'.toList) = true := by rw [bytes_eq]; simpa using h2
      clear h2
      by_cases h3 : n = n'
      case neg =>
        rw [decide_eq_false h3] at hfe; simp only [Bool.false_and] at hfe
        have HF := Lib.hid hfe
        have b3 : (n != n') = true := by simpa using h3
        clear h3 hfe
        go_wp2_with fail
        go_meet
        exact ⟨by rw [HF.out]; simp, HBX⟩
      rw [decide_eq_true h3, Bool.true_and] at hfe
      have b3 : (n != n') = false := by simpa using h3
      clear h3
      by_cases h4 : f = f'
      case neg =>
        rw [decide_eq_false h4] at hfe; simp only [Bool.false_and] at hfe
        have HF := Lib.hid hfe
        clear hfe
        cases f <;> cases f' <;> first
          | exact absurd rfl h4
          | (clear h4
             go_wp2_with fail
             go_meet
             exact ⟨by rw [HF.out]; simp, HBX⟩)
      rw [decide_eq_true h4, Bool.true_and] at hfe
      subst h4
      by_cases h5 : ns = ns'
      case neg =>
        rw [decide_eq_false h5] at hfe; simp only [Bool.false_and] at hfe
        have HF := Lib.hid hfe
        have H5 := Lib.hid h5
        clear h5 hfe
        go_wp2_with fail
        refine (equal_strs_f (P1.out.keep (SameOn.of_below hbW HS.out)) (Q1.out.keep (SameOn.of_below hbW HS'.out)) H5.out).mono ?_
        rintro e w1 ⟨rfl, q, rfl⟩
        go_wp2_with fail
        go_meet
        exact ⟨by rw [HF.out]; simp, Boxes.dr HBX q⟩
      rw [decide_eq_true h5, Bool.true_and] at hfe
      have H5 := Lib.hid h5
      clear h5
      by_cases h6 : ms = ms'
      case neg =>
        rw [decide_eq_false h6] at hfe; simp only [Bool.false_and] at hfe
        have HF := Lib.hid hfe
        have H6 := Lib.hid h6
        clear h6 hfe
        go_wp2_with fail
        refine (equal_strs_t (P1.out.keep (SameOn.of_below hbW HS.out)) (Q1.out.keep (SameOn.of_below hbW HS'.out)) H5.out).mono ?_
        rintro e w1 ⟨rfl, q, rfl⟩
        go_wp2_with fail
        refine (equal_bools_f ((P2.out.keep (SameOn.of_below hbW HS.out)).dr q) ((Q2.out.keep (SameOn.of_below hbW HS'.out)).dr q) H6.out).mono ?_
        rintro e w1 ⟨rfl, q2, rfl⟩
        go_wp2_with fail
        go_meet
        exact ⟨by rw [HF.out]; simp, Boxes.dr HBX _⟩
      rw [decide_eq_true h6, Bool.true_and] at hfe
      have H6 := Lib.hid h6
      clear h6
      by_cases h7 : ks.length = ks'.length
      case neg =>
        rw [decide_eq_false h7] at hfe
        have HF := Lib.hid hfe
        have b7 : ((ks.length : Int) != (ks'.length : Int)) = true := by simp; omega
        clear h7 hfe
        go_wp2_with fail
        refine (equal_strs_t (P1.out.keep (SameOn.of_below hbW HS.out)) (Q1.out.keep (SameOn.of_below hbW HS'.out)) H5.out).mono ?_
        rintro e w1 ⟨rfl, q, rfl⟩
        go_wp2_with fail
        refine (equal_bools_t ((P2.out.keep (SameOn.of_below hbW HS.out)).dr q) ((Q2.out.keep (SameOn.of_below hbW HS'.out)).dr q) H6.out).mono ?_
        rintro e w1 ⟨rfl, q2, rfl⟩
        go_wp2_with fail
        go_meet
        exact ⟨by rw [HF.out]; simp, Boxes.dr HBX _⟩
      rw [decide_eq_true h7] at hfe
      have HF := Lib.hid hfe
      have b7 : ((ks.length : Int) != (ks'.length : Int)) = false := by rw [h7]; simp
      clear h7 hfe
      go_wp2_with fail
      refine (equal_strs_t (P1.out.keep (SameOn.of_below hbW HS.out)) (Q1.out.keep (SameOn.of_below hbW HS'.out)) H5.out).mono ?_
      rintro e w1 ⟨rfl, q, rfl⟩
      go_wp2_with fail
      refine (equal_bools_t ((P2.out.keep (SameOn.of_below hbW HS.out)).dr q) ((Q2.out.keep (SameOn.of_below hbW HS'.out)).dr q) H6.out).mono ?_
      rintro e w1 ⟨rfl, q2, rfl⟩
      go_wp2_with fail
      go_meet
      exact ⟨by rw [HF.out]; simp, Boxes.dr HBX _⟩
    case rest =>
      obtain ⟨rfl, HBB⟩ := hcut
      rename World => W2
      clear HB g0 g1 g2 g3 g4 g5 g6 gf k0 k1 k2 k3 k4 k5 k6 kf hbW hzW
      obtain ⟨hbW, hzW, hB1, hB2⟩ := HBB.out
      have HB1 := Lib.hid hB1
      have HB2 := Lib.hid hB2
      clear hB1 hB2
      obtain ⟨g0, g1, g2, g3, g4, g5, g6, gf⟩ := HB1.out.cells7
      cases hfe : fieldsEq (.mk k nm n f ns ms ks) (.mk k' nm' n' f' ns' ms' ks')
      case false =>
        have hr : r = (false, us) := by rw [HRR.out, hfe]; simp
        have HR := Lib.hid hr
        clear hr hfe
        go_wp2_with fail
        go_ret
        exact MatchRes.same' HR.out rfl HO.out HT.out HA.out hbW
      case true =>
        have hr : r = matchL ks ks' us := by rw [HRR.out, hfe]; simp
        have hle : ks.length = ks'.length := by
          simp only [fieldsEq, Bool.and_eq_true, decide_eq_true_eq] at hfe
          exact hfe.2.2.2.2.2.2
        have HR := Lib.hid hr
        have HLE := Lib.hid hle
        clear hr hfe hle
        go_wp2_with fail
        clear g0 g1 g2 g3 g4 g5 g6 gf
        go_loopg [100] ks.length (fun m i wr => ∃ (j : Nat) (vs : List T) (ys : List Value), m = ks.length - j ∧ j ≤ ks.length ∧ i = .int .i64 j ∧
          Hid (MLoop ks ks' us vs ys w wr SA base g cap j k nm n f ns ms ks.length A1 A2 A3 c1 c2 c3 k' nm' n' f' ns' ms' ks'.length D1 D2 D3 d1 d2 d3))
        case atStart => exact ⟨0, us, xs, by simp, by omega, rfl, mloop_start HO.out HT.out HA.out hbW hzW HB1.out HB2.out⟩
        case round =>
          obtain ⟨j, vs, ys, rfl, hj, rfl, HL⟩ := hrel
          have hzr := HL.out.size
          clear HB1 HB2 hbW hzW
          obtain ⟨g0, g1, g2, g3, g4, g5, g6, gf⟩ := HL.out.b1.cells7
          obtain ⟨k0, k1, k2, k3, k4, k5, k6, kf⟩ := HL.out.b2.cells7
          by_cases hlt : j < ks.length
          · have hlt2 : j < ks'.length := by rw [← HLE.out]; exact hlt
            have hwl : w.heap.size < wr.heap.size := by omega
            have hwl2 : w.heap.size + 1 < wr.heap.size := by omega
            obtain ⟨b, o, c, E1, e1, E2, e2, E3, e3, hv, hSb, ⟨m0, m1, m2, m3, m4, m5, m6⟩, hkr⟩ := (P3.out.keep (grown_old HL.out.grown HS.out HN1.out) (fun _ h => h)).at_ hlt
            obtain ⟨b', o', c', F1, f1, F2, f2, F3, f3, hv', hSb', ⟨n0, n1, n2, n3, n4, n5, n6⟩, hkr'⟩ := (Q3.out.keep (grown_old HL.out.grown HS'.out HN2.out) (fun _ h => h)).at_ hlt2
            cases hv
            cases hv'
            have hbl : b < wr.heap.size := Nat.lt_of_lt_of_le (HS.out b hSb) (by omega)
            have hbl' : b' < wr.heap.size := Nat.lt_of_lt_of_le (HS'.out b' hSb') (by omega)
            have HKR := Lib.hid hkr
            have HKR' := Lib.hid hkr'
            have hjk : (j : Int) < (ks'.length : Int) := by omega
            have hjk0 : (0 : Int) ≤ (j : Int) := by omega
            clear hkr hkr' hSb hSb'
            go_wp2_with fail
            go_region_with
              (first
                | (go_at_call 11
                   refine (mloop_call HL.out HS.out HS'.out HA.out HN1.out HN2.out HN3.out hgl HKR.out HKR'.out (okL_at HOK.out hlt2) (by have := HSZ.out; rw [sz_mk] at this; have := szL_mem hlt; omega) HLIM.out IH.out).mono ?_
                   rintro e w1 ⟨rfl, HW1⟩)
                | fail)
            all_goals
              cases hmt : (matchT ks[j] ks'[j] vs).1
              · have hrr : r = (matchT ks[j] ks'[j] vs) := by
                  rw [HR.out, ← HL.out.eq, matchL_step _ _ _ _ hlt hlt2, if_neg (by rw [hmt]; simp)]
                have HF := Lib.hid hrr
                have HMT := Lib.hid hmt
                clear hrr hmt
                go_wp2_with fail
                go_ret
                exact mloop_ret HF.out (by rw [HMT.out]; rfl) HW1.out
              · have HMT := Lib.hid hmt
                clear hmt
                go_wp2_with fail
                go_roundg (ks.length - (j + 1))
                case measure => omega
                case rel => exact ⟨j + 1, _, _, rfl, by omega, by go_num, mloop_next HL.out hlt hlt2 HMT.out HW1.out⟩
          · have hrr : r = (true, vs) := by
              rw [HR.out, ← HL.out.eq, drop_end ks j (by omega), matchL]
            have HF := Lib.hid hrr
            have hge : ks.length ≤ j := by omega
            clear hrr hlt
            go_wp2_with fail
            go_ret
            exact mloop_end HF.out rfl HL.out
end Go.Proofs.Ytanhdklaponekaa
