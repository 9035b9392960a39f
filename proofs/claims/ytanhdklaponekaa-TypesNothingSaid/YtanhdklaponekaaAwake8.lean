/- recastlaw8.awake: true. -/
import Derived.Test.YtanhdklaponekaaMakeO
import Derived.Test.YtanhdklaponekaaTextT
import Derived.Test.YtanhdklaponekaaTLaw
import Derived.Deep.RegionLaw
namespace Go.Proofs.Ytanhdklaponekaa
open Go Go.RowKit

theorem mkT_ok {k : Int} {ks : List T} (hk : i64ok k) (hl : ks.length * 112 ≤ Lim) (ho : T.okL ks) : (mkT k ks).ok := by
  unfold mkT
  rw [T.ok]
  refine ⟨hk, ?_, by unfold Lim; exact Nat.zero_le _, by simp, by simp [Lim], by simp [Lim], hl, ho⟩
  split
  · unfold Lim at hl; unfold i64ok; omega
  · unfold i64ok; omega
/-- a []api.Type of one element that lies in a block of its own -/
theorem row_one {w : World} {S : Nat → Prop} {t : T} {g : Nat} {c0 c1 c2 c3 c4 c5 c6 : Value} (hb : Blk w g 26 #[c0, c1, c2, c3, c4, c5, c6]) (h : TyR w S t [c0, c1, c2, c3, c4, c5, c6]) (hg : S g) : RowT w S (.slice (some ⟨g, 0, none⟩) 1 1) [t] :=
  ⟨[c0, c1, c2, c3, c4, c5, c6], ⟨by simp, _, _, rfl, Nat.le_refl _, by unfold maxLen; omega, (fun e => by cases e), fun _ => ⟨g, 0, rfl, hg, fun j u hu => by rw [Nat.zero_add, hb.cell j]; simpa using hu⟩⟩, TysR.one h⟩
/-- two types in one new block -/
theorem row_two {w : World} {S : Nat → Prop} {p q : T} {g : Nat} {cs ds : List Value} (hb : Blk w g 26 (cs ++ ds).toArray) (hp : TyR w S p cs) (hq : TyR w S q ds) (hg : S g) : RowT w S (.slice (some ⟨g, 0, none⟩) 2 2) [p, q] :=
  ⟨cs ++ ds, ⟨by simp [hp.len, hq.len], _, _, rfl, Nat.le_refl _, by unfold maxLen; omega, (fun e => by cases e), fun _ => ⟨g, 0, rfl, hg, fun j u hu => by rw [Nat.zero_add, hb.cell j]; simpa using hu⟩⟩, (TysR.one hp).append (TysR.one hq)⟩

def awT : T := .mk 13 ⟨#[]⟩ 2 true [] [] [mkT 1 [], mkT 11 [mkT 2 []], mkT 3 []]
theorem awT_txt : txt 20 awT = ⟨#[102, 117, 110, 99, 40, 105, 110, 116, 44, 32, 46, 46, 46, 115, 116, 114, 105, 110, 103, 41, 32, 98, 111, 111, 108]⟩ := by kernel_rfl
theorem awT_sz : awT.sz ≤ 20 := by simp [awT, mkT, T.sz, T.szL]
theorem awT_ok : awT.ok := by
  unfold awT
  rw [T.ok]
  refine ⟨by unfold i64ok; omega, by unfold i64ok; omega, by unfold Lim; exact Nat.zero_le _, by simp, by simp [Lim], by simp [Lim], by simp [Lim], ?_⟩
  simp only [T.okL, and_true]
  exact ⟨mkT_ok (by unfold i64ok; omega) (by simp) (by simp [T.okL]), mkT_ok (by unfold i64ok; omega) (by simp [Lim]) (by simp only [T.okL, and_true]; exact mkT_ok (by unfold i64ok; omega) (by simp) (by simp [T.okL])), mkT_ok (by unfold i64ok; omega) (by simp) (by simp [T.okL])⟩

/-- behind the append: t, and where it lies -/
def AwM (w W : World) (g : Nat) : Prop := Below w.heap.size w W ∧ g < W.heap.size ∧ ∃ A3 c3,
  Blk W g 26 #[.int .i64 13, .string ⟨#[]⟩, .int .i64 2, .bool true, .slice none 0 0, .slice none 0 0, .slice A3 3 c3] ∧
  TyR W (fun b => w.heap.size ≤ b ∧ b < W.heap.size) awT [.int .i64 13, .string ⟨#[]⟩, .int .i64 2, .bool true, .slice none 0 0, .slice none 0 0, .slice A3 3 c3]

/-- One more element, and a block of which none of them speaks. -/
theorem owns_step_g {base g : Nat} {E : TypeId} {wr W w1 w2 : World} {v v' : Value} {ts : List T} {t : T} {n : Nat} {xs cs : List Value} {o : Obj}
    (ho : wr.ownsRow base E 7 v n xs) (ht : TysR wr (fun b => (base ≤ b ∧ b < wr.heap.size) ∧ v.ownBlock ≠ some b) ts xs) (hbW : Below wr.heap.size wr W) (h1g : wr.heap.size ≤ g) (h2g : g < W.heap.size) (hbb : base ≤ wr.heap.size)
    (hc : TyR w1 (New W w1) t cs) (hb1 : Below W.heap.size W w1) (hg : (w1.alloc o).grownBy w2 v.ownBlock)
    (hat : v'.ownBlock = v.ownBlock ∨ v'.ownBlock = some (w1.heap.size + 1)) :
    TysR w2 (fun b => ((base ≤ b ∧ b < w2.heap.size) ∧ v'.ownBlock ≠ some b) ∧ b ≠ g) (ts ++ [t]) (xs ++ cs) := by
  have hzW := hbW.size
  have hz1 := hb1.size
  have hz2 := hg.size
  simp at hz2
  have hl := ho.lt
  have hne : ∀ b, b < w1.heap.size → v.ownBlock ≠ some b → v'.ownBlock ≠ some b := by
    intro b hb h
    rcases hat with e | e <;> rw [e]
    · exact h
    · simp; omega
  have hs2 : ∀ b, b < w1.heap.size → v.ownBlock ≠ some b → w2.heap[b]? = w1.heap[b]? := fun b hb h =>
    (hg.block b (by simp; omega) (fun e => h e.symm)).trans (Below.heap_alloc w1 o b hb)
  refine (ht.keep (w' := w2) (fun b hb => ?_) (fun b hb => ?_)).append (TysR.one (hc.keep (w' := w2) (fun b hb => ?_) (fun b hb => ?_)))
  · exact (hs2 b (by omega) hb.2).trans ((hb1.block b (by omega)).trans (hbW.block b hb.1.2))
  · exact ⟨⟨⟨hb.1.1, by omega⟩, hne b (by omega) hb.2⟩, by omega⟩
  · have h1 := hb.1
    have h2 := hb.2
    exact hs2 b hb.2 (fun e => by have := (hl b e).2; omega)
  · have h1 := hb.1
    have h2 := hb.2
    exact ⟨⟨⟨by omega, by omega⟩, hne b hb.2 (fun e => by have := (hl b e).2; omega)⟩, by omega⟩

theorem awM_close {w w2 : World} {g : Nat} {c6 v' : Value} {xs : List Value} (hb : Below w.heap.size w w2) (hg : w.heap.size ≤ g)
    (hB : Blk w2 g 26 #[.int .i64 13, .string ⟨#[]⟩, .int .i64 2, .bool true, .slice none 0 0, .slice none 0 0, c6])
    (ho : w2.ownsRow w.heap.size 26 7 v' 3 xs) (hog : v'.ownBlock ≠ some g)
    (ht : TysR w2 (fun b => ((w.heap.size ≤ b ∧ b < w2.heap.size) ∧ v'.ownBlock ≠ some b) ∧ b ≠ g) [mkT 1 [], mkT 11 [mkT 2 []], mkT 3 []] xs) : AwM w (w2.setCell ⟨g, 6, none⟩ v') g := by
  obtain ⟨A, c, rfl⟩ := own_form ho
  have hl := hB.lt
  refine ⟨hb.setCell hg _, by simpa using hl, A, c, by simpa using hB.set_ 6 _, ?_⟩
  refine mk_close (S1 := fun b => (w.heap.size ≤ b ∧ b < w2.heap.size) ∧ b ≠ g) (tysR_row ho (ht.keep (SameOn.refl _ _) (fun b hb => ⟨hb.1.1, hb.2⟩)) (fun b hb => ⟨ho.lt b hb, fun e => hog (e ▸ hb)⟩)) ?_ (fun b hb => by simpa using hb.1)
  exact (SameOn.refl _ _).set_ (fun h => h.2 rfl) _

theorem make_R {k n : Int} {l : Nat} {ks : List T} {v : Value} {w : World} {S : Nat → Prop} (hn : nT k l = n) (hle : ks.length = l) (ho : T.okL ks) (hl : ks.length * 112 ≤ Lim) (h : RowT w S v ks) (hS : Old S w) :
    Calls Try.prog 13 #[.int .i64 k, v] w fun e w' => ∃ A c, e = .returned (.agg #[.int .i64 k, .string ⟨#[]⟩, .int .i64 n, .bool false, .slice none 0 0, .slice none 0 0, .slice A l c]) ∧
      TyR w' (New w w') (mkT k ks) [.int .i64 k, .string ⟨#[]⟩, .int .i64 n, .bool false, .slice none 0 0, .slice none 0 0, .slice A l c] ∧ Below w.heap.size w w' := by
  subst hn; subst hle
  refine (make_own ho hl h hS).mono ?_
  rintro e w' ⟨u, xs, rfl, h1, h2, h3⟩
  obtain ⟨A, c, rfl⟩ := own_form h1
  refine ⟨A, c, rfl, ?_, h3⟩
  exact mk_close (S1 := New w w') (tysR_row h1 (h2.keep (SameOn.refl _ _) (fun b hb => hb.1)) (fun b hb => h1.lt b hb)) (SameOn.refl _ _) (fun _ h => h)

set_option maxHeartbeats 4000000 in
set_option maxRecDepth 100000 in
attribute [local go_sem ↓] Go.wp_at_zero Go.wp_at_succ in
theorem awake8 (w : World) : Calls Try.prog 17 #[] w fun e w' => e = .returned (.bool true) ∧ Below w.heap.size w w' := by
  obtain ⟨i0, hi, iz0, iz1, iz2⟩ := info_parts info_types
  go_enter Try.func17, Try.ntmps17
  go_wp2_with fail
  refine (make_R (k := 1) (n := 0) (l := 0) (S := fun _ => False) (ks := []) rfl rfl (by simp [T.okL]) (by simp) (rowT_nil _ _) (fun _ h => h.elim)).mono ?_
  rintro e w1 ⟨B3, b3, rfl, ht1, hb1⟩
  have HT1 := Lib.hid ht1
  have hz1 := hb1.size
  have HW1 := Lib.hid hb1
  clear ht1 hb1
  go_wp2_with fail
  refine (make_R (k := 2) (n := 0) (l := 0) (S := fun _ => False) (ks := []) rfl rfl (by simp [T.okL]) (by simp) (rowT_nil _ _) (fun _ h => h.elim)).mono ?_
  rintro e w2 ⟨C3, d3, rfl, ht2, hb2⟩
  have HT2 := Lib.hid ht2
  have hz2 := hb2.size
  have HT1' : Hid (TyR w2 (fun b => w.heap.size ≤ b ∧ b < w1.heap.size) (mkT 1 []) _) := HT1.out.keep (SameOn.of_below hb2 (fun b hb => hb.2)) (fun _ h => h)
  have HW2 := Lib.hid (HW1.out.trans (hb2.mono hz1))
  clear ht2 hb2 HT1 HW1
  go_wp2_with fail
  refine (make_R (k := 11) (n := 0) (l := 1) (S := fun b => w1.heap.size ≤ b ∧ b < w2.heap.size + 1) (ks := [mkT 2 []]) rfl rfl (by simp only [T.okL, and_true]; exact mkT_ok (by unfold i64ok; omega) (by simp) (by simp [T.okL])) (by simp [Lim])
    (row_one (Blk.new _ _ _) (HT2.out.keep ((SameOn.refl _ _).alloc (fun b hb => hb.2) _) (fun b hb => by have h1 := hb.1; have h2 := hb.2; omega)) (by omega)) (fun b hb => by simp; omega)).mono ?_
  rintro e w3 ⟨E3, e3, rfl, ht3, hb3⟩
  have hz3 := hb3.size
  simp at hz3
  have hx3 : Below w2.heap.size w2 w3 := ((Below.refl _ _).alloc (Nat.le_refl _) _).trans (hb3.mono (by simp))
  have HT3 : Hid (TyR w3 (fun b => w2.heap.size ≤ b ∧ b < w3.heap.size) (mkT 11 [mkT 2 []]) _) := ht3.keep (SameOn.refl _ _) (fun b hb => by have h1 := hb.1; have h2 := hb.2; simp at h1; omega)
  have HT13 : Hid (TyR w3 (fun b => w.heap.size ≤ b ∧ b < w3.heap.size) (mkT 1 []) _) := HT1'.out.keep (SameOn.of_below hx3 (fun b hb => by omega)) (fun b hb => by omega)
  have HW3 := Lib.hid (HW2.out.trans (hx3.mono (by omega)))
  clear ht3 hb3 hx3 HT1' HT2 HW2
  go_wp2_with fail
  have HROW : Hid (RowT (w3.alloc (.cells #[.int .i64 1, .string ⟨#[]⟩, .int .i64 0, .bool false, .slice none 0 0, .slice none 0 0, .slice B3 0 b3, .int .i64 11, .string ⟨#[]⟩, .int .i64 0, .bool false, .slice none 0 0, .slice none 0 0, .slice E3 1 e3] 26)) (fun b => w.heap.size ≤ b ∧ b < w3.heap.size + 1) (.slice (some ⟨w3.heap.size, 0, none⟩) 2 2) [mkT 1 [], mkT 11 [mkT 2 []]]) :=
    row_two (cs := [.int .i64 1, .string ⟨#[]⟩, .int .i64 0, .bool false, .slice none 0 0, .slice none 0 0, .slice B3 0 b3]) (ds := [.int .i64 11, .string ⟨#[]⟩, .int .i64 0, .bool false, .slice none 0 0, .slice none 0 0, .slice E3 1 e3]) (Blk.new _ _ _) (HT13.out.keep ((SameOn.refl _ _).alloc (fun b hb => hb.2) _) (fun b hb => by omega)) (HT3.out.keep ((SameOn.refl _ _).alloc (fun b hb => hb.2) _) (fun b hb => by omega)) (by omega)
  refine (make_own (k := 13) (S := fun b => w.heap.size ≤ b ∧ b < w3.heap.size + 1) (ks := [mkT 1 [], mkT 11 [mkT 2 []]]) ?okk (by simp [Lim]) HROW.out (fun b hb => by simp; omega)).mono ?_
  case okk =>
    simp only [T.okL, and_true]
    exact ⟨mkT_ok (by unfold i64ok; omega) (by simp) (by simp [T.okL]), mkT_ok (by unfold i64ok; omega) (by simp [Lim]) (by simp only [T.okL, and_true]; exact mkT_ok (by unfold i64ok; omega) (by simp) (by simp [T.okL]))⟩
  rintro e w4 ⟨u, xs, rfl, ho4, ht4, hb4⟩
  have ho4 : w4.ownsRow (w3.heap.size + 1) 26 7 u 2 xs := by simpa using ho4
  obtain ⟨A4, c4, rfl⟩ := own_form ho4
  have hz4 := hb4.size
  simp at hz4
  have HW4 : Hid (Below w.heap.size w w4) := HW3.out.trans ((((Below.refl w3.heap.size w3).alloc (Nat.le_refl _) _).trans (hb4.mono (by simp))).mono (by omega))
  have HT4 : Hid (TysR w4 (fun b => (w.heap.size ≤ b ∧ b < w4.heap.size) ∧ (Value.slice A4 2 c4).ownBlock ≠ some b) [mkT 1 [], mkT 11 [mkT 2 []]] xs) := ht4.keep (SameOn.refl _ _) (fun b hb => ⟨⟨by have h1 := hb.1.1; simp at h1; omega, hb.1.2⟩, hb.2⟩)
  have HO4 := Lib.hid (own_less ho4 (base' := w.heap.size) (by omega))
  clear ho4 ht4 hb4 HROW HT3 HT13 HW3
  rw [show nT 13 ([mkT 1 [], mkT 11 [mkT 2 []]] : List T).length = 2 from rfl]
  go_upto_region 3 with fail
  refine (fun H : (∀ X, (X.heap.size = w4.heap.size + 1 ∧ Below w4.heap.size w4 X ∧ Blk X w4.heap.size 26 _) → Code.wp _ _ _ _ X) => H _ ⟨by simp, (Below.refl _ _).alloc (Nat.le_refl _) _, Blk.new _ _ _⟩) ?_
  rintro X ⟨hzX, hbX, hBX⟩
  have HBX := Lib.hid hbX
  have HBB := Lib.hid hBX
  obtain ⟨g0, g1, g2, g3, g4, g5, g6, gf⟩ := hBX.cells7
  clear hbX hBX g0 g1 g2 g3 g4 g5
  have hl4 : w4.heap.size < X.heap.size := by omega
  go_cut [] (fun W => Hid (AwM w W w4.heap.size))
  case first =>
    go_region_law?
      (first
        | (go_simp
           go_at_call 13
           refine (make_R (k := 3) (n := 0) (l := 0) (S := fun _ => False) (ks := []) rfl rfl (by simp [T.okL]) (by simp) (rowT_nil _ _) (fun _ h => h.elim)).mono ?_
           rintro e w5 ⟨K3, k3, rfl, ht5, hb5⟩
           have hz5 := hb5.size
           simp at hz5
           have HT5 := Lib.hid ht5
           have HY5 := Lib.hid hb5
           have HX5 : Hid (Below X.heap.size X w5) := (Below.refl X.heap.size X).drew.trans hb5
           have hl5 : w4.heap.size < w5.heap.size := by omega
           have k6 := (cell_below HX5.out (b := w4.heap.size) (o := 6) hl4).trans g6
           clear ht5 hb5)
        | (refine step_append_row _ rfl _ _ 24 rfl w.heap.size 26 i0 _ 7 112 Try.underlying24 hi iz0 iz1 iz2 rfl (by omega) (.slice A4 2 c4) 2 xs (by simp [Act.eval]) ?c1 (fun b => b = w5.heap.size) (.slice (some ⟨w5.heap.size, 0, none⟩) 1 1) 1 [.int .i64 3, .string ⟨#[]⟩, .int .i64 0, .bool false, .slice none 0 0, .slice none 0 0, .slice K3 0 k3] (by simp [Act.eval]) ?c2 one7 (by unfold maxLen; omega) (by omega) ?c6 ?_
           case c1 => exact (own_below (own_below HO4.out HBX.out) HX5.out).alloc _
           case c2 => exact row_lit w5 _ 1 rfl (by unfold maxLen; omega)
           case c6 => simp; omega
           intro v' w6 hown hg hnil hat
           have hst := owns_step_g (base := w.heap.size) (g := w4.heap.size) HO4.out HT4.out (HBX.out.drew) (Nat.le_refl _) (by simp; omega) (by omega) HT5.out HY5.out hg (by simpa using hat)
           have hown : w6.ownsRow w.heap.size 26 7 v' 3 _ := hown
           obtain ⟨A6, c6, rfl⟩ := own_form hown
           have HST := Lib.hid hst
           have HON := Lib.hid hown
           have HB6 := Lib.hid (((HBB.out.below HX5.out (by omega)).alloc _).grown hg (fun e => by have := (HO4.out.lt _ e.symm).2; omega))
           have HW6 : Hid (Below w.heap.size w w6) := ((((HW4.out.trans (HBX.out.mono (by omega))).trans (HX5.out.mono (by omega))).alloc (by omega) _).grown hg (by simp; omega) (fun k hk => (HO4.out.lt k hk).1))
           have HNG : Hid ((Value.slice A6 3 c6).ownBlock ≠ some w4.heap.size) := fun e => by
             rcases hat with h | h
             · rw [h] at e; have := (HO4.out.lt _ e).2; omega
             · rw [h] at e; simp at e; omega
           obtain ⟨p0, p1, p2, p3, p4, p5, p6, pf⟩ := HB6.out.cells7
           clear hst hown hg hnil hat))
    all_goals
      go_wp2_with fail
      go_meet
      exact awM_close HW6.out (by omega) HB6.out HON.out HNG.out HST.out
  case rest =>
    obtain ⟨hbW, hgW, A3, c3, hBW, htW⟩ := hcut.out
    rename World => W
    obtain ⟨g0, g1, g2, g3, g4, g5, g6', gf⟩ := hBW.cells7
    have HBW := Lib.hid hbW
    have HTW := Lib.hid htW
    have HBK := Lib.hid hBW
    have hzW := hbW.size
    clear hbW htW hBW hcut
    go_wp2_with fail
    refine (txt_any 20 awT awT_sz _ W (fun b => w.heap.size ≤ b ∧ b < W.heap.size) awT_ok HTW.out (fun b hb => hb.2) (by rw [awT_txt]; show 25 ≤ _; unfold Lim; omega)).mono ?_
    rintro e w5 ⟨rfl, hb5⟩
    rw [awT_txt]
    have hz5 := hb5.size
    obtain ⟨k0, k1, k2, k3, k4, k5, k6, kf⟩ := (HBK.out.below hb5 hgW).cells7
    have hgW5 : w4.heap.size < w5.heap.size := by omega
    have HY5 := Lib.hid hb5
    clear hb5 g0 g1 g2 g3 g4 g5 g6' gf
    go_wp2_with fail
    refine (ident_calls (a := awT) (b := awT) (S := fun b => w.heap.size ≤ b ∧ b < W.heap.size) (S' := fun b => w.heap.size ≤ b ∧ b < W.heap.size) (HTW.out.keep (SameOn.of_below HY5.out (fun b hb => hb.2)) (fun _ h => h)) (HTW.out.keep (SameOn.of_below HY5.out (fun b hb => hb.2)) (fun _ h => h)) (fun b hb => by omega) (fun b hb => by omega)).mono ?_
    rintro e w6 ⟨rfl, hb6⟩
    rw [ident_refl]
    have HY6 : Hid (Below w.heap.size w w6) := (HBW.out.trans (HY5.out.mono hzW)).trans (hb6.mono (by omega))
    clear hb6
    go_wp2_with fail
    go_ret
    exact ⟨rfl, HY6.out⟩
end Go.Proofs.Ytanhdklaponekaa
