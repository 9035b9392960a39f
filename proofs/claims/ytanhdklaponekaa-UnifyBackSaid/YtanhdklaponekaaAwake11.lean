/- recastlaw11.awake: true. -/
import Derived.Test.YtanhdklaponekaaMatchC
namespace Go.Proofs.Ytanhdklaponekaa
open Go Go.RowKit

theorem match_calls {p q : T} {us : List T} {xs cs ds : List Value} {w : World} {S S' SA : Nat → Prop} {base g cap : Nat} (hlim : us.length ≤ 1000000000000) (hp : TyR w S p cs) (hq : TyR w S' q ds) (hok : q.ok) (hS : Old S w) (hS' : Old S' w) (hA : Old SA w)
    (hn : ¬ S g) (hn' : ¬ S' g) (hnA : ¬ SA g) (ho : w.ownsRow base 26 7 (.slice (some ⟨g, 0, none⟩) us.length cap) us.length xs) (ht : TysR w SA us xs) :
    Calls Try.prog 11 #[.agg cs.toArray, .agg ds.toArray, .slice (some ⟨g, 0, none⟩) us.length cap] w (MatchRes base g cap SA w (matchT p q us)) :=
  match_any base g cap (p.sz + 1) p q us xs cs ds w S S' SA (Nat.lt_succ_self _) hlim hp hq hok hS hS' hA hn hn' hnA ho ht

def anyT : T := mkT 15 []
theorem mkT_ok {k : Int} {ks : List T} (hk : i64ok k) (hl : ks.length * 112 ≤ Lim) (ho : T.okL ks) : (mkT k ks).ok := by
  unfold mkT
  rw [T.ok]
  refine ⟨hk, ?_, by unfold Lim; exact Nat.zero_le _, by simp, by simp [Lim], by simp [Lim], hl, ho⟩
  split
  · unfold Lim at hl; unfold i64ok; omega
  · unfold i64ok; omega
theorem paramT_ok {n : Nat} {c : T} (hn : n ≤ 6) (ho : c.ok) : (paramT n c).ok := by
  unfold paramT
  rw [T.ok]
  refine ⟨by unfold i64ok; omega, by unfold i64ok; omega, by show 1 ≤ _; unfold Lim; omega, by simp, by simp [Lim], by simp [Lim], by simp [Lim], by simp [T.okL, ho]⟩
theorem anyT_ok : anyT.ok := mkT_ok (by unfold i64ok; omega) (by simp) (by simp [T.okL])
theorem make_one (w : World) : (Instr.makeSlice 24 (.int .i64 1) (.int .i64 1)).run Try.prog w =
    .ok (.slice (some ⟨w.heap.size, 0, none⟩) 1 1) (w.alloc (.cells #[.int .i64 0, .string ⟨#[]⟩, .int .i64 0, .bool false, .slice none 0 0, .slice none 0 0, .slice none 0 0] 26)) := by kernel_rfl
theorem zero_R (w : World) (S : Nat → Prop) : TyR w S T.zero [.int .i64 0, .string ⟨#[]⟩, .int .i64 0, .bool false, .slice none 0 0, .slice none 0 0, .slice none 0 0] := mk_close (rowT_nil w S) (SameOn.refl S w) (fun _ h => h)

/-- a []api.Type of one element that lies in a block of its own -/
theorem row_one {w : World} {S : Nat → Prop} {t : T} {g : Nat} {c0 c1 c2 c3 c4 c5 c6 : Value} (hb : Blk w g 26 #[c0, c1, c2, c3, c4, c5, c6]) (h : TyR w S t [c0, c1, c2, c3, c4, c5, c6]) (hg : S g) : RowT w S (.slice (some ⟨g, 0, none⟩) 1 1) [t] :=
  ⟨[c0, c1, c2, c3, c4, c5, c6], ⟨by simp, _, _, rfl, Nat.le_refl _, by unfold maxLen; omega, (fun e => by cases e), fun _ => ⟨g, 0, rfl, hg, fun j u hu => by rw [Nat.zero_add, hb.cell j]; simpa using hu⟩⟩, TysR.one h⟩

theorem awake11_law : matchT (mkT 11 [paramT 0 anyT]) (mkT 11 [mkT 1 []]) [T.zero] = (true, [mkT 1 []]) := by
  simp [matchT, mkT, paramT, fieldsEq, T.zero, matchL, atParam, oddB, bareB, T.kd, T.nm, T.n, T.fl, T.ns, T.ms, T.ks]

theorem own_of_blk {w : World} {g base n size : Nat} {e : TypeId} {cs : Array Value} (h : Blk w g e cs) (hb : base ≤ g) (hs : cs.size = n * size) (hm : n ≤ maxLen) : w.ownsRow base e size (.slice (some ⟨g, 0, none⟩) n n) n cs.toList :=
  ⟨by simpa using hs, .inr ⟨g, n, cs, rfl, hb, h, Nat.le_refl _, hm, hs, List.take_of_length_le (by rw [Array.length_toList, hs]; exact Nat.le_refl _)⟩⟩

theorem matchRes_one {base g : Nat} {SA : Nat → Prop} {w w' : World} {p q t : T} {us : List T} {e : Ending} (h : MatchRes base g 1 SA w (matchT p q us) e w') (hr : matchT p q us = (true, [t])) :
    e = .returned (.bool true) ∧ w.grownBy w' (some g) ∧ w'.cell? ⟨g, 0, none⟩ = some (.int .i64 t.kd) := by
  rw [hr] at h
  obtain ⟨rfl, hg, xs, ho, ht⟩ := h
  obtain ⟨A1, c1, A2, c2, A3, c3, hx, hy, -⟩ := tysR_mid ht (m := 0) (by simp)
  rw [hx] at ho
  have := (own_cells7 (j := 0) ho hy).1
  exact ⟨rfl, hg, by simpa using this⟩

set_option maxHeartbeats 4000000 in
attribute [local go_sem ↓] Go.wp_at_zero Go.wp_at_succ in
theorem awake11 (w : World) : Calls Try.prog 10 #[] w fun e w' => e = .returned (.bool true) ∧ Below w.heap.size w w' := by
  have hmk := make_one
  go_enter Try.func10, Try.ntmps10
  go_wp2_with fail
  refine (make_calls (S := fun _ => False) (ks := []) (by simp [T.okL]) (by simp) (rowT_nil _ _) (fun _ h => h.elim)).mono ?_
  rintro e w1 h1
  obtain ⟨B1, b1, B2, b2, B3, b3, rfl, ht1, hb1⟩ := h1.forms
  have HT1 := Lib.hid ht1
  have hz1 := hb1.size
  simp at hz1
  have HW1 := Lib.hid (((Below.refl _ _).alloc (Nat.le_refl w.heap.size) (.cells #[.int .i64 0, .string ⟨#[]⟩, .int .i64 0, .bool false, .slice none 0 0, .slice none 0 0, .slice none 0 0] 26)).trans (hb1.mono (by simp)))
  have HG1 := Lib.hid ((Blk.new w 26 #[.int .i64 0, .string ⟨#[]⟩, .int .i64 0, .bool false, .slice none 0 0, .slice none 0 0, .slice none 0 0]).below hb1 (by simp))
  clear h1 ht1 hb1
  go_wp2_with fail
  refine (param_calls (n := 0) (c := anyT) (S := fun b => w.heap.size + 1 ≤ b ∧ b < w1.heap.size) (by omega) (HT1.out.keep (SameOn.refl _ _) (fun b hb => by have := hb.1; have := hb.2; simp at *; omega)) (fun b hb => hb.2)).mono ?_
  rintro e w2 ⟨ds, rfl, ht2, hb2⟩
  obtain ⟨C1, d1, C2, d2, C3, d3, rfl, -⟩ := ht2.forms
  have hz2 := hb2.size
  have HW2 := Lib.hid (HW1.out.trans (hb2.mono (by omega)))
  have HG2 := Lib.hid (HG1.out.below hb2 (by omega))
  have HT2 : Hid (TyR w2 (fun b => w.heap.size + 1 ≤ b ∧ b < w2.heap.size) (paramT 0 anyT) _) := ht2.keep (SameOn.refl _ _) (fun b hb => by rcases hb with hb | hb; exact ⟨hb.1, by omega⟩; exact ⟨by have := hb.1; omega, hb.2⟩)
  clear ht2 hb2 HT1 HG1
  go_wp2_with fail
  refine (make_calls (S := fun b => w.heap.size + 1 ≤ b ∧ b < w2.heap.size + 1) (ks := [paramT 0 anyT]) (by simp [T.okL, paramT_ok (n := 0) (by omega) anyT_ok]) (by simp [Lim])
    (row_one (Blk.new _ _ _) (HT2.out.keep ((SameOn.refl _ _).alloc (fun b hb => hb.2) _) (fun b hb => by omega)) (by omega)) (fun b hb => by simp; omega)).mono ?_
  rintro e w3 h3
  obtain ⟨E1, e1, E2, e2, E3, e3, rfl, ht3, hb3⟩ := h3.forms
  have hz3 := hb3.size
  simp at hz3
  have HW3 := Lib.hid (HW2.out.trans (((Below.refl _ _).alloc (Nat.le_refl w2.heap.size) _).trans (hb3.mono (by simp)) |>.mono (by omega)))
  have HG3 := Lib.hid ((HG2.out.alloc _).below hb3 (by simp; omega))
  have HT3 : Hid (TyR w3 (fun b => w.heap.size + 1 ≤ b ∧ b < w3.heap.size) (mkT 11 [paramT 0 anyT]) _) := ht3.keep (SameOn.refl _ _) (fun b hb => by have h1 := hb.1; have h2 := hb.2; simp at h1; omega)
  clear h3 ht3 hb3 HT2 HG2
  simp only [mkT, mk_kd, mk_nm, mk_n, mk_fl, mk_ns, mk_ms, mk_ks] at HT3 ⊢
  go_wp2_with fail
  refine (fun H : (∀ X, (Below w.heap.size w X ∧ w3.heap.size + 1 ≤ X.heap.size ∧ Blk X w3.heap.size 26 _ ∧ Blk X w.heap.size 26 _ ∧ TyR X (fun b => w.heap.size + 1 ≤ b ∧ b < w3.heap.size) _ _) → Code.wp _ _ _ _ X) => H _ ⟨HW3.out.alloc (by omega) _, by simp, Blk.new _ _ _, HG3.out.alloc _, HT3.out.keep ((SameOn.refl _ _).alloc (fun b hb => hb.2) _) (fun _ h => h)⟩) ?_
  rintro X ⟨hbX, hzX, hB3, hG, hT⟩
  obtain ⟨g0, g1, g2, g3, g4, g5, g6, gf⟩ := hB3.cells7
  have HBX := Lib.hid hbX
  have HB3 := Lib.hid hB3
  have HG := Lib.hid hG
  have HT := Lib.hid hT
  clear hbX hB3 hG hT HT3 HG3 HW3 HW2 HW1
  have hwz : w.heap.size < X.heap.size := HG.out.lt
  go_region_with
    (first
      | (go_at_call_of 13 (Value.int .i64 1)
         refine (make_calls (k := 1) (S := fun _ => False) (ks := []) (by simp [T.okL]) (by simp) (rowT_nil _ _) (fun _ h => h.elim)).mono ?_
         rintro e w4 h4
         obtain ⟨F1, f1, F2, f2, F3, f3, rfl, ht4, hb4⟩ := h4.forms
         have hz4 := hb4.size
         simp at hz4
         have HT4 : Hid (TyR w4 (fun b => X.heap.size ≤ b ∧ b < w4.heap.size) (mkT 1 []) _) := ht4.keep (SameOn.refl _ _) (fun b hb => by have h1 := hb.1; have h2 := hb.2; simp at h1; exact ⟨h1, h2⟩)
         simp only [mkT, mk_kd, mk_nm, mk_n, mk_fl, mk_ns, mk_ms, mk_ks] at HT4 ⊢
         have HX4 := Lib.hid ((Below.refl X.heap.size X).drew.trans hb4)
         have hl4 : w3.heap.size < w4.heap.size := by omega
         obtain ⟨p0, p1, p2, p3, p4, p5, p6, pf⟩ := (HB3.out.below HX4.out (by omega)).cells7
         clear h4 ht4 hb4)
      | (go_at_call_of 13 (Value.int .i64 11)
         refine (make_calls (k := 11) (S := fun b => X.heap.size ≤ b ∧ b < w4.heap.size + 1) (ks := [mkT 1 []]) (by simp only [T.okL, and_true]; exact mkT_ok (by unfold i64ok; omega) (by simp) (by simp [T.okL])) (by simp [Lim])
           (row_one (Blk.new _ _ _) (HT4.out.keep ((SameOn.refl _ _).alloc (fun b hb => hb.2) _) (fun b hb => by omega)) (by omega)) (fun b hb => by simp; omega)).mono ?_
         rintro e w5 h5
         obtain ⟨K1, k1, K2, k2, K3, k3, rfl, ht5, hb5⟩ := h5.forms
         have hz5 := hb5.size
         simp at hz5
         have HT5 : Hid (TyR w5 (fun b => X.heap.size ≤ b ∧ b < w5.heap.size) (mkT 11 [mkT 1 []]) _) := ht5.keep (SameOn.refl _ _) (fun b hb => by have h1 := hb.1; have h2 := hb.2; simp at h1; omega)
         have hx5 : Below X.heap.size X w5 := HX4.out.trans (((Below.refl _ _).alloc (Nat.le_refl w4.heap.size) _).trans (hb5.mono (by simp)) |>.mono (by omega))
         have HX5 := Lib.hid hx5
         simp only [mkT, mk_kd, mk_nm, mk_n, mk_fl, mk_ns, mk_ms, mk_ks] at HT5 ⊢
         obtain ⟨q0, q1, q2, q3, q4, q5, q6, qf⟩ := (HB3.out.below hx5 (by omega)).cells7
         clear h5 ht5 hb5 hx5)
      | (go_at_call 11
         refine (match_calls (us := [T.zero]) (S := fun b => w.heap.size + 1 ≤ b ∧ b < w3.heap.size) (S' := fun b => X.heap.size ≤ b ∧ b < w5.heap.size) (SA := fun _ => False) (base := w.heap.size) (by simp) (HT.out.keep (SameOn.of_below HX5.out (fun b hb => by omega)) (fun _ h => h)) HT5.out
           (mkT_ok (k := 11) (ks := [mkT 1 []]) (by unfold i64ok; omega) (by simp [Lim]) (by simp only [T.okL, and_true]; exact mkT_ok (by unfold i64ok; omega) (by simp) (by simp [T.okL]))) (fun b hb => by have := HX5.out.size; omega) (fun b hb => hb.2) (fun _ h => h.elim) (by omega) (by omega) (fun h => h)
           (own_of_blk (HG.out.below HX5.out hwz) (Nat.le_refl _) rfl (by simp only [List.length_singleton]; unfold maxLen; omega)) (TysR.one (zero_R _ _))).mono ?_
         rintro e w6 h6
         obtain ⟨rfl, hg6, hc6⟩ := matchRes_one h6 awake11_law
         simp only [mkT, mk_kd] at hc6
         have HG6 := Lib.hid hg6
         clear h6 hg6)
      | fail)
  all_goals
    go_wp2_with fail
    go_ret
    refine ⟨rfl, ?_⟩
    have hb5 := HBX.out.trans (HX5.out.mono (by omega))
    exact hb5.grown HG6.out hb5.size (fun k hk => by injection hk with hk; omega)
end Go.Proofs.Ytanhdklaponekaa
