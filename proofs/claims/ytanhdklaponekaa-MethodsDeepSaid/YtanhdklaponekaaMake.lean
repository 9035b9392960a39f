/- types.Make, types.Name, unify.own, unify.bare, unify.odd, recastlaw11.param. -/
import Derived.Test.YtanhdklaponekaaSubstA
namespace Go.Proofs.Ytanhdklaponekaa
open Go Go.RowKit

def mkT (k : Int) (ks : List T) : T := .mk k ⟨#[]⟩ (if k = 13 then ks.length else 0) false [] [] ks

theorem tysR_row {w : World} {base : Nat} {E : TypeId} {v : Value} {ts : List T} {xs : List Value} {S : Nat → Prop} (ho : w.ownsRow base E 7 v ts.length xs) (ht : TysR w S ts xs) (hS : ∀ b, v.ownBlock = some b → S b) : RowT w S v ts :=
  ⟨xs, Row.of_own ho hS, ht⟩

theorem mk_close {w1 W' : World} {S1 S' : Nat → Prop} {v : Value} {ks : List T} {k n : Int} {nm : ByteArray} {f : Bool} (h : RowT w1 S1 v ks) (hs : SameOn S1 w1 W') (hsub : ∀ b, S1 b → S' b) :
    TyR W' S' (.mk k nm n f [] [] ks) [.int .i64 k, .string nm, .int .i64 n, .bool f, .slice none 0 0, .slice none 0 0, v] := by
  obtain ⟨xs, h1, h2⟩ := h.keep hs hsub
  simp only [TyR]
  exact ⟨_, _, _, xs, rfl, Row.nil_, Row.nil_, h1, h2⟩

set_option maxHeartbeats 1000000 in
theorem make_calls {k : Int} {ks : List T} {v : Value} {w : World} {S : Nat → Prop} (ho : T.okL ks) (hl : ks.length * 112 ≤ Lim) (h : RowT w S v ks) (hS : Old S w) :
    Calls Try.prog 13 #[.int .i64 k, v] w (TRes w (mkT k ks)) := by
  obtain ⟨A, cap, rfl, hlen⟩ := h.form
  have H := Lib.hid h
  have HS := Lib.hid hS
  have HO := Lib.hid ho
  have HL := Lib.hid hl
  clear h hS ho hl
  go_enter Try.func13, Try.ntmps13
  go_wp2_with fail
  refine (owns_calls HO.out HL.out (H.out.al HS.out _) (HS.out.alloc _)).mono ?_
  rintro e w1 ⟨v1, xs, rfl, ho1, ht1, hb1⟩
  obtain ⟨A1, c1, rfl⟩ := own_form ho1
  have hz1 := hb1.size
  simp at hz1
  have hB : Blk w1 w.heap.size 26 #[.int .i64 0, .string ⟨#[]⟩, .int .i64 0, .bool false, .slice none 0 0, .slice none 0 0, .slice none 0 0] :=
    (Blk.new w _ _).below hb1 (by simp)
  obtain ⟨g0, g1, g2, g3, g4, g5, g6, gf⟩ := hB.cells7
  have hlt : w.heap.size < w1.heap.size := by omega
  have hne : ¬ w.heap.size = w1.heap.size := by omega
  have hbw : Below w.heap.size w w1 := ((Below.refl _ _).alloc (Nat.le_refl _) _).trans (hb1.mono (by simp))
  have HR1 : Hid (RowT w1 (fun b => w.heap.size + 1 ≤ b ∧ b < w1.heap.size) (.slice A1 ks.length c1) ks) := by
    refine tysR_row ho1 (ht1.keep (SameOn.refl _ _) (fun b hb => ?_)) (fun b hb => ?_)
    · have := hb.1.1; simp at this; exact ⟨this, hb.1.2⟩
    · have := ho1.lt b hb; simpa using this
  clear ho1 ht1 hb1 hB hz1
  by_cases hk : k = 13
  · subst hk
    go_wp2_with fail
    refine bodyPost_ret (v := .agg #[.int .i64 13, .string ⟨#[]⟩, .int .i64 ks.length, .bool false, .slice none 0 0, .slice none 0 0, .slice A1 ks.length c1]) (by simp [results, Try.results13, go_sem, g0, g1, g2, g3, g4, g5, g6, hlt]) rfl ⟨_, rfl, ?_, ?_⟩
    · rw [show mkT 13 ks = .mk 13 ⟨#[]⟩ ks.length false [] [] ks from by simp [mkT]]
      refine mk_close HR1.out ?_ (fun b hb => ⟨by omega, by simp; omega⟩)
      refine SameOn.alloc ?_ (fun b hb => by simp; exact hb.2) _
      repeat (refine SameOn.set_ ?_ (by simp; try omega) _)
      exact SameOn.refl _ _
    · refine Below.alloc ?_ (by simp; omega) _
      repeat (refine Below.setCell ?_ (by simp) _)
      exact hbw
  · have hkb : (k == 13) = false := by simpa using hk
    have HK := Lib.hid hk
    clear hk
    go_wp2_with fail
    refine bodyPost_ret (v := .agg #[.int .i64 k, .string ⟨#[]⟩, .int .i64 0, .bool false, .slice none 0 0, .slice none 0 0, .slice A1 ks.length c1]) (by simp [results, Try.results13, go_sem, g0, g1, g2, g3, g4, g5, g6, hlt]) rfl ⟨_, rfl, ?_, ?_⟩
    · rw [show mkT k ks = .mk k ⟨#[]⟩ 0 false [] [] ks from by rw [mkT, if_neg HK.out]]
      refine mk_close HR1.out ?_ (fun b hb => ⟨by omega, by simp; omega⟩)
      refine SameOn.alloc ?_ (fun b hb => by simp; exact hb.2) _
      repeat (refine SameOn.set_ ?_ (by simp; try omega) _)
      exact SameOn.refl _ _
    · refine Below.alloc ?_ (by simp; omega) _
      repeat (refine Below.setCell ?_ (by simp) _)
      exact hbw

def nameT (nm : ByteArray) : T := .mk 8 nm 0 false [] [] []
theorem name_calls {nm : ByteArray} {w : World} : Calls Try.prog 20 #[.string nm] w (TRes w (nameT nm)) := by
  go_enter Try.func20, Try.ntmps20
  go_wp2_with fail
  refine bodyPost_ret (v := .agg #[.int .i64 8, .string nm, .int .i64 0, .bool false, .slice none 0 0, .slice none 0 0, .slice none 0 0]) (by simp [results, Try.results20, go_sem]) rfl ⟨_, rfl, ?_, ?_⟩
  · exact mk_close (rowT_nil w (fun _ => False)) (fun b hb => hb.elim) (fun b hb => hb.elim)
  · first | exact (Below.refl _ _).alloc (Nat.le_refl _) _ | (repeat (refine Below.setCell ?_ (by simp) _); exact (Below.refl _ _).alloc (Nat.le_refl _) _)

set_option maxHeartbeats 1000000 in
theorem uown_calls {t : T} {cs : List Value} {w : World} {S : Nat → Prop} (ho : t.ok) (h : TyR w S t cs) (hS : Old S w) : Calls Try.prog 36 #[.agg cs.toArray] w (TRes w t) := by
  obtain ⟨A1, c1, A2, c2, A3, c3, rfl, -⟩ := h.forms
  have H := Lib.hid h
  have HS := Lib.hid hS
  have HO := Lib.hid ho
  clear h hS ho
  go_enter Try.func36, Try.ntmps36
  go_wp2_with fail
  refine (subst_calls (us := []) (S' := fun _ => False) HO.out (by simp [T.okL]) ((H.out.al HS.out _).al (HS.out.alloc _) _) (rowT_nil _ _) ((HS.out.alloc _).alloc _) (fun _ h => h.elim)).mono ?_
  rintro e w1 h1
  rw [subst_nil] at h1
  obtain ⟨E1, e1, E2, e2, E3, e3, rfl, ht1, hb1⟩ := h1.forms
  have HT1 := Lib.hid ht1
  have hz1 := hb1.size
  simp at hz1
  have hB2 : Blk w1 (w.heap.size + 1) 26 #[.int .i64 0, .string ⟨#[]⟩, .int .i64 0, .bool false, .slice none 0 0, .slice none 0 0, .slice none 0 0] := by
    refine Blk.below ?_ hb1 (by simp)
    simpa using Blk.new (w.alloc _) _ _
  obtain ⟨n0, n1, n2, n3, n4, n5, n6, nf⟩ := hB2.cells7
  have hbw : Below w.heap.size w w1 := (((Below.refl _ _).alloc (Nat.le_refl _) _).alloc (by simp) _).trans (hb1.mono (by simp; omega))
  have HBW := Lib.hid hb1
  clear h1 ht1 hb1 hB2
  go_wp2_with fail
  refine bodyPost_ret (v := .agg #[.int .i64 t.kd, .string t.nm, .int .i64 t.n, .bool t.fl, .slice E1 t.ns.length e1, .slice E2 t.ms.length e2, .slice E3 t.ks.length e3]) (by simp [results, Try.results36, go_sem, n0, n1, n2, n3, n4, n5, n6]) rfl ⟨_, rfl, ?_, ?_⟩
  · refine HT1.out.keep (S' := fun b => w.heap.size ≤ b ∧ b < _) ?_ (fun b hb => ?_)
    · repeat (refine SameOn.set_ ?_ (fun h => by have := h.1; simp at this; omega) _)
      exact SameOn.refl _ _
    · have h1 := hb.1; have h2 := hb.2; simp at h1; exact ⟨by omega, by simpa using h2⟩
  · repeat (refine Below.setCell ?_ (by simp) _)
    exact hbw
end Go.Proofs.Ytanhdklaponekaa
