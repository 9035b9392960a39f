/- recastlaw8.TypesNothing: the walk: true. -/
import Derived.Test.YtanhdklaponekaaAwake8
import Derived.Test.YtanhdklaponekaaIn
import Derived.Test.YtanhdklaponekaaCmpW
import Derived.Test.YtanhdklaponekaaRCmp
import Derived.Deep.RegionHeld3
namespace Go.Proofs.Ytanhdklaponekaa
open Go Go.RowKit

theorem chainN {X x y : World} (h : Hid (Below X.heap.size X x)) (hb : Below x.heap.size x y) : Hid (Below X.heap.size X y) := h.out.trans (hb.mono h.out.size)
theorem held1 {w X W : World} {t : T} {X1 X2 X3 : Option Addr} {x1 x2 x3 : Nat} (h : Hid (Blk X w.heap.size 26 #[.int .i64 t.kd, .string t.nm, .int .i64 t.n, .bool t.fl, .slice X1 t.ns.length x1, .slice X2 t.ms.length x2, .slice X3 t.ks.length x3])) (hb : Hid (Below X.heap.size X W)) :
    W.cell? ⟨w.heap.size, 0, none⟩ = some (.int .i64 t.kd) ∧ W.cell? ⟨w.heap.size, 1, none⟩ = some (.string t.nm) ∧ W.cell? ⟨w.heap.size, 2, none⟩ = some (.int .i64 t.n) ∧ W.cell? ⟨w.heap.size, 3, none⟩ = some (.bool t.fl) ∧ W.cell? ⟨w.heap.size, 4, none⟩ = some (.slice X1 t.ns.length x1) ∧ W.cell? ⟨w.heap.size, 5, none⟩ = some (.slice X2 t.ms.length x2) ∧ W.cell? ⟨w.heap.size, 6, none⟩ = some (.slice X3 t.ks.length x3) := by
  have k1 := (h.out.below hb.out h.out.lt).cells7
  exact ⟨k1.1, k1.2.1, k1.2.2.1, k1.2.2.2.1, k1.2.2.2.2.1, k1.2.2.2.2.2.1, k1.2.2.2.2.2.2.1⟩

set_option maxHeartbeats 4000000 in
set_option maxRecDepth 100000 in
attribute [local go_sem ↓] Go.wp_at_zero Go.wp_at_succ in
theorem typesNothing_walk {t : T} {cs : List Value} {nm : ByteArray} {w : World} {S : Nat → Prop} (h : TyR w S t cs) (hS : Old S w) (ho : t.ok) :
    Calls Try.prog 6 #[.agg cs.toArray, .string nm] w fun e w' => e = .returned (.bool true) ∧ Below w.heap.size w w' := by
  obtain ⟨X1, x1, X2, x2, X3, x3, rfl, -⟩ := h.forms
  have H := Lib.hid h
  have HS := Lib.hid hS
  have HO := Lib.hid ho
  have HB0 := Lib.hid (Blk.new w 26 #[.int .i64 t.kd, .string t.nm, .int .i64 t.n, .bool t.fl, .slice X1 t.ns.length x1, .slice X2 t.ms.length x2, .slice X3 t.ks.length x3])
  have HX0 : Hid (Below w.heap.size w (w.alloc (.cells #[.int .i64 t.kd, .string t.nm, .int .i64 t.n, .bool t.fl, .slice X1 t.ns.length x1, .slice X2 t.ms.length x2, .slice X3 t.ks.length x3] 26))) := (Below.refl _ _).alloc (Nat.le_refl _) _
  clear h hS ho
  go_enter Try.func6, Try.ntmps6
  go_wp2_with fail
  refine (in_calls (ts := [t]) (S := fun b => S b ∨ b = w.heap.size + 1) (row_one (g := w.heap.size + 1) (by simpa using Blk.new (w.alloc (.cells #[.int .i64 t.kd, .string t.nm, .int .i64 t.n, .bool t.fl, .slice X1 t.ns.length x1, .slice X2 t.ms.length x2, .slice X3 t.ks.length x3] 26)) 26 #[.int .i64 t.kd, .string t.nm, .int .i64 t.n, .bool t.fl, .slice X1 t.ns.length x1, .slice X2 t.ms.length x2, .slice X3 t.ks.length x3]) (H.out.keep (((SameOn.refl _ _).alloc HS.out _).alloc (HS.out.alloc _) _) (fun _ h => .inl h)) (.inr rfl)) ?so).mono ?_
  case so =>
    rintro b (hb | rfl)
    · have := HS.out b hb; simp; omega
    · simp
  rintro e w1 ⟨rr, rfl, hin, hb1⟩
  have hz1 := hb1.size
  simp at hz1
  have HX1 : Hid (Below w.heap.size w w1) := (HX0.out.alloc (by simp) _).trans (hb1.mono (by simp; omega))
  have HBB : Hid (Blk w1 w.heap.size 26 #[.int .i64 t.kd, .string t.nm, .int .i64 t.n, .bool t.fl, .slice X1 t.ns.length x1, .slice X2 t.ms.length x2, .slice X3 t.ks.length x3]) := (HB0.out.alloc _).below hb1 (by simp; omega)
  have HIN := Lib.hid hin
  clear hb1 hin
  cases rr with
  | false =>
    go_wp2_with fail
    refine (awake8 _).mono ?_
    rintro e w2 ⟨rfl, hb2⟩
    have HB2 : Hid (Below w.heap.size w w2) := HX1.out.trans (hb2.mono (by omega))
    clear hb2
    go_wp2_with fail
    go_ret
    exact ⟨rfl, HB2.out⟩
  | true =>
    have HSH := Lib.hid (HIN.out rfl t (by simp)).2
    clear HIN
    go_wp2_with fail
    refine named_nil.mono ?_
    rintro e w2 ⟨rfl, hb2⟩
    have hz2 := hb2.size
    have HX2 : Hid (Below w.heap.size w w2) := HX1.out.trans (hb2.mono (by omega))
    have HB2 : Hid (Blk w2 w.heap.size 26 #[.int .i64 t.kd, .string t.nm, .int .i64 t.n, .bool t.fl, .slice X1 t.ns.length x1, .slice X2 t.ms.length x2, .slice X3 t.ks.length x3]) := HBB.out.below hb2 (by omega)
    clear hb2
    go_wp2_with fail
    refine (fun HH : (∀ X, (X.heap.size = w2.heap.size + 2 ∧ Below w2.heap.size w2 X ∧ NoW X (w2.heap.size + 1)) → Code.wp _ _ _ _ X) => HH _ ⟨by simp, ((Below.refl _ _).alloc (Nat.le_refl _) _).alloc (by simp) _, ?now⟩) ?_
    case now => unfold NoW; rw [World.cell?_alloc_at _ _ _ _ (by simp)]; rfl
    rintro X ⟨hzX, hbX, hnoX⟩
    have HX : Hid (Below w.heap.size w X) := HX2.out.trans (hbX.mono (by omega))
    have HB : Hid (Blk X w.heap.size 26 #[.int .i64 t.kd, .string t.nm, .int .i64 t.n, .bool t.fl, .slice X1 t.ns.length x1, .slice X2 t.ms.length x2, .slice X3 t.ks.length x3]) := HB2.out.below hbX (by omega)
    have HNO := Lib.hid hnoX
    have HCW : Hid (Below X.heap.size X X.drew) := (Below.refl _ _).drew
    clear hbX hnoX
    have HKP : Hid (∀ V, Hid (Below X.heap.size X V) → TyR V S t [.int .i64 t.kd, .string t.nm, .int .i64 t.n, .bool t.fl, .slice X1 t.ns.length x1, .slice X2 t.ms.length x2, .slice X3 t.ks.length x3] ∧ Old S V ∧ w2.heap.size + 1 < V.heap.size ∧ NoW V (w2.heap.size + 1)) := fun V hV =>
      ⟨H.out.keep ((SameOn.of_below HX.out HS.out).trans (SameOn.of_below hV.out (HS.out.below HX.out))) (fun _ h => h), (HS.out.below HX.out).below hV.out, by have := hV.out.size; omega, HNO.out.below hV.out (by omega)⟩
    obtain ⟨r, hr⟩ : ∃ r, cmp t.sz t = r := ⟨_, rfl⟩
    obtain ⟨r2, hr2⟩ : ∃ r, nilB t.kd = r := ⟨_, rfl⟩
    have HR := Lib.hid hr
    have HR2 := Lib.hid hr2
    clear hr hr2
    go_region_held3 (fun w' => w'.cell? ⟨w.heap.size, 0, none⟩ = some (.int .i64 t.kd) ∧ w'.cell? ⟨w.heap.size, 1, none⟩ = some (.string t.nm) ∧ w'.cell? ⟨w.heap.size, 2, none⟩ = some (.int .i64 t.n) ∧ w'.cell? ⟨w.heap.size, 3, none⟩ = some (.bool t.fl) ∧ w'.cell? ⟨w.heap.size, 4, none⟩ = some (.slice X1 t.ns.length x1) ∧ w'.cell? ⟨w.heap.size, 5, none⟩ = some (.slice X2 t.ms.length x2) ∧ w'.cell? ⟨w.heap.size, 6, none⟩ = some (.slice X3 t.ks.length x3)) (exact held1 HB (by assumption))
      (first
        | (go_at_call 24
           refine (underO_nil (t := t) (S := S) HO.out (HKP.out _ (by assumption)).1 (HKP.out _ (by assumption)).2.1).mono ?_
           rintro e w3 h3
           obtain ⟨E1, e1, E2, e2, E3, e3, rfl, ht3, hb3⟩ := h3.forms
           have HT3 := Lib.hid ht3
           have HC3 := chainN (by assumption) hb3
           clear h3 hb3 ht3)
        | (go_at_call 18
           refine (alike_calls (t := t) HT3.out (HKP.out _ (by assumption)).1 (fun b hb => hb.2) (HKP.out _ (by assumption)).2.1).mono ?_
           rintro e w4 ⟨rfl, hb4⟩
           have HC4 := chainN (by assumption) hb4
           clear hb4)
        | (go_at_call 25
           refine (cmp_any t.sz t (Nat.le_refl _) _ _ S (HKP.out _ (by assumption)).1 (HKP.out _ (by assumption)).2.1).mono ?_
           rintro e w5 ⟨rfl, hb5⟩
           rw [HR.out]
           have HC5 := chainN (by assumption) hb5
           clear hb5)
        | (go_at_call 26
           refine (rcmp_any t.sz t HSH.out (Nat.le_refl _) _ _ S (w2.heap.size + 1) (HKP.out _ (by assumption)).1 (HKP.out _ (by assumption)).2.1 (HKP.out _ (by assumption)).2.2.1 (HKP.out _ (by assumption)).2.2.2).mono ?_
           rintro e w6 ⟨rfl, hb6⟩
           rw [HR.out]
           have HC6 := chainN (by assumption) hb6
           clear hb6)
        | (go_at_call 27
           refine (nilable_nil (t := t) (S := S) (HKP.out _ (by assumption)).1).mono ?_
           rintro e w7 ⟨rfl, hb7⟩
           rw [HR2.out]
           have HC7 := chainN (by assumption) hb7
           clear hb7)
        | (go_at_call 28
           refine (rnilable_none (t := t) (S := S) (g := w2.heap.size + 1) (HKP.out _ (by assumption)).1 (HKP.out _ (by assumption)).2.2.1 (HKP.out _ (by assumption)).2.2.2).mono ?_
           rintro e w8 ⟨rfl, hb8⟩
           rw [HR2.out]
           have HC8 := chainN (by assumption) hb8
           clear hb8)
        | (go_at_call 17
           refine (awake8 _).mono ?_
           rintro e w9 ⟨rfl, hb9⟩
           have HC9 := chainN (by assumption) hb9
           clear hb9))
    all_goals
      go_wp2_with fail
      go_ret
      exact ⟨rfl, HX.out.trans (HC9.out.mono (by omega))⟩
end Go.Proofs.Ytanhdklaponekaa
