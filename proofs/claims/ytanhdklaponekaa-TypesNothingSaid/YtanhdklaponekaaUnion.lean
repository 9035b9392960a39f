/- types.union: a type parameter's union. -/
import Derived.Test.YtanhdklaponekaaNilU
import Derived.Test.YtanhdklaponekaaAlike
import Derived.Test.YtanhdklaponekaaTLaw
import Derived.BigRegion
namespace Go.Proofs.Ytanhdklaponekaa
open Go Go.RowKit

theorem SameOn.drew' {S : Nat → Prop} {x y : World} (h : SameOn S x y) : SameOn S x y.drew := h
def unionB (t : T) : Bool := decide (t.kd = 9 ∧ (t.kid 0).kd = 16)
def UnionRes (t : T) (S : Nat → Prop) (w : World) (e : Ending) (w' : World) : Prop := ∃ E1 e1 E2 e2 E3 e3,
  e = .returned (.tuple #[.agg #[.int .i64 (t.kid 0).kd, .string (t.kid 0).nm, .int .i64 (t.kid 0).n, .bool (t.kid 0).fl, .slice E1 (t.kid 0).ns.length e1, .slice E2 (t.kid 0).ms.length e2, .slice E3 (t.kid 0).ks.length e3], .bool (unionB t)]) ∧
  TyR w' S (t.kid 0) [.int .i64 (t.kid 0).kd, .string (t.kid 0).nm, .int .i64 (t.kid 0).n, .bool (t.kid 0).fl, .slice E1 (t.kid 0).ns.length e1, .slice E2 (t.kid 0).ms.length e2, .slice E3 (t.kid 0).ks.length e3] ∧ Below w.heap.size w w'

set_option maxHeartbeats 4000000 in
set_option maxRecDepth 100000 in
theorem union_calls {t : T} {cs : List Value} {w : World} {S : Nat → Prop} (h : TyR w S t cs) (hS : Old S w) : Calls Try.prog 58 #[.agg cs.toArray] w (UnionRes t S w) := by
  obtain ⟨A1, c1, A2, c2, A3, c3, rfl, -⟩ := h.forms
  have H := Lib.hid h
  have HS := Lib.hid hS
  clear h hS
  go_enter Try.func58, Try.ntmps58
  go_wp2_with fail
  refine (kid_calls (S := S) (H.out.keep (((SameOn.refl _ _).alloc HS.out _).alloc (HS.out.alloc _) _) (fun _ h => h)) ((HS.out.alloc _).alloc _)).mono ?_
  rintro e w1 ⟨ds, rfl, hkd, hb1⟩
  obtain ⟨E1, e1, E2, e2, E3, e3, rfl, -⟩ := hkd.forms
  have hz1 := hb1.size
  simp at hz1
  have hB0 := two_blks w 26 #[.int .i64 t.kd, .string t.nm, .int .i64 t.n, .bool t.fl, .slice A1 t.ns.length c1, .slice A2 t.ms.length c2, .slice A3 t.ks.length c3] #[.int .i64 0, .string ⟨#[]⟩, .int .i64 0, .bool false, .slice none 0 0, .slice none 0 0, .slice none 0 0]
  have hB := And.intro (hB0.1.below hb1 (by simp; omega)) (hB0.2.below hb1 (by simp))
  clear hB0
  obtain ⟨g0, g1, g2, g3, g4, g5, g6, gf⟩ := hB.1.cells7
  obtain ⟨n0, n1, n2, n3, n4, n5, n6, nf⟩ := hB.2.cells7
  have HX : Hid (Below w.heap.size w w1) := (((Below.refl _ _).alloc (Nat.le_refl _) _).alloc (by simp) _).trans (hb1.mono (by simp; omega))
  have HKD := Lib.hid hkd
  have hl1 : w.heap.size < w1.heap.size := by omega
  have hl2 : w.heap.size + 1 < w1.heap.size := by omega
  have hne1 : ¬w.heap.size + 1 = w1.heap.size := by omega
  have hne2 : ¬w.heap.size = w1.heap.size := by omega
  clear hkd hb1 hB hz1
  by_cases h9 : t.kd = 9
  · have hb9 : (t.kd == 9) = true := by simpa using h9
    obtain ⟨r, hr⟩ : ∃ r, unionB t = r := ⟨_, rfl⟩
    have hb16 : ((t.kid 0).kd == 16) = r := by rw [← hr, unionB]; simp [h9]; rfl
    have HU := Lib.hid hr
    clear hr h9
    go_wp2_with fail
    go_region
    all_goals
      go_wp2_with fail
      refine bodyPost_ret (v := .tuple #[.agg #[.int .i64 (t.kid 0).kd, .string (t.kid 0).nm, .int .i64 (t.kid 0).n, .bool (t.kid 0).fl, .slice E1 (t.kid 0).ns.length e1, .slice E2 (t.kid 0).ms.length e2, .slice E3 (t.kid 0).ks.length e3], .bool r]) (by simp [results, Try.results58, go_sem, n0, n1, n2, n3, n4, n5, n6, hl2]) rfl ⟨E1, e1, E2, e2, E3, e3, by rw [HU.out], ?_, ?_⟩
      · refine HKD.out.keep ?_ (fun _ h => h)
        refine SameOn.drew' (SameOn.alloc ?_ (fun b hb => by have := HS.out b hb; simp; omega) _)
        repeat (refine SameOn.set_ ?_ (fun h => by have h1 : w.heap.size + 1 < w.heap.size := HS.out _ h; omega) _)
        exact SameOn.refl _ _
      · refine Below.drew (Below.alloc ?_ (by simp; omega) _)
        repeat (refine Below.setCell ?_ (by simp) _)
        exact HX.out
  · have hb9 : (t.kd == 9) = false := by simpa using h9
    have HU : Hid (unionB t = false) := by unfold Hid unionB; simp [h9]
    clear h9
    go_wp2_with fail
    go_region
    all_goals
      go_wp2_with fail
      refine bodyPost_ret (v := .tuple #[.agg #[.int .i64 (t.kid 0).kd, .string (t.kid 0).nm, .int .i64 (t.kid 0).n, .bool (t.kid 0).fl, .slice E1 (t.kid 0).ns.length e1, .slice E2 (t.kid 0).ms.length e2, .slice E3 (t.kid 0).ks.length e3], .bool false]) (by simp [results, Try.results58, go_sem, n0, n1, n2, n3, n4, n5, n6, hl2]) rfl ⟨E1, e1, E2, e2, E3, e3, by rw [HU.out], ?_, ?_⟩
      · refine HKD.out.keep ?_ (fun _ h => h)
        refine SameOn.drew' (SameOn.alloc ?_ (fun b hb => by have := HS.out b hb; simp; omega) _)
        repeat (refine SameOn.set_ ?_ (fun h => by have h1 : w.heap.size + 1 < w.heap.size := HS.out _ h; omega) _)
        exact SameOn.refl _ _
      · refine Below.drew (Below.alloc ?_ (by simp; omega) _)
        repeat (refine Below.setCell ?_ (by simp) _)
        exact HX.out
end Go.Proofs.Ytanhdklaponekaa
