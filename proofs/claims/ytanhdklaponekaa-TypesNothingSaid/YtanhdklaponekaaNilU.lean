/- types.World that is none: Under, Nilable, and a type parameter's union. -/
import Derived.Test.YtanhdklaponekaaNilW
import Derived.Test.YtanhdklaponekaaTextK
namespace Go.Proofs.Ytanhdklaponekaa
open Go Go.RowKit

set_option maxHeartbeats 1000000 in
set_option maxRecDepth 100000 in
theorem underO_nil {t : T} {cs : List Value} {w : World} {S : Nat → Prop} (ho : t.ok) (h : TyR w S t cs) (hS : Old S w) :
    Calls Try.prog 24 #[.pointer none, .agg cs.toArray] w (TRes w t) := by
  obtain ⟨A1, c1, A2, c2, A3, c3, rfl, -⟩ := h.forms
  have H := Lib.hid h
  have HS := Lib.hid hS
  have HO := Lib.hid ho
  clear h hS ho
  go_enter Try.func24, Try.ntmps24
  go_wp2_with fail
  refine under_nil.mono ?_
  rintro e w1 ⟨rfl, hb1⟩
  have hz1 := hb1.size
  simp at hz1
  have hx : Below w.heap.size w w1 := (((Below.refl _ _).alloc (Nat.le_refl _) _).alloc (by simp) _).trans (hb1.mono (by simp; omega))
  have HX := Lib.hid hx
  have HB2 : Hid (Blk w1 (w.heap.size + 1) 26 #[.int .i64 0, .string ⟨#[]⟩, .int .i64 0, .bool false, .slice none 0 0, .slice none 0 0, .slice none 0 0]) := by
    refine Blk.below ?_ hb1 (by simp)
    simpa using Blk.new (w.alloc _) _ _
  clear hb1 hx
  go_wp2_with fail
  refine (own_calls (S := S) HO.out (H.out.keep (SameOn.of_below HX.out HS.out) (fun _ h => h)) (HS.out.below HX.out)).mono ?_
  rintro e w2 h2
  obtain ⟨E1, e1, E2, e2, E3, e3, rfl, ht2, hb2⟩ := h2.forms
  have hz2 := hb2.size
  have HT2 := Lib.hid ht2
  obtain ⟨n0, n1, n2, n3, n4, n5, n6, nf⟩ := (HB2.out.below hb2 (by omega)).cells7
  have HBW : Hid (Below w.heap.size w w2) := HX.out.trans (hb2.mono (by omega))
  have hl2 : w.heap.size + 1 < w2.heap.size := by omega
  clear h2 ht2 hb2
  go_wp2_with fail
  refine bodyPost_ret (v := .agg #[.int .i64 t.kd, .string t.nm, .int .i64 t.n, .bool t.fl, .slice E1 t.ns.length e1, .slice E2 t.ms.length e2, .slice E3 t.ks.length e3]) (by simp [results, Try.results24, go_sem, n0, n1, n2, n3, n4, n5, n6]) rfl ⟨_, rfl, ?_, ?_⟩
  · refine HT2.out.keep (S' := New w _) ?_ (fun b hb => ⟨by have := hb.1; omega, by have := hb.2; simpa using this⟩)
    repeat (refine SameOn.set_ ?_ (fun h => by have := h.1; simp at this; omega) _)
    exact SameOn.refl _ _
  · repeat (refine Below.setCell ?_ (by simp) _)
    exact HBW.out

theorem field_kind (c0 c1 c2 c3 c4 c5 c6 : Value) (w : World) : (Instr.field 26 (.agg #[c0, c1, c2, c3, c4, c5, c6]) 0).run Try.prog w = .ok c0 w := by kernel_rfl
def nilB (k : Int) : Bool := decide (k = 10 ∨ k = 11 ∨ k = 12 ∨ k = 13 ∨ k = 15)
set_option maxHeartbeats 1000000 in
set_option maxRecDepth 100000 in
theorem nilable_nil {t : T} {cs : List Value} {w : World} {S : Nat → Prop} (h : TyR w S t cs) :
    Calls Try.prog 27 #[.pointer none, .agg cs.toArray] w fun e w' => e = .returned (.bool (nilB t.kd)) ∧ Below w.heap.size w w' := by
  obtain ⟨A1, c1, A2, c2, A3, c3, rfl, -⟩ := h.forms
  clear h
  obtain ⟨r, hr⟩ : ∃ r, nilB t.kd = r := ⟨_, rfl⟩
  have hf := field_kind
  go_enter Try.func27, Try.ntmps27
  go_wp2_with fail
  refine under_nil.mono ?_
  rintro e w1 ⟨rfl, hb1⟩
  have HX : Hid (Below w.heap.size w w1) := ((Below.refl _ _).alloc (Nat.le_refl _) _).trans (hb1.mono (by simp))
  clear hb1
  by_cases hk : t.kd = 10 ∨ t.kd = 11 ∨ t.kd = 12 ∨ t.kd = 13 ∨ t.kd = 15
  · have hn : nilB t.kd = true := decide_eq_true hk
    have HN := Lib.hid hn
    clear hn hr
    rcases hk with e | e | e | e | e
    all_goals
      rw [e]
      clear e
      go_wp2_with fail
      go_ret
      exact ⟨by rw [HN.out]; rfl, HX.out⟩
  · have hn : nilB t.kd = false := decide_eq_false hk
    have HN := Lib.hid hn
    have b10 : (t.kd == 10) = false := by simp; omega
    have b11 : (t.kd == 11) = false := by simp; omega
    have b12 : (t.kd == 12) = false := by simp; omega
    have b13 : (t.kd == 13) = false := by simp; omega
    have b15 : (t.kd == 15) = false := by simp; omega
    clear hn hr hk
    go_wp2_with fail
    go_ret
    exact ⟨by rw [HN.out]; rfl, HX.out⟩
set_option maxHeartbeats 1000000 in
set_option maxRecDepth 100000 in
theorem rnilable_none {t : T} {cs : List Value} {g : Nat} {w : World} {S : Nat → Prop} (h : TyR w S t cs) (hg : g < w.heap.size) (hw : NoW w g) :
    Calls Try.prog 28 #[.pointer (some ⟨g, 0, none⟩), .agg cs.toArray] w fun e w' => e = .returned (.bool (nilB t.kd)) ∧ Below w.heap.size w w' := by
  obtain ⟨A1, c1, A2, c2, A3, c3, rfl, -⟩ := h.forms
  have HW := Lib.hid hw
  clear h hw
  have hf := field_kind
  go_enter Try.func28, Try.ntmps28
  go_wp2_with fail
  refine (runder_none (g := g) (by simp; omega) ?_).mono ?_
  · have h0 := HW.out
    unfold NoW at h0 ⊢
    exact (cell_below ((Below.refl w.heap.size w).alloc (Nat.le_refl _) _) hg).trans h0
  rintro e w1 ⟨rfl, hb1⟩
  have HX : Hid (Below w.heap.size w w1) := ((Below.refl _ _).alloc (Nat.le_refl _) _).trans (hb1.mono (by simp))
  clear hb1
  by_cases hk : t.kd = 10 ∨ t.kd = 11 ∨ t.kd = 12 ∨ t.kd = 13 ∨ t.kd = 15
  · have hn : nilB t.kd = true := decide_eq_true hk
    have HN := Lib.hid hn
    clear hn
    rcases hk with e | e | e | e | e
    all_goals
      rw [e]
      clear e
      go_wp2_with fail
      go_ret
      exact ⟨by rw [HN.out]; rfl, HX.out⟩
  · have hn : nilB t.kd = false := decide_eq_false hk
    have HN := Lib.hid hn
    have b10 : (t.kd == 10) = false := by simp; omega
    have b11 : (t.kd == 11) = false := by simp; omega
    have b12 : (t.kd == 12) = false := by simp; omega
    have b13 : (t.kd == 13) = false := by simp; omega
    have b15 : (t.kd == 15) = false := by simp; omega
    clear hn hk
    go_wp2_with fail
    go_ret
    exact ⟨by rw [HN.out]; rfl, HX.out⟩
end Go.Proofs.Ytanhdklaponekaa
