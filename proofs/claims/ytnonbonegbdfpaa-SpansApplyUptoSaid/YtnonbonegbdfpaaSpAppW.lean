/- recastlaw1.SpansApply: the walk: true. -/
import Derived.Test.YtnonbonegbdfpaaSpOrderW
import Derived.Test.YtnonbonegbdfpaaSpRefC
namespace Go.Proofs.Ytnonbonegbdfpaa
open Go Go.RowKit

set_option maxHeartbeats 4000000 in
set_option maxRecDepth 100000 in
theorem spansApply_walk {fs : List Fi} {l : List Ed} {v u : Value} {w : World} (h : Row w (fun b => b < w.heap.size) 2 v fs.length (flatF fs)) (h2 : Row w (fun b => b < w.heap.size) 4 u l.length (flat l))
    (hb : fs.length ≤ 2000000) (hb2 : l.length ≤ 2000000) (hp : ∀ f ∈ fs, f.p.size ≤ 2000000 ∧ f.tx.size ≤ 2000000) (hq : ∀ x ∈ l, x.p.size ≤ 2000000) (ht : txS l ≤ 2000000) :
    Calls Try.prog 4 #[v, u] w fun e w' => e = .returned (.bool true) ∧ Below w.heap.size w w' := by
  have HA : Hid (∀ w, Calls Try.prog 11 #[] w fun e w' => e = .returned (.bool true) ∧ Below w.heap.size w w') := fun w => awake_calls
  obtain ⟨A, cap, rfl, hlen⟩ := h.form
  obtain ⟨B, cap2, rfl, hlen2⟩ := h2.form
  have H := Lib.hid h
  have H2 := Lib.hid h2
  have HP := Lib.hid hp
  have HQ := Lib.hid hq
  have HT := Lib.hid ht
  clear h h2 hp hq ht
  go_enter Try.func4, Try.ntmps4
  go_wp2_with fail
  refine (fits_calls H.out (by omega) (fun f hf => by have := HP.out f hf; omega)).mono ?_
  rintro e w1 ⟨⟨rfl, hfit⟩ | rfl, hb1⟩
  case inr =>
    have hz1 := hb1.size
    go_wp2_with (go_at_call 11; refine (HA.out _).mono ?_; rintro e w' ⟨rfl, hb⟩)
    go_ret
    exact ⟨by simp, hb1.trans (hb.mono hz1)⟩
  have HW1 := Lib.hid hb1
  have hz1 := hb1.size
  have HR1 : Hid (Row w1 (fun b => b < w.heap.size) 4 (.slice B l.length cap2) l.length (flat l)) := H2.out.keep (SameOn.of_below HW1.out (fun b hb => hb))
  clear hb1 hfit
  go_wp2_with fail
  refine (much_calls HR1.out (by omega)).mono ?_
  rintro e w2 ⟨⟨r, rfl⟩, hb2'⟩
  have HW2 : Hid (Below w.heap.size w w2) := HW1.out.trans (hb2'.mono hz1)
  have hz2 := HW2.out.size
  clear hb2' HR1
  cases r with
  | true =>
    go_wp2_with (go_at_call 11; refine (HA.out _).mono ?_; rintro e w' ⟨rfl, hb⟩)
    go_ret
    exact ⟨by simp, HW2.out.trans (hb.mono hz2)⟩
  | false =>
    have HR1 : Hid (Row w2 (fun b => b < w.heap.size) 2 (.slice A fs.length cap) fs.length (flatF fs)) := H.out.keep (SameOn.of_below HW2.out (fun b hb => hb))
    have HR2 : Hid (Row w2 (fun b => b < w.heap.size) 4 (.slice B l.length cap2) l.length (flat l)) := H2.out.keep (SameOn.of_below HW2.out (fun b hb => hb))
    go_wp2_with fail
    refine (apply_ok (fs := fs) (l := l) (S := fun b => b < w.heap.size) HR1.out HR2.out (fun b hb => Nat.lt_of_lt_of_le hb hz2) (by omega) (by omega) (fun f hf => by have := (HP.out f hf).1; unfold maxLen; omega) (fun x hx => by have := HQ.out x hx; unfold maxLen; omega) (fun f hf => by have := (HP.out f hf).2; have := HT.out; omega)).mono ?_
    rintro e w4 hres
    obtain ⟨gs, er, u4, rfl, ho, hap, hb4⟩ := hres.un
    obtain ⟨D, c4, rfl⟩ := own_form ho
    have HO4 := Lib.hid ho
    have HAP := Lib.hid hap
    have HB4 : Hid (Below w.heap.size w w4) := HW2.out.trans (hb4.mono hz2)
    have hz4 := HB4.out.size
    have HR3 : Hid (Row w4 (fun b => b < w.heap.size) 2 (.slice A fs.length cap) fs.length (flatF fs)) := H.out.keep (SameOn.of_below HB4.out (fun b hb => hb))
    have HR4 : Hid (Row w4 (fun b => b < w.heap.size) 4 (.slice B l.length cap2) l.length (flat l)) := H2.out.keep (SameOn.of_below HB4.out (fun b hb => hb))
    clear ho hap hb4 HR1 HR2
    go_wp2_with fail
    refine (refApply_calls (fs := fs) (l := l) (S := fun b => b < w.heap.size) HR3.out HR4.out (fun b hb => Nat.lt_of_lt_of_le hb hz4) (by omega) (by omega) (fun f hf => by have := (HP.out f hf).2; have := HT.out; omega)).mono ?_
    rintro e w6 hres
    obtain ⟨gs', er', u6, rfl, ho, hap, hb6⟩ := hres.un
    have hap2 : (gs', er') = (gs, er) := by rw [hap, HAP.out]
    cases hap2
    obtain ⟨F, c6, rfl⟩ := own_form ho
    have HO6 : Hid (Row w6 (fun _ => True) 2 (.slice F gs.length c6) gs.length (flatF gs)) := Row.of_own ho (fun _ _ => trivial)
    have HF6 : Hid (Row w6 (fun _ => True) 2 (.slice D gs.length c4) gs.length (flatF gs)) := Row.of_own (own_below HO4.out hb6) (fun _ _ => trivial)
    have HB6 : Hid (Below w.heap.size w w6) := HB4.out.trans (hb6.mono hz4)
    have hz6 := HB6.out.size
    have her : er = 0 ∨ er = 1 := by
      have := HAP.out
      unfold apR at this
      split at this <;> cases this <;> simp
    clear ho hap hb6 HR3 HR4
    go_wp2_with fail
    refine (files_calls HF6.out HO6.out).mono ?_
    rintro e w7 ⟨rfl, hb7⟩
    have HB7 : Hid (Below w.heap.size w w7) := HB6.out.trans (hb7.mono hz6)
    have hz7 := HB7.out.size
    clear hb7 HF6 HO6 HO4 HAP
    rcases her with rfl | rfl
    · go_wp2_with (go_at_call 11; refine (HA.out _).mono ?_; rintro e w' ⟨rfl, hb⟩)
      go_ret
      exact ⟨by simp, HB7.out.trans (hb.mono hz7)⟩
    · go_wp2_with (go_at_call 11; refine (HA.out _).mono ?_; rintro e w' ⟨rfl, hb⟩)
      go_ret
      exact ⟨by simp, HB7.out.trans (hb.mono hz7)⟩
end Go.Proofs.Ytnonbonegbdfpaa
