/- recastlaw1.SpansSorted: the walk: true. -/
import Derived.Test.YtnonbonegbdfpaaSpLent
import Derived.Test.YtnonbonegbdfpaaSpRefB
namespace Go.Proofs.Ytnonbonegbdfpaa
open Go Go.RowKit

/-- Sorted's two results, as one pair -/
def soR (l : List Ed) : List Ed × Int := if okAll (sortd l) = true then (sortd l, 0) else ([], 1)
theorem SortedRes.un {l : List Ed} {w : World} {e : Ending} {w' : World} (h : SortedRes l w e w') :
    ∃ c er u, e = .returned (.tuple #[u, .int .i64 er]) ∧ w'.ownsRow w.heap.size 33 4 u c.length (flat c) ∧ (c, er) = soR l ∧ (er = 0 ∨ er = 1) ∧ c.length ≤ l.length ∧ Below w.heap.size w w' := by
  obtain ⟨⟨h1, u, rfl, h2⟩ | ⟨h1, rfl⟩, hb⟩ := h
  · exact ⟨sortd l, 0, u, rfl, h2, by unfold soR; rw [if_pos h1], .inl rfl, sortd_len l, hb⟩
  · exact ⟨[], 1, _, rfl, World.ownsRow_nil _ _ _ _, by unfold soR; rw [if_neg (by rw [h1]; simp)], .inr rfl, Nat.zero_le _, hb⟩

set_option maxHeartbeats 4000000 in
set_option maxRecDepth 100000 in
theorem spansSorted_walk {l : List Ed} {u : Value} {w : World} (h2 : Row w (fun b => b < w.heap.size) 4 u l.length (flat l)) (hb2 : l.length * 48 ≤ 140737488355328) :
    Calls Try.prog 3 #[u] w fun e w' => e = .returned (.bool true) ∧ Below w.heap.size w w' := by
  have HA : Hid (∀ w, Calls Try.prog 11 #[] w fun e w' => e = .returned (.bool true) ∧ Below w.heap.size w w') := fun w => awake_calls
  obtain ⟨B, cap2, rfl, hlen2⟩ := h2.form
  have H2 := Lib.hid h2
  clear h2
  go_enter Try.func3, Try.ntmps3
  go_wp2_with fail
  refine (much_calls H2.out (by omega)).mono ?_
  rintro e w2 ⟨⟨r, rfl⟩, hb2'⟩
  have HW2 := Lib.hid hb2'
  have hz2 := HW2.out.size
  clear hb2'
  cases r with
  | true =>
    go_wp2_with (go_at_call 11; refine (HA.out _).mono ?_; rintro e w' ⟨rfl, hb⟩)
    go_ret
    exact ⟨by simp, HW2.out.trans (hb.mono hz2)⟩
  | false =>
    have HR2 : Hid (Row w2 (fun b => b < w.heap.size) 4 (.slice B l.length cap2) l.length (flat l)) := H2.out.keep (SameOn.of_below HW2.out (fun b hb => hb))
    go_wp2_with fail
    refine (lent_calls HR2.out (fun b hb => Nat.lt_of_lt_of_le hb hz2) hb2).mono ?_
    rintro e w3 ⟨g, c, rfl, hL⟩
    have HLE := Lib.hid hL
    have hz3' := hL.below.size
    have HW3 : Hid (Below w.heap.size w w3) := HW2.out.trans (hL.below.mono hz2)
    have hz3 := HW3.out.size
    have HX3 : Hid (Row w3 (fun b => w2.heap.size ≤ b ∧ b < w3.heap.size) 4 (.slice (some ⟨g, 0, none⟩) l.length c) l.length (flat l)) := by
      have h1 := own_cut hL.own (k := l.length) (by omega)
      rw [flat_take, List.take_left] at h1
      exact Row.of_own h1 (fun b hb => h1.lt b hb)
    have hcap := hL.cap
    clear hL HR2
    go_wp2_with fail
    refine (sorted_calls (l := l) (by omega) HX3.out (fun b hb => hb.2)).mono ?_
    rintro e w4 hres
    obtain ⟨d, er, u4, rfl, ho, hso, her, hdl, hb4⟩ := hres.un
    obtain ⟨D, c4, rfl⟩ := own_form ho
    have HO4 := Lib.hid ho
    have HSO := Lib.hid hso
    have HBX := Lib.hid hb4
    have hz4' := hb4.size
    have HB4 : Hid (Below w.heap.size w w4) := HW3.out.trans (hb4.mono hz3)
    have hz4 := HB4.out.size
    have HR4 : Hid (Row w4 (fun b => b < w.heap.size) 4 (.slice B l.length cap2) l.length (flat l)) := H2.out.keep (SameOn.of_below HB4.out (fun b hb => hb))
    clear ho hso hb4
    go_wp2_with fail
    refine (refSorted_calls (l := l) (by omega) HR4.out (fun b hb => Nat.lt_of_lt_of_le hb hz4)).mono ?_
    rintro e w5 hres
    obtain ⟨d', er', u5, rfl, ho, hso, -, -, hb5⟩ := hres.un
    have hso2 : (d', er') = (d, er) := by rw [hso, HSO.out]
    cases hso2
    obtain ⟨F, c5, rfl⟩ := own_form ho
    have HO5 : Hid (Row w5 (fun _ => True) 4 (.slice F d.length c5) d.length (flat d)) := Row.of_own ho (fun _ _ => trivial)
    have HA5 : Hid (w5.ownsRow w3.heap.size 33 4 (.slice D d.length c4) d.length (flat d)) := own_below HO4.out hb5
    have HBX5 : Hid (Below w3.heap.size w3 w5) := HBX.out.trans (hb5.mono hz4')
    have hz5 := HBX5.out.size
    clear ho hso hb5 HR4 HO4 HBX HSO
    go_wp2_with fail
    refine (edits_calls (Row.of_own (S := fun _ => True) HA5.out (fun _ _ => trivial)) HO5.out).mono ?_
    rintro e w6 ⟨rfl, hb6⟩
    have HA6 : Hid (w6.ownsRow w3.heap.size 33 4 (.slice D d.length c4) d.length (flat d)) := own_below HA5.out hb6
    have HBX6 : Hid (Below w3.heap.size w3 w6) := HBX5.out.trans (hb6.mono hz5)
    clear hb6 HA5 HO5 HBX5
    have hee : (er == er) = true := by simp
    go_wp2_with fail
    go_loopg [9] d.length (fun dd iv wr => ∃ (j : Nat) (xs : List Value), dd = d.length - j ∧ j ≤ d.length ∧ iv = .int .i64 j ∧ Hid (wr.ownsRow w3.heap.size 33 4 (.slice D d.length c4) d.length xs) ∧ Hid (Below w3.heap.size w3 wr))
    case atStart => exact ⟨0, _, by simp, by omega, rfl, HA6.out, HBX6.out⟩
    case round =>
      clear HA6 HBX6
      obtain ⟨j, xs, rfl, hj, rfl, HO, HBW⟩ := hrel
      by_cases hlt : j < d.length
      · obtain ⟨g2, cp, hv, -⟩ := HO.out.form (by omega)
        cases hv
        have hxl := HO.out.1
        have a3 := HO.out.cellAt (j * 4 + 3) (by omega)
        rw [List.getElem?_eq_getElem (by omega)] at a3
        generalize xs[j * 4 + 3]'(by omega) = y3 at a3
        have hfz := HO.out.frozenAt
        have hgl := HO.out.lt g2 rfl
        have HST := Lib.hid (HO.out.stored (j * 4 + 3) (.string ⟨#[63]⟩)).1
        have HBS : Hid (Below w3.heap.size w3 (wr.setCell ⟨g2, j * 4 + 3, none⟩ (.string ⟨#[63]⟩))) := HBW.out.setCell hgl.1 _
        clear hxl hgl
        go_wp2_with fail
        go_roundg (d.length - (j + 1))
        case measure => omega
        case rel => exact ⟨j + 1, _, rfl, by omega, by go_num, HST.out, HBS.out⟩
      · obtain rfl : j = d.length := by omega
        have HB7 : Hid (Below w.heap.size w wr) := HW3.out.trans (HBW.out.mono hz3)
        have hz7 := HB7.out.size
        have hz8 := HBW.out.size
        have HX7 : Hid (Row wr (fun b => w2.heap.size ≤ b ∧ b < w3.heap.size) 4 (.slice (some ⟨g, 0, none⟩) l.length c) l.length (flat l)) := HX3.out.keep (SameOn.of_below HBW.out (fun b hb => hb.2))
        have HR7 : Hid (Row wr (fun b => b < w.heap.size) 4 (.slice B l.length cap2) l.length (flat l)) := H2.out.keep (SameOn.of_below HB7.out (fun b hb => hb))
        go_wp2_with fail
        refine (edits_calls HX7.out HR7.out).mono ?_
        rintro e w8 ⟨rfl, hb8⟩
        have HB8 : Hid (Below w.heap.size w w8) := HB7.out.trans (hb8.mono hz7)
        have hz9 := HB8.out.size
        have z0 : w8.cell? ⟨g, l.length * 4, none⟩ = some (.string ⟨#[122, 122]⟩) := by
          have h1 := own_below (own_below HLE.out.own HBW.out) hb8
          have h2 := (own_at4 h1 (i := l.length) (by simp) (by simp)).1
          rw [List.getElem_append_right (by omega)] at h2
          simpa [zzE] using h2
        have hcI : (l.length : Int) + 1 ≤ (c : Int) := by omega
        clear hb8 HX7 HR7 HO HBW HB7
        go_wp2_with (go_at_call 11; refine (HA.out _).mono ?_; rintro e w' ⟨rfl, hb⟩)
        go_ret
        exact ⟨by simp, HB8.out.trans (hb.mono hz9)⟩
end Go.Proofs.Ytnonbonegbdfpaa
