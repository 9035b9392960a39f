/- recastlaw9.awake. -/
import Derived.Test.YtanhdklaponekaaMtJ
namespace Go.Proofs.Ytanhdklaponekaa
open Go Go.RowKit

theorem row_oneA {w : World} {S : Nat → Prop} {t : T} {g : Nat} {c0 c1 c2 c3 c4 c5 c6 : Value} (hb : Blk w g 26 #[c0, c1, c2, c3, c4, c5, c6]) (h : TyR w S t [c0, c1, c2, c3, c4, c5, c6]) (hg : S g) : RowT w S (.slice (some ⟨g, 0, none⟩) 1 1) [t] :=
  ⟨[c0, c1, c2, c3, c4, c5, c6], hb.row (n := 1) rfl (by unfold maxLen; omega) hg, by simp only [TysR]; exact ⟨_, [], by simp, h, rfl⟩⟩
theorem sam_run1 : RunR samL (U1 samL) (stepL sy (lookedP (U1 samL) (nameT mT)).2) (contL sy (lookedP (U1 samL) (nameT mT)).2) (fun s => s = []) 6 [] [((lookedP (U1 samL) (nameT mT)).1, [])] [] samF := run_of (ok := emptyB) _ _ _ _ empty_of sam_look
theorem sam_run2 : RunR samL (U1 samL) stepS (fun _ _ => true) (fun s => s.length ≤ 1000000000) 6 [] [((lookedP (U1 samL) (nameT mT)).1, [])] [] [sM] := run_of (ok := namesB) _ _ _ _ names_of sam_names
theorem sam_run3 : RunR samL (U1 samL) stepS (fun _ _ => true) (fun s => s.length ≤ 1000000000) 6 [] [((lookedP (U1 samL) (mkT 10 [nameT mT])).1, [])] [] [sM] := run_of (ok := namesB) _ _ _ _ names_of sam_names
theorem sam_ord : Ordered [sM] [sM] := by
  refine ⟨by simp, fun s => ?_, by simp⟩
  simp only [List.mem_cons, List.not_mem_nil, or_false, inM, List.any_cons, List.any_nil, Bool.or_false, decide_eq_true_eq]
  exact eq_comm
theorem sam_fnd1 : ∀ s ∈ [sM], ∃ m r, RunR samL (U1 samL) (stepL s (lookedP (U1 samL) (nameT mT)).2) (contL s (lookedP (U1 samL) (nameT mT)).2) (fun s => s = []) m [] [((lookedP (U1 samL) (nameT mT)).1, [])] [] r ∧ foundP r = (fun _ => foundP (samM false)) s := by
  intro s hs
  simp only [List.mem_cons, List.not_mem_nil, or_false] at hs
  subst hs
  exact ⟨6, samM false, run_of (ok := emptyB) _ _ _ _ empty_of (sam_lookM false), rfl⟩
theorem sam_fnd2 : ∀ s ∈ [sM], ∃ m r, RunR samL (U1 samL) (stepL s (lookedP (U1 samL) (mkT 10 [nameT mT])).2) (contL s (lookedP (U1 samL) (mkT 10 [nameT mT])).2) (fun s => s = []) m [] [((lookedP (U1 samL) (mkT 10 [nameT mT])).1, [])] [] r ∧ foundP r = (fun _ => foundP (samM true)) s := by
  intro s hs
  simp only [List.mem_cons, List.not_mem_nil, or_false] at hs
  subst hs
  exact ⟨6, samM true, run_of (ok := emptyB) _ _ _ _ empty_of (sam_lookM true), rfl⟩
set_option maxHeartbeats 4000000 in
set_option maxRecDepth 100000 in
theorem awake9 (w : World) : Calls Try.prog 29 #[] w fun e w' => e = .returned (.bool true) ∧ Below w.heap.size w w' := by
  go_enter Try.func29, Try.ntmps29
  go_wp2_with fail
  refine sample_calls.mono ?_
  rintro e w1 ⟨v, rfl, hrow, hb1⟩
  have hz1 := hb1.size
  have HB1 := Lib.hid hb1
  have HROW := Lib.hid hrow
  clear hrow hb1
  go_wp2_with fail
  refine (new_calls (L := samL) (S := New w w1) HROW.out (fun b hb => hb.2) sam_fit).mono ?_
  rintro e w2 ⟨g, rfl, hwc, hb2⟩
  have hz2 := hb2.size
  have HWC := Lib.hid hwc
  have HB2 : Hid (Below w.heap.size w w2) := HB1.out.trans (hb2.mono hz1)
  clear hwc hb2 HROW
  go_wp2_with fail
  refine name_cells.mono ?_
  rintro e w3 ⟨rfl, hb3⟩
  have hz3 := hb3.size
  have HB3 : Hid (Below w2.heap.size w2 (w3.alloc (.cells #[.int .i64 8, .string mT, .int .i64 0, .bool false, .slice none 0 0, .slice none 0 0, .slice none 0 0] 26))) := hb3.alloc (by omega) _
  clear hb3
  go_wp2_with fail
  obtain ⟨w4, hw4⟩ : ∃ w4, w4 = w3.alloc (.cells #[.int .i64 8, .string mT, .int .i64 0, .bool false, .slice none 0 0, .slice none 0 0, .slice none 0 0] 26) := ⟨_, rfl⟩
  have hP : Blk w4 w3.heap.size 26 #[.int .i64 8, .string mT, .int .i64 0, .bool false, .slice none 0 0, .slice none 0 0, .slice none 0 0] := by rw [hw4]; exact Blk.new _ _ _
  have hz4 : w4.heap.size = w3.heap.size + 1 := by rw [hw4]; simp
  change Calls _ _ _ (w3.alloc (.cells #[.int .i64 8, .string mT, .int .i64 0, .bool false, .slice none 0 0, .slice none 0 0, .slice none 0 0] 26)) _
  rw [← hw4] at HB3 ⊢
  have HP := Lib.hid hP
  have HW4 : Hid (WC w4 (fun b => New w w1 b ∨ New w1 w2 b) g samL) := HWC.out.below HB3.out
  have HX4 : Hid (Below w.heap.size w w4) := HB2.out.trans (HB3.out.mono (by omega))
  clear hw4 hP HWC HB1
  refine (lookup_calls (L := samL) (U := U1 samL) (S := fun _ => False) (Z := fun _ => False) (t := nameT mT) (cs := [.int .i64 8, .string mT, .int .i64 0, .bool false, .slice none 0 0, .slice none 0 0, .slice none 0 0]) (name := sy) (n := 6) (r := samF) HW4.out sam_und (nameT_cells _ _ _) (nameT_ok (by decide)) (fun b hb => hb.elim) (fun b hb => hb.elim) sam_run1).mono ?_
  rintro e w5 ⟨fs, rfl, hfd, hb5⟩
  rw [show (foundP samF).isSome = true from rfl]
  obtain ⟨y, hy⟩ : ∃ y, (foundP samF).getD zeroF = y := ⟨_, rfl⟩
  have hy2 : y.pa = [0, 0] := by rw [← hy]; rfl
  rw [hy] at hfd
  obtain ⟨F1, f1, F2, f2, F3, f3, F4, f4, rfl, -, hpa⟩ := hfd.forms
  have hz5 := hb5.size
  rw [hy2] at hpa ⊢
  have HPA : Hid (Row w5 (fun b => b < w5.heap.size) 1 (.slice F4 ([0, 0] : List Int).length f4) ([0, 0] : List Int).length (([0, 0] : List Int).map (.int .i64))) := hpa.more fun b hb => hb.1
  clear hy hy2
  have HX5 : Hid (Below w.heap.size w w5) := HX4.out.trans (hb5.mono (by omega))
  have HW5 := Lib.hid (HW4.out.below hb5)
  have HP5 := Lib.hid (HP.out.below hb5 (by omega))
  clear hfd hpa hb5 HW4 HP
  go_wp2_with fail
  obtain ⟨w6, hw6⟩ : ∃ w6, w6 = (w5.alloc (.cells #[.int .i64 y.kd, .string y.ow, .int .i64 y.ty.kd, .string y.ty.nm, .int .i64 y.ty.n, .bool y.ty.fl, .slice F1 y.ty.ns.length f1, .slice F2 y.ty.ms.length f2, .slice F3 y.ty.ks.length f3, .slice F4 ([0, 0] : List Int).length f4, .bool y.p, .bool y.df] 58)).alloc (.cells #[.int .i64 0, .int .i64 0] 3) := ⟨_, rfl⟩
  change Calls _ _ _ ((w5.alloc (.cells #[.int .i64 y.kd, .string y.ow, .int .i64 y.ty.kd, .string y.ty.nm, .int .i64 y.ty.n, .bool y.ty.fl, .slice F1 y.ty.ns.length f1, .slice F2 y.ty.ms.length f2, .slice F3 y.ty.ks.length f3, .slice F4 ([0, 0] : List Int).length f4, .bool y.p, .bool y.df] 58)).alloc (.cells #[.int .i64 0, .int .i64 0] 3)) _
  rw [← hw6]
  have hb6 : Below w5.heap.size w5 w6 := by rw [hw6]; exact (below_al _ _).alloc (by simp) _
  have hz6 : w6.heap.size = w5.heap.size + 2 := by rw [hw6]; simp
  have hlit : Row w6 (fun b => b < w6.heap.size) 1 (.slice (some ⟨w5.heap.size + 1, 0, none⟩) 2 2) ([0, 0] : List Int).length (([0, 0] : List Int).map (.int .i64)) := by
    have h1 : Blk w6 (w5.heap.size + 1) 3 #[.int .i64 0, .int .i64 0] := by rw [hw6]; exact Blk.new' (by simp)
    exact h1.row (n := 2) rfl (by unfold maxLen; omega) (by omega)
  refine (ints_calls (S := fun b => b < w6.heap.size) (a1 := [0, 0]) (a2 := [0, 0]) ((HPA.out.keep (SameOn.of_below hb6 fun b hb => hb)).more fun b hb => by omega) hlit (fun b hb => hb)).mono ?_
  rintro e w7 ⟨rfl, hb7⟩
  rw [show decide (([0, 0] : List Int) = [0, 0]) = true from by decide]
  have hz7 := hb7.size
  have HX7 : Hid (Below w.heap.size w w7) := HX5.out.trans ((hb6.trans (hb7.mono (by omega))).mono (by omega))
  have hb57 : Below w5.heap.size w5 w7 := hb6.trans (hb7.mono (by omega))
  have HW7 := Lib.hid (HW5.out.below hb57)
  have HP7 := Lib.hid (HP5.out.below hb57 (by omega))
  obtain ⟨p0, p1, p2, p3, p4, p5, p6, pf⟩ := HP7.out.cells7
  have hpl := HP7.out.lt
  clear hw6 hb6 hlit hb7 hb57 HPA HW5 HP5
  go_wp2_with fail
  refine (set_calls (L := samL) (U := U1 samL) (S := fun _ => False) (t := nameT mT) (cs := [.int .i64 8, .string mT, .int .i64 0, .bool false, .slice none 0 0, .slice none 0 0, .slice none 0 0]) (n := 6) (names := [sM]) (sn := [sM]) (fnd := fun _ => foundP (samM false)) HW7.out sam_und (nameT_cells _ _ _) (nameT_ok (by decide)) (fun b hb => hb.elim) (.inr (by decide)) sam_run2 sam_ord (by simp) sam_fnd1).mono ?_
  rintro e w8 ⟨G1, g1, rfl, hb8⟩
  rw [show (setN (fun _ => foundP (samM false)) (lookedP (U1 samL) (nameT mT)).2 [sM]).length = 0 from rfl]
  have hz8 := hb8.size
  have HX8 : Hid (Below w.heap.size w w8) := HX7.out.trans (hb8.mono (by omega))
  have HW8 := Lib.hid (HW7.out.below hb8)
  have HP8 := Lib.hid (HP7.out.below hb8 (by omega))
  clear p0 p1 p2 p3 p4 p5 p6 pf
  obtain ⟨p0, p1, p2, p3, p4, p5, p6, pf⟩ := HP8.out.cells7
  have hpl8 := HP8.out.lt
  clear hb8 HW7 HP7
  go_wp2_with fail
  refine (make_calls (k := 10) (ks := [nameT mT]) (S := fun b => b = w8.heap.size) (by simp only [T.okL, and_true]; exact nameT_ok (by decide)) (by simp [Lim]) (row_oneA (Blk.new w8 _ _) (nameT_cells _ _ _) rfl) (fun b hb => by simp; omega)).mono ?_
  rintro e w9 h9
  obtain ⟨B1, d1, B2, d2, B3, d3, rfl, ht9, hb9⟩ := h9.forms
  have hz9 := hb9.size
  simp at hz9
  have HT9 : Hid (TyR w9 (fun b => b < w9.heap.size) (mkT 10 [nameT mT]) _) := ht9.keep (SameOn.refl _ _) fun b hb => hb.2
  have HX9 : Hid (Below w.heap.size w w9) := (HX8.out.alloc (HX8.out.size) _).trans (hb9.mono (by have := HX8.out.size; simp; omega))
  have HW9 : Hid (WC w9 (fun b => New w w1 b ∨ New w1 w2 b) g samL) := (HW8.out.alloc _).below hb9
  clear h9 ht9 hb9 HW8 HP8 p0 p1 p2 p3 p4 p5 p6 pf
  go_wp2_with fail
  refine (set_calls (L := samL) (U := U1 samL) (S := fun b => b < w9.heap.size) (t := mkT 10 [nameT mT]) (cs := [.int .i64 10, .string ⟨#[]⟩, .int .i64 0, .bool false, .slice B1 0 d1, .slice B2 0 d2, .slice B3 1 d3]) (n := 6) (names := [sM]) (sn := [sM]) (fnd := fun _ => foundP (samM true)) HW9.out sam_und HT9.out (tok_of (by kernel_rfl)) (fun b hb => hb) (.inl (by kernel_rfl)) sam_run3 sam_ord (by simp) sam_fnd2).mono ?_
  rintro e w10 ⟨H1, h1, rfl, hb10⟩
  rw [show (setN (fun _ => foundP (samM true)) (lookedP (U1 samL) (mkT 10 [nameT mT])).2 [sM]).length = 1 from rfl]
  have HX10 : Hid (Below w.heap.size w w10) := HX9.out.trans (hb10.mono HX9.out.size)
  clear hb10 HW9 HT9
  go_wp2_with fail
  go_ret
  exact ⟨rfl, HX10.out⟩
end Go.Proofs.Ytanhdklaponekaa
