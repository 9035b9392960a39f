/- spans.order: the order of edits, as the sort asks it. -/
import Derived.Test.YtnonbonegbdfpaaDoorSpCmp
import Derived.Deep.RegionHeld3
import Derived.Shelf.GgSortFunc.InsertionK
namespace Go.Proofs.YtnonbonegbdfpaaDoor
open Go Go.RowKit Go.Shelf Go.Lib Go.Sort

set_option maxHeartbeats 4000000 in
set_option maxRecDepth 100000 in
theorem order_calls {x y : Ed} {w : World} : Calls Tryd.prog 40 #[.agg #[.string x.p, .int .i64 x.fr, .int .i64 x.to, .string x.tx], .agg #[.string y.p, .int .i64 y.fr, .int .i64 y.to, .string y.tx]] w fun e w' =>
    e = .returned (.int .i64 (ordE x y)) ∧ ∃ q os', w' = grow (w.drewN q) os' := by
  obtain ⟨r1, h1⟩ : ∃ r, cmpS x.p y.p = r := ⟨_, rfl⟩
  obtain ⟨r2, h2⟩ : ∃ r, cmpI x.fr y.fr = r := ⟨_, rfl⟩
  obtain ⟨r3, h3⟩ : ∃ r, cmpI x.to y.to = r := ⟨_, rfl⟩
  obtain ⟨r4, h4⟩ : ∃ r, cmpS x.tx y.tx = r := ⟨_, rfl⟩
  have H1 := Lib.hid h1
  have H2 := Lib.hid h2
  have H3 := Lib.hid h3
  have H4 := Lib.hid h4
  have HF : Hid (ordE x y = orI r1 r2 r3 r4) := by unfold Hid; rw [ordE_or, h1, h2, h3, h4]
  clear h1 h2 h3 h4
  go_enter Tryd.func40, Tryd.ntmps40
  go_wp2_with fail
  go_region_held3 (fun w' => w'.cell? ⟨w.heap.size, 0, none⟩ = some (.string x.p) ∧ w'.cell? ⟨w.heap.size, 1, none⟩ = some (.int .i64 x.fr) ∧ w'.cell? ⟨w.heap.size, 2, none⟩ = some (.int .i64 x.to) ∧ w'.cell? ⟨w.heap.size, 3, none⟩ = some (.string x.tx) ∧
      w'.cell? ⟨w.heap.size + 1, 0, none⟩ = some (.string y.p) ∧ w'.cell? ⟨w.heap.size + 1, 1, none⟩ = some (.int .i64 y.fr) ∧ w'.cell? ⟨w.heap.size + 1, 2, none⟩ = some (.int .i64 y.to) ∧ w'.cell? ⟨w.heap.size + 1, 3, none⟩ = some (.string y.tx)) (go_simp)
    (first
      | (go_at_call_of 51 (Value.string x.p)
         refine compare_s.mono ?_
         rintro e w' ⟨rfl, rfl⟩
         rw [H1.out])
      | (go_at_call_of 52 (Value.int IntKind.i64 x.fr)
         refine compare_i.mono ?_
         rintro e w' ⟨rfl, rfl⟩
         rw [H2.out])
      | (go_at_call_of 52 (Value.int IntKind.i64 x.to)
         refine compare_i.mono ?_
         rintro e w' ⟨rfl, rfl⟩
         rw [H3.out])
      | (go_at_call_of 51 (Value.string x.tx)
         refine compare_s.mono ?_
         rintro e w' ⟨rfl, rfl⟩
         rw [H4.out])
      | (go_at_call 50
         refine (or_calls (p := r1) (q := r2) (r := r3) (s := r4) ?_).mono ?_
         · have hB := (Blk.new ((w.alloc (.cells #[.string x.p, .int .i64 x.fr, .int .i64 x.to, .string x.tx] 42)).alloc (.cells #[.string y.p, .int .i64 y.fr, .int .i64 y.to, .string y.tx] 42)) 3 #[.int .i64 r1, .int .i64 r2, .int .i64 r3, .int .i64 r4]).drew
           simpa [Blk] using hB
         rintro e w' ⟨rfl, rfl⟩))
  all_goals
    go_wp2_with fail
    go_ret
    refine ⟨by rw [HF.out]; rfl, ?_⟩
    exact ⟨1, _, by rw [alloc_eq_grow, alloc_eq_grow, alloc_eq_grow, grow_grow, grow_grow]; rfl⟩
end Go.Proofs.YtnonbonegbdfpaaDoor
