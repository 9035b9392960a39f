/- Proved: recastlaw1.SpansMoved returns true for every list of edits, every string and every int, and its arguments read behind the call as before. Conditions: those of the row (loops, recursion, calls not followed), and what an argument reads fits into the machine's reach. -/
import Derived.Test.YtnonbonegbdfpaaSpPost
import Derived.Test.YtnonbonegbdfpaaSpReadB
import Derived.Test.YtnonbonegbdfpaaSpMoved
import Derived.ChangeMaps5
namespace Go.Proofs.Ytnonbonegbdfpaa
open Go Go.RowKit Go.ChangeShapes Go.WideShapes Go.ChangeAt

set_option maxRecDepth 100000 in
theorem spansMoved_lifted (os : Os) (started : os.Started) (H : Type) (enc : TypeId × Value → H) :
    ReturnsInHanded {} Try.checked os 7 .any (Rows.spansMovedSpec.pre6 enc Try.prog Try.f7 Rows.spansMovedRow.domain false) (Rows.spansMovedSpec.post enc Try.prog Try.f7 false true false false) := by
  refine returnsInHanded_of_change_sized (C := Try.checked) Try.own started (by kernel_rfl) Try.func7
    (ChangeSpec.witness6 (enc := enc) (C := Try.checked) false ⟨#[], #[.slice none 0 0, .string ⟨#[]⟩, .int .i64 0], []⟩ 8 (by kernel_rfl) (by kernel_rfl) (by kernel_rfl) (by kernel_rfl)) ?_
  intro W base args ds gs before hval0 hW hcnd hsz0 _
  have hval : ∀ (j : Nat) t v, Try.f7.params[j]? = some t → args[j]? = some v → Value.okWide Try.prog W .any base t v := hval0
  have hsz : (DataW.weightsEach Try.prog (Try.f7.params.toList ++ []) (ds ++ gs)).all (· ≤ reachBytes) = true := hsz0
  have hW' := hW
  obtain ⟨p, q, hA0, hV, rfl, hfz, hnd⟩ := hW
  have hA : DataW.TrodAll enc Try.prog W 0 (fun _ => true) true Try.f7.params.toList args.toList ds p := hA0
  rw [Try.params7] at hA hval hsz
  obtain ⟨v0, v1, v2, d0, d1, d2, p0, p1, p2, rfl, rfl, rfl, h0, h1, h2⟩ := trodAll_three hA
  obtain ⟨rfl, rfl⟩ := trodVars_none hV
  obtain ⟨s, rfl, rfl, rfl, ws⟩ := ChangeMaps.open_string Try.underlying9 (hval 1 9 v1 rfl rfl) h1
  obtain ⟨m, rfl, rfl, rfl, wm⟩ := open_int Try.underlying3 (hval 2 3 v2 rfl rfl) h2
  obtain ⟨a0, l0, c0, rfl⟩ := okWide_slice Try.underlying22 (hval 0 22 v0 rfl rfl)
  clear hA0 hval0 hval hcnd hsz0
  have hsz1 : ∀ m' ∈ DataW.weightsEach Try.prog [22, 9, 3] [d0, .lit (.string s.data.toList), .lit (.int .i64 m)], m' ≤ reachBytes := by simpa using hsz
  obtain ⟨l, R1, o1, l1, -⟩ : ∃ l : List Ed, Row W (fun b => b < W.heap.size) 4 (.slice a0 l0 c0) l.length (flat l) ∧ (∀ f ∈ l, edOk f) ∧ l.length * 48 ≤ Lim ∧ (l.map edB).sum + 1 ≤ Rows.uptoBulk d0 := by
    obtain ⟨fuel, hf⟩ := h0
    exact read_edits hf (each_at hsz1 (j := 0) rfl rfl)
  simp only [List.append_nil] at hW'
  refine (spansMoved_walk (p := s) (i := m) l1 R1 (i64_of wm)).mono fun e W' ⟨he, hb⟩ => ?_
  subst he
  have hlt : ∀ x ∈ p0 ++ ([] ++ []), x.block < W.heap.size := fun x hx => hW'.lt x (by simpa using hx)
  exact ⟨_, rfl, post_of_below (pa := p0 ++ ([] ++ [])) (pv := []) hW' (fun _ _ _ => trodAll_mk1 (shut_bool Try.underlying4 true))
    (fun sp hsp => trodAll_mk3 (stays Try.laidOut (by kernel_rfl) (of_decide_eq_true (by kernel_rfl)) h0 hb (fun x hx => hlt x (by simp [hx])) (fun x hx => hsp x (by simp [hx]))) (ChangeMaps.shut_string Try.underlying9 ws) (shut_int Try.underlying3 wm))
    (fun _ _ => rfl) (by simp) hb (ok_one (by kernel_rfl) rfl (okWide_bool_mk Try.underlying4 true))⟩

theorem spansMoved_holds : Rows.SpansMovedSaid :=
  OpenClaim.holds_of_wide 7 Try.f7 rfl rfl rfl rfl rfl rfl rfl ⟨rfl, rfl, rfl, rfl, rfl⟩ rfl rfl rfl rfl rfl (by kernel_rfl) Try.func7 (by kernel_rfl)
    (of_decide_eq_true (by kernel_rfl)) (by unfold Func.isWrapper; rw [if_neg (of_decide_eq_false (by kernel_rfl))]; exact ⟨rfl, rfl⟩)
    (fun os started H enc _ => spansMoved_lifted os started H enc)

end Go.Proofs.Ytnonbonegbdfpaa
