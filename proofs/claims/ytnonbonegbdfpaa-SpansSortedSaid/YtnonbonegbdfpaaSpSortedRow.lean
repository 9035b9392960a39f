/- Proved: recastlaw1.SpansSorted returns true for every list of edits, and its arguments read behind the call as before. Conditions: those of the row (loops, recursion, calls not followed), and what an argument reads fits into the machine's reach. -/
import Derived.Test.YtnonbonegbdfpaaSpPost
import Derived.Test.YtnonbonegbdfpaaSpReadB
import Derived.Test.YtnonbonegbdfpaaSpSortW
import Derived.ChangeMaps5
namespace Go.Proofs.Ytnonbonegbdfpaa
open Go Go.RowKit Go.ChangeShapes Go.WideShapes Go.ChangeAt

set_option maxRecDepth 100000 in
theorem spansSorted_lifted (os : Os) (started : os.Started) (H : Type) (enc : TypeId × Value → H) :
    ReturnsInHanded {} Try.checked os 3 .any (Rows.spansSortedSpec.pre6 enc Try.prog Try.f3 Rows.spansSortedRow.domain false) (Rows.spansSortedSpec.post enc Try.prog Try.f3 false true false false) := by
  refine returnsInHanded_of_change_sized (C := Try.checked) Try.own started (by kernel_rfl) Try.func3
    (ChangeSpec.witness6 (enc := enc) (C := Try.checked) false ⟨#[], #[.slice none 0 0], []⟩ 8 (by kernel_rfl) (by kernel_rfl) (by kernel_rfl) (by kernel_rfl)) ?_
  intro W base args ds gs before hval0 hW hcnd hsz0 _
  have hval : ∀ (j : Nat) t v, Try.f3.params[j]? = some t → args[j]? = some v → Value.okWide Try.prog W .any base t v := hval0
  have hsz : (DataW.weightsEach Try.prog (Try.f3.params.toList ++ []) (ds ++ gs)).all (· ≤ reachBytes) = true := hsz0
  have hW' := hW
  obtain ⟨p, q, hA0, hV, rfl, hfz, hnd⟩ := hW
  have hA : DataW.TrodAll enc Try.prog W 0 (fun _ => true) true Try.f3.params.toList args.toList ds p := hA0
  rw [Try.params3] at hA hval hsz
  obtain ⟨v0, d0, rfl, rfl, h0⟩ := trodAll_one hA
  obtain ⟨rfl, rfl⟩ := trodVars_none hV
  obtain ⟨a0, l0, c0, rfl⟩ := okWide_slice Try.underlying22 (hval 0 22 v0 rfl rfl)
  clear hA0 hval0 hval hcnd hsz0
  have hsz1 : ∀ m' ∈ DataW.weightsEach Try.prog [22] [d0], m' ≤ reachBytes := by simpa using hsz
  obtain ⟨l, R1, o1, l1, -⟩ : ∃ l : List Ed, Row W (fun b => b < W.heap.size) 4 (.slice a0 l0 c0) l.length (flat l) ∧ (∀ f ∈ l, edOk f) ∧ l.length * 48 ≤ Lim ∧ (l.map edB).sum + 1 ≤ Rows.uptoBulk d0 := by
    obtain ⟨fuel, hf⟩ := h0
    exact read_edits hf (each_at hsz1 (j := 0) rfl rfl)
  simp only [List.append_nil] at hW'
  refine (spansSorted_walk R1 l1).mono fun e W' ⟨he, hb⟩ => ?_
  subst he
  have hlt : ∀ x ∈ p, x.block < W.heap.size := fun x hx => hW'.lt x (by simpa using hx)
  exact ⟨_, rfl, post_of_below (pa := p) (pv := []) hW' (fun _ _ _ => trodAll_mk1 (shut_bool Try.underlying4 true))
    (fun sp hsp => trodAll_mk1 (stays Try.laidOut (by kernel_rfl) (of_decide_eq_true (by kernel_rfl)) h0 hb (fun x hx => hlt x (by simp [hx])) (fun x hx => hsp x (by simp [hx]))))
    (fun _ _ => rfl) (by simp) hb (ok_one (by kernel_rfl) rfl (okWide_bool_mk Try.underlying4 true))⟩

theorem spansSorted_holds : Rows.SpansSortedSaid :=
  OpenClaim.holds_of_wide 3 Try.f3 rfl rfl rfl rfl rfl rfl rfl ⟨rfl, rfl, rfl, rfl, rfl⟩ rfl rfl rfl rfl rfl (by kernel_rfl) Try.func3 (by kernel_rfl)
    (of_decide_eq_true (by kernel_rfl)) (by unfold Func.isWrapper; rw [if_neg (of_decide_eq_false (by kernel_rfl))]; exact ⟨rfl, rfl⟩)
    (fun os started H enc _ => spansSorted_lifted os started H enc)

end Go.Proofs.Ytnonbonegbdfpaa
