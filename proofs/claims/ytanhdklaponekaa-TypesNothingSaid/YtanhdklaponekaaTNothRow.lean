/- Proved: recastlaw8.TypesNothing returns true for every type and every string, and its arguments read behind the call as before. Conditions: those of the row (loops, recursion, calls not followed), and what an argument reads fits into the machine's reach. -/
import Derived.Test.YtanhdklaponekaaPost
import Derived.Test.YtanhdklaponekaaTNothW
import Derived.ChangeMaps5
namespace Go.Proofs.Ytanhdklaponekaa
open Go Go.RowKit Go.ChangeShapes Go.WideShapes Go.ChangeAt

/-- the zero value's seven cells -/
def zero7 : Value := .agg #[.int .i64 0, .string ByteArray.empty, .int .i64 0, .bool false, .slice none 0 0, .slice none 0 0, .slice none 0 0]

set_option maxRecDepth 100000 in
theorem typesNothing_lifted (os : Os) (started : os.Started) (H : Type) (enc : TypeId × Value → H) :
    ReturnsInHanded {} Try.checked os 6 .any (Rows.typesNothingSpec.pre6 enc Try.prog Try.f6 Rows.typesNothingRow.domain false) (Rows.typesNothingSpec.post enc Try.prog Try.f6 false true false false) := by
  refine returnsInHanded_of_change_sized (C := Try.checked) Try.own started (by kernel_rfl) Try.func6
    (ChangeSpec.witness6 (enc := enc) (C := Try.checked) false ⟨#[], #[zero7, .string ⟨#[]⟩], []⟩ 8 (by kernel_rfl) (by kernel_rfl) (by kernel_rfl) (by kernel_rfl)) ?_
  intro W base args ds gs before hval0 hW hcnd hsz0 _
  have hval : ∀ (j : Nat) t v, Try.f6.params[j]? = some t → args[j]? = some v → Value.okWide Try.prog W .any base t v := hval0
  have hsz : (DataW.weightsEach Try.prog (Try.f6.params.toList ++ []) (ds ++ gs)).all (· ≤ reachBytes) = true := hsz0
  have hW' := hW
  obtain ⟨p, q, hA0, hV, rfl, hfz, hnd⟩ := hW
  have hA : DataW.TrodAll enc Try.prog W 0 (fun _ => true) true Try.f6.params.toList args.toList ds p := hA0
  rw [Try.params6] at hA hval hsz
  obtain ⟨v0, v1, d0, d1, p0, p1, rfl, rfl, rfl, h0, h1⟩ := trodAll_two hA
  obtain ⟨rfl, rfl⟩ := trodVars_none hV
  obtain ⟨s, rfl, rfl, rfl, ws⟩ := ChangeMaps.open_string Try.underlying9 (hval 1 9 v1 rfl rfl) h1
  obtain ⟨cs0, rfl, -⟩ := okWide_struct Try.underlying26 (hval 0 26 v0 rfl rfl)
  clear hA0 hval0 hval hcnd hsz0
  have hsz1 : ∀ m ∈ DataW.weightsEach Try.prog [26, 9] [d0, .lit (.string s.data.toList)], m ≤ reachBytes := by simpa using hsz
  obtain ⟨t0, R0, o0⟩ : ∃ t : T, TyR W (fun b => b < W.heap.size) t cs0.toList ∧ t.ok := by
    obtain ⟨fuel, hf⟩ := h0
    exact read_type fuel hf (each_at hsz1 (j := 0) rfl rfl)
  simp only [List.append_nil] at hW'
  refine (typesNothing_walk (t := t0) (nm := s) R0 (fun _ h => h) o0).mono fun e W' ⟨he, hb⟩ => ?_
  subst he
  have hlt : ∀ x ∈ p0 ++ [], x.block < W.heap.size := fun x hx => hW'.lt x (by simpa using hx)
  exact ⟨_, rfl, post_of_below (pa := p0 ++ []) (pv := []) hW' (fun _ _ _ => trodAll_mk1 (shut_bool Try.underlying4 true))
    (fun sp hsp => trodAll_mk2 (stays Try.laidOut (by kernel_rfl) (of_decide_eq_true (by kernel_rfl)) h0 hb (fun x hx => hlt x (by simp [hx])) (fun x hx => hsp x (by simp [hx]))) (ChangeMaps.shut_string Try.underlying9 ws))
    (fun _ _ => rfl) (by simp) hb (ok_one (by kernel_rfl) rfl (okWide_bool_mk Try.underlying4 true))⟩

theorem typesNothing_holds : Rows.TypesNothingSaid :=
  OpenClaim.holds_of_wide 6 Try.f6 rfl rfl rfl rfl rfl rfl rfl ⟨rfl, rfl, rfl, rfl, rfl⟩ rfl rfl rfl rfl rfl (by kernel_rfl) Try.func6 (by kernel_rfl)
    (of_decide_eq_true (by kernel_rfl)) (by unfold Func.isWrapper; rw [if_neg (of_decide_eq_false (by kernel_rfl))]; exact ⟨rfl, rfl⟩)
    (fun os started H enc _ => typesNothing_lifted os started H enc)

end Go.Proofs.Ytanhdklaponekaa
