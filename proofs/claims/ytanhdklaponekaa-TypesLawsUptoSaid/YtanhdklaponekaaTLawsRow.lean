/- Proved: recastlaw8.TypesLaws returns true for all three types whose bulk together is at most the row's bound, and its arguments read behind the call as before. Conditions: those of the row (loops, recursion, calls not followed), what the arguments read is of bulk at most 1048576, and fits into the machine's reach. -/
import Derived.Test.YtanhdklaponekaaPost
import Derived.Test.YtanhdklaponekaaReadB
import Derived.Test.YtanhdklaponekaaTLawsW
import Derived.Deep.CondSized
import Derived.JoinedCond
namespace Go.Proofs.Ytanhdklaponekaa
open Go Go.RowKit Go.ChangeShapes Go.WideShapes Go.ChangeAt

/-- the zero value's seven cells -/
def zero7 : Value := .agg #[.int .i64 0, .string ByteArray.empty, .int .i64 0, .bool false, .slice none 0 0, .slice none 0 0, .slice none 0 0]
def zeroD (H : Type) : DataW H := .agg [.lit (.int .i64 0), .lit (.string []), .lit (.int .i64 0), .lit (.bool false), .nil, .nil, .nil]

set_option maxRecDepth 100000 in
theorem typesLaws_contract (H : Type) (enc : TypeId × Value → H) (W : World) (base : Nat) (args : Array Value) (ds gs : List (DataW H)) (before : List MemPlace)
    (hval : ∀ (j : Nat) t v, Try.f5.params[j]? = some t → args[j]? = some v → Value.okWide Try.prog W .any base t v)
    (hW : DataW.Whole enc Try.prog Try.f5.params.toList Rows.typesLawsSpec.vars false W args.toList ds gs before) (hk : Rows.uptoSmall H (ds ++ gs) = true)
    (hsz : (DataW.weightsEach Try.prog (Try.f5.params.toList ++ []) (ds ++ gs)).all (· ≤ reachBytes) = true) :
    Calls Try.prog 5 args W fun e W' => ∃ v, e = .returned v ∧ Rows.typesLawsSpec.post enc Try.prog Try.f5 false true false false W args v W' := by
  have hW' := hW
  obtain ⟨p, q, hA0, hV, rfl, hfz, hnd⟩ := hW
  have hA : DataW.TrodAll enc Try.prog W 0 (fun _ => true) true Try.f5.params.toList args.toList ds p := hA0
  rw [Try.params5] at hA hval hsz
  obtain ⟨v0, v1, v2, d0, d1, d2, p0, p1, p2, rfl, rfl, rfl, h0, h1, h2⟩ := trodAll_three hA
  obtain ⟨rfl, rfl⟩ := trodVars_none hV
  obtain ⟨cs0, rfl, -⟩ := okWide_struct Try.underlying26 (hval 0 26 v0 rfl rfl)
  obtain ⟨cs1, rfl, -⟩ := okWide_struct Try.underlying26 (hval 1 26 v1 rfl rfl)
  obtain ⟨cs2, rfl, -⟩ := okWide_struct Try.underlying26 (hval 2 26 v2 rfl rfl)
  clear hA0 hval
  rw [List.append_nil] at hk
  have hb : Rows.uptoBulkAll [d0, d1, d2] ≤ 1048576 := by
    unfold Rows.uptoSmall at hk
    exact of_decide_eq_true hk
  simp only [Rows.uptoBulkAll] at hb
  have hsz1 : ∀ m ∈ DataW.weightsEach Try.prog [26, 26, 26] [d0, d1, d2], m ≤ reachBytes := by simpa using hsz
  obtain ⟨t0, ⟨R0, o0⟩, b0⟩ : ∃ t : T, (TyR W (fun b => b < W.heap.size) t cs0.toList ∧ t.ok) ∧ wt t + 8 ≤ 16 * Rows.uptoBulk d0 := by
    obtain ⟨fuel, hf⟩ := h0
    exact read_typeB fuel hf (each_at hsz1 (j := 0) rfl rfl)
  obtain ⟨t1, ⟨R1, o1⟩, b1⟩ : ∃ t : T, (TyR W (fun b => b < W.heap.size) t cs1.toList ∧ t.ok) ∧ wt t + 8 ≤ 16 * Rows.uptoBulk d1 := by
    obtain ⟨fuel, hf⟩ := h1
    exact read_typeB fuel hf (each_at hsz1 (j := 1) rfl rfl)
  obtain ⟨t2, R2, -⟩ : ∃ t : T, TyR W (fun b => b < W.heap.size) t cs2.toList ∧ t.ok := by
    obtain ⟨fuel, hf⟩ := h2
    exact read_type fuel hf (each_at hsz1 (j := 2) rfl rfl)
  simp only [List.append_nil] at hW'
  refine (typesLaws_walk (p := t0) (q := t1) (r := t2) R0 R1 R2 (fun _ h => h) o0 o1 (by unfold Lim; omega) (by unfold Lim; omega)).mono fun e W' ⟨he, hb⟩ => ?_
  subst he
  have hlt : ∀ x ∈ p0 ++ (p1 ++ p2), x.block < W.heap.size := fun x hx => hW'.lt x (by simpa using hx)
  exact ⟨_, rfl, post_of_below (pa := p0 ++ (p1 ++ p2)) (pv := []) hW' (fun _ _ _ => trodAll_mk1 (shut_bool Try.underlying4 true))
    (fun sp hsp => trodAll_mk3 (stays Try.laidOut (by kernel_rfl) (of_decide_eq_true (by kernel_rfl)) h0 hb (fun x hx => hlt x (by simp [hx])) (fun x hx => hsp x (by simp [hx])))
      (stays Try.laidOut (by kernel_rfl) (of_decide_eq_true (by kernel_rfl)) h1 hb (fun x hx => hlt x (by simp [hx])) (fun x hx => hsp x (by simp [hx])))
      (stays Try.laidOut (by kernel_rfl) (of_decide_eq_true (by kernel_rfl)) h2 hb (fun x hx => hlt x (by simp [hx])) (fun x hx => hsp x (by simp [hx]))))
    (fun _ _ => rfl) (by simp) hb (ok_one (by kernel_rfl) rfl (okWide_bool_mk Try.underlying4 true))⟩

set_option maxRecDepth 100000 in
theorem typesLaws_lifted (os : Os) (started : os.Started) (H : Type) (enc : TypeId × Value → H) (F : Stop.Interp) :
    ReturnsInHanded {} Try.checked os 5 .any ((Rows.OpenSpec.upto Rows.typesLawsSpec).pre6 enc Try.prog Try.f5 Rows.typesLawsUptoRow.domain false) (((Rows.OpenSpec.upto Rows.typesLawsSpec).at F).post enc Try.prog Try.f5 false true false false) := by
  refine returnsInHanded_of_cond_sized (C := Try.checked) (s := Rows.OpenSpec.upto Rows.typesLawsSpec) (k := Rows.uptoSmall) rfl Try.own started (by kernel_rfl) Try.func5
    (OpenSpec.witness (enc := enc) (C := Try.checked) (s := Rows.OpenSpec.upto Rows.typesLawsSpec) (k := Rows.uptoSmall) rfl false ⟨#[], #[zero7, zero7, zero7], []⟩ 8 (by kernel_rfl) (by kernel_rfl) (by kernel_rfl)
      (x := ([zeroD H, zeroD H, zeroD H], [], [])) (by kernel_rfl) rfl (by kernel_rfl)) ?_
  intro W base args ds gs before hval hW _ hk hsz _
  exact typesLaws_contract H enc W base args ds gs before hval hW hk hsz

theorem typesLaws_holds : Rows.TypesLawsUptoSaid :=
  OpenClaim.holds_of_cond 5 Try.f5 rfl rfl rfl rfl rfl rfl rfl ⟨rfl, rfl, rfl, rfl, rfl⟩ rfl rfl rfl rfl rfl (by kernel_rfl) Try.func5 (by kernel_rfl)
    (of_decide_eq_true (by kernel_rfl)) (by unfold Func.isWrapper; rw [if_neg (of_decide_eq_false (by kernel_rfl))]; exact ⟨rfl, rfl⟩)
    (fun os started H enc _ F => typesLaws_lifted os started H enc F)

end Go.Proofs.Ytanhdklaponekaa
