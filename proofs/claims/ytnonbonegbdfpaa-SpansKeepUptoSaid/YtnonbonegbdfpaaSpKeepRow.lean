/- Proved: recastlaw1.SpansKeep returns true for every string and every list of edits whose bulk together is at most the row's bound, and its arguments read behind the call as before. Conditions: those of the row (loops, recursion, calls not followed), what the arguments read is of bulk at most 1048576, and fits into the machine's reach. -/
import Derived.Test.YtnonbonegbdfpaaSpPost
import Derived.Test.YtnonbonegbdfpaaSpReadB
import Derived.Test.YtnonbonegbdfpaaSpKeepW
import Derived.Deep.CondSized
import Derived.JoinedCond
namespace Go.Proofs.Ytnonbonegbdfpaa
open Go Go.RowKit Go.ChangeShapes Go.WideShapes Go.ChangeAt

theorem spansKeep_len {α : Type} {m : α → Nat} (h : ∀ x, 1 ≤ m x) : ∀ l : List α, l.length ≤ (l.map m).sum
  | [] => Nat.le_refl _
  | x :: l => by have := spansKeep_len h l; have := h x; simp only [List.length_cons, List.map_cons, List.sum_cons]; omega
theorem spansKeep_mem {α : Type} {m : α → Nat} {x : α} : ∀ {l : List α}, x ∈ l → m x ≤ (l.map m).sum
  | y :: l, h => by
    simp only [List.map_cons, List.sum_cons]
    rcases List.mem_cons.1 h with rfl | h
    · omega
    · have := spansKeep_mem (m := m) h; omega
theorem spansKeep_tx (l : List Ed) : txS l ≤ (l.map edB).sum := by
  induction l with
  | nil => exact Nat.le_refl _
  | cons x l ih => simp only [txS, List.map_cons, List.sum_cons, edB] at ih ⊢; omega

set_option maxRecDepth 100000 in
theorem spansKeep_contract (H : Type) (enc : TypeId × Value → H) (W : World) (base : Nat) (args : Array Value) (ds gs : List (DataW H)) (before : List MemPlace)
    (hval : ∀ (j : Nat) t v, Try.f8.params[j]? = some t → args[j]? = some v → Value.okWide Try.prog W .any base t v)
    (hW : DataW.Whole enc Try.prog Try.f8.params.toList Rows.spansKeepSpec.vars false W args.toList ds gs before) (hk : Rows.uptoSmall H (ds ++ gs) = true)
    (hsz : (DataW.weightsEach Try.prog (Try.f8.params.toList ++ []) (ds ++ gs)).all (· ≤ reachBytes) = true) :
    Calls Try.prog 8 args W fun e W' => ∃ v, e = .returned v ∧ Rows.spansKeepSpec.post enc Try.prog Try.f8 false true false false W args v W' := by
  have hW' := hW
  obtain ⟨p, q, hA0, hV, rfl, hfz, hnd⟩ := hW
  have hA : DataW.TrodAll enc Try.prog W 0 (fun _ => true) true Try.f8.params.toList args.toList ds p := hA0
  rw [Try.params8] at hA hval hsz
  obtain ⟨v0, v1, d0, d1, p0, p1, rfl, rfl, rfl, h0, h1⟩ := trodAll_two hA
  obtain ⟨rfl, rfl⟩ := trodVars_none hV
  obtain ⟨s0, rfl, rfl, rfl, ws0⟩ := ChangeMaps.open_string Try.underlying9 (hval 0 9 v0 rfl rfl) h0
  obtain ⟨a1, l1, c1, rfl⟩ := okWide_slice Try.underlying22 (hval 1 22 v1 rfl rfl)
  clear hA0 hval
  rw [List.append_nil] at hk
  have hb : Rows.uptoBulkAll [.lit (.string s0.data.toList), d1] ≤ 1048576 := by
    unfold Rows.uptoSmall at hk
    exact of_decide_eq_true hk
  simp only [Rows.uptoBulkAll] at hb
  have hsz1 : ∀ m ∈ DataW.weightsEach Try.prog [9, 22] [.lit (.string s0.data.toList), d1], m ≤ reachBytes := by simpa using hsz
  obtain ⟨x1, R1, o1, -, b1⟩ : ∃ l : List Ed, Row W (fun b => b < W.heap.size) 4 (.slice a1 l1 c1) l.length (flat l) ∧ (∀ f ∈ l, edOk f) ∧ l.length * 48 ≤ Lim ∧ (l.map edB).sum + 1 ≤ Rows.uptoBulk d1 := by
    obtain ⟨fuel, hf⟩ := h1
    exact read_edits hf (each_at hsz1 (j := 1) rfl rfl)
  have e1 := spansKeep_len (m := edB) (fun _ => by unfold edB; omega) x1
  have t1 := spansKeep_tx x1
  simp only [List.append_nil] at hW'
  refine (spansKeep_walk (s := s0) R1 (by simp only [Rows.uptoBulk, size_data] at hb; omega) (by omega) (fun x hx => by have := spansKeep_mem (m := edB) hx; unfold edB at this b1; omega) (by omega)).mono fun e W' ⟨he, hb⟩ => ?_
  subst he
  have hlt : ∀ x ∈ [] ++ p1, x.block < W.heap.size := fun x hx => hW'.lt x (by simpa using hx)
  exact ⟨_, rfl, post_of_below (pa := [] ++ p1) (pv := []) hW' (fun _ _ _ => trodAll_mk1 (shut_bool Try.underlying4 true))
    (fun sp hsp => trodAll_mk2 (ChangeMaps.shut_string Try.underlying9 ws0) (stays Try.laidOut (by kernel_rfl) (of_decide_eq_true (by kernel_rfl)) h1 hb (fun x hx => hlt x (by simp [hx])) (fun x hx => hsp x (by simp [hx]))))
    (fun _ _ => rfl) (by simp) hb (ok_one (by kernel_rfl) rfl (okWide_bool_mk Try.underlying4 true))⟩

set_option maxRecDepth 100000 in
theorem spansKeep_lifted (os : Os) (started : os.Started) (H : Type) (enc : TypeId × Value → H) (F : Stop.Interp) :
    ReturnsInHanded {} Try.checked os 8 .any ((Rows.OpenSpec.upto Rows.spansKeepSpec).pre6 enc Try.prog Try.f8 Rows.spansKeepUptoRow.domain false) (((Rows.OpenSpec.upto Rows.spansKeepSpec).at F).post enc Try.prog Try.f8 false true false false) := by
  refine returnsInHanded_of_cond_sized (C := Try.checked) (s := Rows.OpenSpec.upto Rows.spansKeepSpec) (k := Rows.uptoSmall) rfl Try.own started (by kernel_rfl) Try.func8
    (OpenSpec.witness (enc := enc) (C := Try.checked) (s := Rows.OpenSpec.upto Rows.spansKeepSpec) (k := Rows.uptoSmall) rfl false ⟨#[], #[.string ⟨#[]⟩, .slice none 0 0], []⟩ 8 (by kernel_rfl) (by kernel_rfl) (by kernel_rfl)
      (x := ([.lit (.string []), .nil], [], [])) (by kernel_rfl) rfl (by kernel_rfl)) ?_
  intro W base args ds gs before hval hW _ hk hsz _
  exact spansKeep_contract H enc W base args ds gs before hval hW hk hsz

theorem spansKeep_holds : Rows.SpansKeepUptoSaid :=
  OpenClaim.holds_of_cond 8 Try.f8 rfl rfl rfl rfl rfl rfl rfl ⟨rfl, rfl, rfl, rfl, rfl⟩ rfl rfl rfl rfl rfl (by kernel_rfl) Try.func8 (by kernel_rfl)
    (of_decide_eq_true (by kernel_rfl)) (by unfold Func.isWrapper; rw [if_neg (of_decide_eq_false (by kernel_rfl))]; exact ⟨rfl, rfl⟩)
    (fun os started H enc _ F => spansKeep_lifted os started H enc F)

end Go.Proofs.Ytnonbonegbdfpaa
