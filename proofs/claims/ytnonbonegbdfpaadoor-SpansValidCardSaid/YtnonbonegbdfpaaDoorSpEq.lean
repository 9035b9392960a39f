/- '==' of two edits; slices.Compact. -/
import Derived.Test.YtnonbonegbdfpaaDoorSpLaw
import Derived.Laws.StructEq
import Derived.Deep.QuietTactic
import Derived.BigQuiet
namespace Go.Proofs.YtnonbonegbdfpaaDoor
open Go Go.RowKit

def eqE (x y : Ed) : Bool := (x.p.toList == y.p.toList) && ((x.fr == y.fr) && ((x.to == y.to) && (x.tx.toList == y.tx.toList)))
theorem eqE_iff {x y : Ed} : eqE x y = true ↔ x = y := by
  obtain ⟨p, f, t, s⟩ := x
  obtain ⟨p', f', t', s'⟩ := y
  simp only [eqE, Bool.and_eq_true, beq_iff_eq, Ed.mk.injEq]
  exact ⟨fun ⟨h1, h2, h3, h4⟩ => ⟨toList_inj h1, h2, h3, toList_inj h4⟩, fun ⟨h1, h2, h3, h4⟩ => by subst h1; subst h4; exact ⟨rfl, h2, h3, rfl⟩⟩
theorem ed_eql (x y : Ed) (w : World) : (Op.equalIn 10000 42 (.agg #[.string x.p, .int .i64 x.fr, .int .i64 x.to, .string x.tx]) (.agg #[.string y.p, .int .i64 y.fr, .int .i64 y.to, .string y.tx])).run Tryd.prog w = .ok (eqE x y) w := by
  have u3 := Tryd.underlying3
  have u9 := Tryd.underlying9
  have hS : Tryd.prog.underlying 42 = some (.struct (Tryd.prog.fieldsOf 42)) := by kernel_rfl
  have hp : Tryd.prog.stoodInHeld 42 = false := by kernel_rfl
  rw [show (10000 : Nat) = 9999 + 1 from rfl, run_equalIn_agg w 9999 42 _ _ hS hp]
  simp only [Program.fieldsOf, Tryd.underlying42]
  go_simp
  unfold eqE
  by_cases h1 : x.p.toList = y.p.toList <;> by_cases h2 : x.fr = y.fr <;> by_cases h3 : x.to = y.to <;> by_cases h4 : x.tx.toList = y.tx.toList <;> simp [h1, h2, h3, h4]
theorem ed_guard : Tryd.prog.eqGuardType Tryd.prog.depth 42 = false := by kernel_rfl
end Go.Proofs.YtnonbonegbdfpaaDoor
