/- strings.Cut at recastlaw6.awake's line. -/
import Derived.Test.YtendihbndpahdaaDoorTgPieces
namespace Go.Proofs.YtendihbndpahdaaDoor
open Go Go.RowKit

theorem ix_0 (w : World) : Calls Tryd.prog 39 #[.string ⟨#[97, 32, 38, 38, 32, 33, 98, 10]⟩, .string ⟨#[10]⟩] w fun e w' => e = .returned (.int .i64 7) ∧ w' = w :=
  Tryd.stringslite_Index_one _ 10 w

set_option maxHeartbeats 4000000 in
theorem cut_in (w : World) : Calls Tryd.prog 32 #[.string ⟨#[97, 32, 38, 38, 32, 33, 98, 10]⟩, .string ⟨#[10]⟩] w fun e w' =>
    e = .returned (.tuple #[.string ⟨#[97, 32, 38, 38, 32, 33, 98]⟩, .string ⟨#[]⟩, .bool true]) ∧ Below w.heap.size w w' := by
  have hE1 : (⟨#[97, 32, 38, 38, 32, 33, 98, 10]⟩ : ByteArray).extract 0 7 = ⟨#[97, 32, 38, 38, 32, 33, 98]⟩ := by rfl
  have hE2 : (⟨#[97, 32, 38, 38, 32, 33, 98, 10]⟩ : ByteArray).extract 8 8 = ⟨#[]⟩ := by rfl
  go_enter Tryd.func32, Tryd.ntmps32
  go_wp2_with fail
  refine (ix_0 _).mono ?_
  rintro e w1 ⟨rfl, hw⟩
  subst w1
  go_wp2_with fail
  go_region
  go_wp2_with fail
  exact bodyPost_ret (v := .tuple #[.string ⟨#[97, 32, 38, 38, 32, 33, 98]⟩, .string ⟨#[]⟩, .bool true]) (by simp [results, Tryd.f32, go_sem]; rfl) rfl ⟨rfl, (Below.refl _ _).drew⟩

set_option maxHeartbeats 4000000 in
theorem cut_out (w : World) : Calls Tryd.prog 19 #[.string ⟨#[97, 32, 38, 38, 32, 33, 98, 10]⟩, .string ⟨#[10]⟩] w fun e w' =>
    e = .returned (.tuple #[.string ⟨#[97, 32, 38, 38, 32, 33, 98]⟩, .string ⟨#[]⟩, .bool true]) ∧ Below w.heap.size w w' := by
  go_enter Tryd.func19, Tryd.ntmps19
  go_wp2_with fail
  refine (cut_in _).mono ?_
  rintro e w1 ⟨rfl, hb⟩
  go_wp2_with fail
  exact bodyPost_ret (v := .tuple #[.string ⟨#[97, 32, 38, 38, 32, 33, 98]⟩, .string ⟨#[]⟩, .bool true]) (by simp [results, Tryd.f19, go_sem]) rfl ⟨rfl, hb⟩
end Go.Proofs.YtendihbndpahdaaDoor
