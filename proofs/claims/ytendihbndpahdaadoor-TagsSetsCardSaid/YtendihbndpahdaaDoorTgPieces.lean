/- tags.pieces at recastlaw6.awake's line. -/
import Derived.Test.YtendihbndpahdaaDoorTgSmall
import Derived.Test.YtendihbndpahdaaDoorApp
import Derived.Test.YtendihbndpahdaaDoorShelf
namespace Go.Proofs.YtendihbndpahdaaDoor
open Go Go.RowKit

theorem row_blk {w : World} {g : Nat} {t : TypeId} {cs : List Value} {n size : Nat} {S : Nat → Prop} (hb : Blk w g t cs.toArray) (hl : cs.length = n * size) (hn : n ≤ maxLen) (hg : S g) : Row w S size (.slice (some ⟨g, 0, none⟩) n n) n cs :=
  ⟨hl, some ⟨g, 0, none⟩, n, rfl, Nat.le_refl _, hn, (fun e => by cases e), fun _ => ⟨g, 0, rfl, hg, fun j u hu => by rw [Nat.zero_add, hb.cell j]; simpa using hu⟩⟩
theorem row_new {w : World} {t : TypeId} {u : Value} : Row (w.alloc (.cells #[u] t)) (fun b => b = w.heap.size) 1 (.slice (some ⟨w.heap.size, 0, none⟩) 1 1) 1 [u] :=
  row_blk (cs := [u]) (Blk.new w t #[u]) rfl (by decide) rfl

theorem tl_0 (w : World) : Calls Tryd.prog 33 #[.string ⟨#[97, 32, 38, 38, 32, 33, 98]⟩, .string ⟨#[32]⟩] w fun e w' => e = .returned (.string ⟨#[97, 32, 38, 38, 32, 33, 98]⟩) ∧ w' = w :=
  Tryd.strings_TrimLeft_one _ 32 (by decide) w
theorem tl_1 (w : World) : Calls Tryd.prog 33 #[.string ⟨#[32, 38, 38, 32, 33, 98]⟩, .string ⟨#[32]⟩] w fun e w' => e = .returned (.string ⟨#[38, 38, 32, 33, 98]⟩) ∧ w' = w :=
  Tryd.strings_TrimLeft_one _ 32 (by decide) w
theorem tl_2 (w : World) : Calls Tryd.prog 33 #[.string ⟨#[32, 33, 98]⟩, .string ⟨#[32]⟩] w fun e w' => e = .returned (.string ⟨#[33, 98]⟩) ∧ w' = w :=
  Tryd.strings_TrimLeft_one _ 32 (by decide) w
theorem tl_3 (w : World) : Calls Tryd.prog 33 #[.string ⟨#[98]⟩, .string ⟨#[32]⟩] w fun e w' => e = .returned (.string ⟨#[98]⟩) ∧ w' = w :=
  Tryd.strings_TrimLeft_one _ 32 (by decide) w
theorem tl_4 (w : World) : Calls Tryd.prog 33 #[.string ⟨#[]⟩, .string ⟨#[32]⟩] w fun e w' => e = .returned (.string ⟨#[]⟩) ∧ w' = w :=
  Tryd.strings_TrimLeft_one _ 32 (by decide) w
theorem hp_1 (w : World) : Calls Tryd.prog 18 #[.string ⟨#[38, 38, 32, 33, 98]⟩, .string ⟨#[38, 38]⟩] w fun e w' => e = .returned (.bool true) ∧ w' = w := Tryd.strings_HasPrefix _ _ w
theorem hp_2 (w : World) : Calls Tryd.prog 18 #[.string ⟨#[33, 98]⟩, .string ⟨#[38, 38]⟩] w fun e w' => e = .returned (.bool false) ∧ w' = w := Tryd.strings_HasPrefix _ _ w
theorem hp_3 (w : World) : Calls Tryd.prog 18 #[.string ⟨#[33, 98]⟩, .string ⟨#[124, 124]⟩] w fun e w' => e = .returned (.bool false) ∧ w' = w := Tryd.strings_HasPrefix _ _ w
theorem hp_0 (w : World) : Calls Tryd.prog 18 #[.string ⟨#[47, 47, 98, 117, 105, 108, 100, 32, 97, 32, 38, 38, 32, 33, 98, 10]⟩, .string ⟨#[47, 47, 98, 117, 105, 108, 100, 32]⟩] w fun e w' => e = .returned (.bool true) ∧ w' = w := Tryd.strings_HasPrefix _ _ w
theorem ib_0 (w : World) : Calls Tryd.prog 34 #[.string ⟨#[33, 40, 41]⟩, .int .u8 33] w fun e w' => e = .returned (.int .i64 0) ∧ w' = w := Tryd.strings_IndexByte _ 33 w
end Go.Proofs.YtendihbndpahdaaDoor
