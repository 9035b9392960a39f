/- scan.letter, digit, name, Word, Ident at the two tags of recastlaw6.awake: 'a', 'b'. -/
import Derived.Test.YtendihbndpahdaaDoorBase
import Derived.Test.YtendihbndpahdaaDoorProg
import Derived.Deep.LoopGhost
import Derived.LoopN
namespace Go.Proofs.YtendihbndpahdaaDoor
open Go Go.RowKit

set_option maxHeartbeats 1000000 in
theorem word_a {w : World} : Calls Tryd.prog 36 #[.string ⟨#[97]⟩] w fun e w' => e = .returned (.bool false) ∧ w' = w := by
  go_enter Tryd.func36, Tryd.ntmps36
  go_wp2_with fail
  go_ret
  exact ⟨by first | rfl | simp, rfl⟩
theorem letter_a {w : World} : Calls Tryd.prog 45 #[.int .u8 97] w fun e w' => e = .returned (.bool true) ∧ w' = w := by
  go_enter Tryd.func45, Tryd.ntmps45
  go_wp2_with fail
  go_ret
  exact ⟨by first | rfl | simp, rfl⟩
set_option maxHeartbeats 1000000 in
theorem name_a {w : World} : Calls Tryd.prog 35 #[.string ⟨#[97]⟩] w fun e w' => e = .returned (.int .i64 1) ∧ w' = w := by
  go_enter Tryd.func35, Tryd.ntmps35
  go_wp2_with fail
  refine wp_loop_rounds 2 ?_
  rw [rounds_succ]
  go_wp2_with (go_at_call 45; refine letter_a.mono ?_; rintro e w' ⟨rfl, rfl⟩)
  rw [rounds_succ]
  go_wp2_with fail
  go_ret
  exact ⟨by first | rfl | simp, rfl⟩
set_option maxHeartbeats 1000000 in
theorem ident_a {w : World} : Calls Tryd.prog 23 #[.string ⟨#[97]⟩] w fun e w' => e = .returned (.bool true) ∧ w' = w := by
  go_enter Tryd.func23, Tryd.ntmps23
  go_wp2_with (first
    | (go_at_call 35; refine name_a.mono ?_; rintro e w' ⟨rfl, rfl⟩)
    | (go_at_call 36; refine word_a.mono ?_; rintro e w' ⟨rfl, rfl⟩)
    | fail)
  go_ret
  exact ⟨by first | rfl | simp, rfl⟩
set_option maxHeartbeats 1000000 in
theorem word_b {w : World} : Calls Tryd.prog 36 #[.string ⟨#[98]⟩] w fun e w' => e = .returned (.bool false) ∧ w' = w := by
  go_enter Tryd.func36, Tryd.ntmps36
  go_wp2_with fail
  go_ret
  exact ⟨by first | rfl | simp, rfl⟩
theorem letter_b {w : World} : Calls Tryd.prog 45 #[.int .u8 98] w fun e w' => e = .returned (.bool true) ∧ w' = w := by
  go_enter Tryd.func45, Tryd.ntmps45
  go_wp2_with fail
  go_ret
  exact ⟨by first | rfl | simp, rfl⟩
set_option maxHeartbeats 1000000 in
theorem name_b {w : World} : Calls Tryd.prog 35 #[.string ⟨#[98]⟩] w fun e w' => e = .returned (.int .i64 1) ∧ w' = w := by
  go_enter Tryd.func35, Tryd.ntmps35
  go_wp2_with fail
  refine wp_loop_rounds 2 ?_
  rw [rounds_succ]
  go_wp2_with (go_at_call 45; refine letter_b.mono ?_; rintro e w' ⟨rfl, rfl⟩)
  rw [rounds_succ]
  go_wp2_with fail
  go_ret
  exact ⟨by first | rfl | simp, rfl⟩
set_option maxHeartbeats 1000000 in
theorem ident_b {w : World} : Calls Tryd.prog 23 #[.string ⟨#[98]⟩] w fun e w' => e = .returned (.bool true) ∧ w' = w := by
  go_enter Tryd.func23, Tryd.ntmps23
  go_wp2_with (first
    | (go_at_call 35; refine name_b.mono ?_; rintro e w' ⟨rfl, rfl⟩)
    | (go_at_call 36; refine word_b.mono ?_; rintro e w' ⟨rfl, rfl⟩)
    | fail)
  go_ret
  exact ⟨by first | rfl | simp, rfl⟩
end Go.Proofs.YtendihbndpahdaaDoor
