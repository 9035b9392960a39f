/- tags.Rule's term, Holds: none, an empty one, recastlaw6.awake's. -/
import Derived.Test.YtendihbndpahdaaDoorTgHold
namespace Go.Proofs.YtendihbndpahdaaDoor
open Go Go.RowKit

def awV : Value := .iface 56 (.agg #[.bool false, .iface 54 (.string ⟨#[97]⟩), .iface 51 (.agg #[.iface 54 (.string ⟨#[98]⟩)])])

set_option maxRecDepth 100000 in
set_option maxHeartbeats 4000000 in
theorem term_nil {w : World} : Calls Tryd.prog 17 #[.pointer none] w fun e w' => e = .returned (.iface 53 (.agg #[])) ∧ w' = w := by
  go_enter Tryd.func17, Tryd.ntmps17
  go_wp2_with fail
  go_ret
  exact ⟨by first | rfl | simp, rfl⟩
set_option maxRecDepth 100000 in
set_option maxHeartbeats 4000000 in
theorem term_z {w : World} {r : Nat} (hb : Blk w r 32 #[.nilIface]) : Calls Tryd.prog 17 #[.pointer (some ⟨r, 0, none⟩)] w fun e w' => e = .returned (.iface 53 (.agg #[])) ∧ w' = w := by
  have h0 := hb.cell 0
  simp at h0
  clear hb
  go_enter Tryd.func17, Tryd.ntmps17
  go_wp2_with fail
  go_ret
  exact ⟨by first | rfl | simp, rfl⟩
set_option maxRecDepth 100000 in
set_option maxHeartbeats 4000000 in
theorem term_r {w : World} {r : Nat} {x y : ByteArray} (hb : Blk w r 32 #[.iface 56 (.agg #[.bool false, .iface 54 (.string x), .iface 51 (.agg #[.iface 54 (.string y)])])]) :
    Calls Tryd.prog 17 #[.pointer (some ⟨r, 0, none⟩)] w fun e w' => e = .returned (.iface 56 (.agg #[.bool false, .iface 54 (.string x), .iface 51 (.agg #[.iface 54 (.string y)])])) ∧ w' = w := by
  have h0 := hb.cell 0
  simp at h0
  clear hb
  go_enter Tryd.func17, Tryd.ntmps17
  go_wp2_with fail
  go_ret
  exact ⟨by first | rfl | simp, rfl⟩

set_option maxRecDepth 100000 in
set_option maxHeartbeats 4000000 in
theorem holds_r {w : World} {r g : Nat} {l : List ByteArray} {x y : ByteArray} (hr : Blk w r 32 #[.iface 56 (.agg #[.bool false, .iface 54 (.string x), .iface 51 (.agg #[.iface 54 (.string y)])])]) (hl : l.length ≤ 9223372036854775807) (hb : Blk w g 9 (l.map Value.string).toArray) :
    Calls Tryd.prog 10 #[.pointer (some ⟨r, 0, none⟩), .slice (some ⟨g, 0, none⟩) l.length l.length] w fun e w' => e = .returned (.bool (hasS l x && !hasS l y)) ∧ Below w.heap.size w w' := by
  have hd : Hid (Calls Tryd.prog 106 #[.agg #[.bool false, .iface 54 (.string x), .iface 51 (.agg #[.iface 54 (.string y)])], .slice (some ⟨g, 0, none⟩) l.length l.length] w fun e w' => e = .returned (.bool (hasS l x && !hasS l y)) ∧ Below w.heap.size w w') := both_holds hl hb
  have HR := Lib.hid hr
  clear hr hb
  obtain ⟨q, hq⟩ : ∃ q, (hasS l x && !hasS l y) = q := ⟨_, rfl⟩
  obtain ⟨n, hn⟩ : ∃ n, l.length = n := ⟨_, rfl⟩
  rw [hq, hn] at hd
  rw [hq, hn]
  rw [hn] at hl
  clear hq hn
  go_enter Tryd.func10, Tryd.ntmps10
  go_wp2_with fail
  refine (term_r HR.out).mono ?_
  rintro e w1 ⟨rfl, hw⟩
  subst w1
  go_wp2_with fail
  refine hd.out.mono ?_
  rintro e w1 ⟨rfl, hw⟩
  have HB := Lib.hid hw
  clear hw
  go_wp2_with fail
  go_ret
  exact ⟨by first | rfl | simp, HB.out⟩

theorem always_holds {w : World} {v : Value} : Calls Tryd.prog 96 #[.agg #[], v] w fun e w' => e = .returned (.bool true) ∧ Below w.heap.size w w' := by
  go_enter Tryd.func96, Tryd.ntmps96
  go_wp2_with fail
  go_ret
  exact ⟨by first | rfl | simp, (Below.refl _ _).alloc (Nat.le_refl _) _⟩
theorem always_text {w : World} : Calls Tryd.prog 99 #[.agg #[]] w fun e w' => e = .returned (.string ⟨#[116, 114, 117, 101]⟩) ∧ Below w.heap.size w w' := by
  go_enter Tryd.func99, Tryd.ntmps99
  go_wp2_with fail
  go_ret
  exact ⟨by first | rfl | simp, (Below.refl _ _).alloc (Nat.le_refl _) _⟩
theorem always_tags {w : World} : Calls Tryd.prog 98 #[.agg #[]] w fun e w' => e = .returned (.slice none 0 0) ∧ Below w.heap.size w w' := by
  go_enter Tryd.func98, Tryd.ntmps98
  go_wp2_with fail
  go_ret
  exact ⟨by first | rfl | simp, (Below.refl _ _).alloc (Nat.le_refl _) _⟩
set_option maxRecDepth 100000 in
set_option maxHeartbeats 4000000 in
theorem holds_nil {w : World} {v : Value} : Calls Tryd.prog 10 #[.pointer none, v] w fun e w' => e = .returned (.bool true) ∧ Below w.heap.size w w' := by
  go_enter Tryd.func10, Tryd.ntmps10
  go_wp2_with fail
  refine (term_nil).mono ?_
  rintro e w1 ⟨rfl, hw⟩
  subst w1
  go_wp2_with fail
  refine always_holds.mono ?_
  rintro e w1 ⟨rfl, hw⟩
  have HW := Lib.hid hw
  clear hw
  go_wp2_with fail
  go_ret
  exact ⟨by first | rfl | simp, HW.out⟩
set_option maxRecDepth 100000 in
set_option maxHeartbeats 4000000 in
theorem holds_z {w : World} {r : Nat} (hb : Blk w r 32 #[.nilIface]) {v : Value} : Calls Tryd.prog 10 #[.pointer (some ⟨r, 0, none⟩), v] w fun e w' => e = .returned (.bool true) ∧ Below w.heap.size w w' := by
  have HB := Lib.hid hb
  clear hb
  go_enter Tryd.func10, Tryd.ntmps10
  go_wp2_with fail
  refine (term_z HB.out).mono ?_
  rintro e w1 ⟨rfl, hw⟩
  subst w1
  go_wp2_with fail
  refine always_holds.mono ?_
  rintro e w1 ⟨rfl, hw⟩
  have HW := Lib.hid hw
  clear hw
  go_wp2_with fail
  go_ret
  exact ⟨by first | rfl | simp, HW.out⟩
set_option maxRecDepth 100000 in
set_option maxHeartbeats 4000000 in
theorem text_nil {w : World} : Calls Tryd.prog 12 #[.pointer none] w fun e w' => e = .returned (.string ⟨#[116, 114, 117, 101]⟩) ∧ Below w.heap.size w w' := by
  go_enter Tryd.func12, Tryd.ntmps12
  go_wp2_with fail
  refine (term_nil).mono ?_
  rintro e w1 ⟨rfl, hw⟩
  subst w1
  go_wp2_with fail
  refine always_text.mono ?_
  rintro e w1 ⟨rfl, hw⟩
  have HW := Lib.hid hw
  clear hw
  go_wp2_with fail
  go_ret
  exact ⟨by first | rfl | simp, HW.out⟩
set_option maxRecDepth 100000 in
set_option maxHeartbeats 4000000 in
theorem text_z {w : World} {r : Nat} (hb : Blk w r 32 #[.nilIface]) : Calls Tryd.prog 12 #[.pointer (some ⟨r, 0, none⟩)] w fun e w' => e = .returned (.string ⟨#[116, 114, 117, 101]⟩) ∧ Below w.heap.size w w' := by
  have HB := Lib.hid hb
  clear hb
  go_enter Tryd.func12, Tryd.ntmps12
  go_wp2_with fail
  refine (term_z HB.out).mono ?_
  rintro e w1 ⟨rfl, hw⟩
  subst w1
  go_wp2_with fail
  refine always_text.mono ?_
  rintro e w1 ⟨rfl, hw⟩
  have HW := Lib.hid hw
  clear hw
  go_wp2_with fail
  go_ret
  exact ⟨by first | rfl | simp, HW.out⟩
end Go.Proofs.YtendihbndpahdaaDoor
