/- tags.Read's closures at the pieces of recastlaw6.awake's rule: row, or. -/
import Derived.Test.YtendihbndpahdaaDoorTgOne
namespace Go.Proofs.YtendihbndpahdaaDoor
open Go Go.RowKit

def ruleV : Value := .iface 56 (.agg #[.bool false, .iface 54 (.string ⟨#[97]⟩), .iface 51 (.agg #[.iface 54 (.string ⟨#[98]⟩)])])

set_option maxHeartbeats 4000000 in
theorem row_and {W : World} {B g bl bt bn bo br c : Nat} (hB : B ≤ bl) (hx : Bx W g bl bt bn bo br) (hl : Blk W bl 22 #[.slice (some ⟨g, 0, none⟩) (3 + 1 : Nat) (c + 3 + 1 : Nat)]) :
    Calls Tryd.prog 24 #[.string ⟨#[38, 38]⟩, .func (.func 22) #[] #[.pointer (some ⟨bt, 0, none⟩), .pointer (some ⟨bn, 0, none⟩), .pointer (some ⟨bo, 0, none⟩), .pointer (some ⟨bl, 0, none⟩)], .pointer (some ⟨bt, 0, none⟩)] W fun e W' =>
      e = .returned (.tuple #[.iface 56 (.agg #[.bool false, .iface 54 (.string ⟨#[97]⟩), .iface 51 (.agg #[.iface 54 (.string ⟨#[98]⟩)])]), .bool true]) ∧ Left B W W' g bl bt bn bo br 0 c 4 := by
  have HX := Lib.hid hx
  have HL := Lib.hid hl
  clear hx hl
  go_enter Tryd.func24, Tryd.ntmps24
  go_wp2_with fail
  refine (one_a (B := B) (c := c + 3) hB HX.out HL.out (by omega)).mono ?_
  rintro e w1 ⟨rfl, hb, hx, o1, ho, hl⟩
  obtain rfl := ho (by omega)
  have HB1 := Lib.hid hb
  have HX1 := Lib.hid hx
  have HL1 : Hid (Blk w1 bl 22 #[.slice (some ⟨g, 1, none⟩) (2 + 1 : Nat) (c + 2 + 1 : Nat)]) := hl
  clear hb hx hl ho HX HL
  have ht0 := HX1.out.hbt.cell 0
  simp at ht0
  go_wp2_with fail
  refine wp_loop_rounds 2 ?_
  rw [rounds_succ]
  go_wp2_with fail
  refine (take_yes (n := 2) (c := c + 2) HL1.out HX1.out.c1 (by omega)).mono ?_
  rintro e w2 ⟨rfl, o', ho, hw⟩
  obtain rfl := ho (by omega)
  have HB2 : Hid (Below B W w2) := by rw [hw]; exact HB1.out.setCell hB _
  have HX2 : Hid (Bx w2 g bl bt bn bo br) := by rw [hw]; exact HX1.out.set_ _
  have HL2 : Hid (Blk w2 bl 22 #[.slice (some ⟨g, 2, none⟩) (1 + 1 : Nat) (c + 1 + 1 : Nat)]) := by rw [hw]; exact bl_set HL1.out _
  clear hw ho HX1 HL1 HB1 ht0
  go_wp2_with fail
  refine (one_n (B := B) hB HX2.out HL2.out).mono ?_
  rintro e w3 ⟨rfl, hb, hx, o3, ho, hl⟩
  have HB3 := Lib.hid (HB2.out.trans hb)
  have HX3 := Lib.hid hx
  have HL3 := Lib.hid hl
  have HO := Lib.hid ho
  clear hb hx hl ho HX2 HL2 HB2
  have ht0 := HX3.out.hbt.cell 0
  simp at ht0
  go_wp2_with fail
  rw [rounds_succ]
  go_wp2_with fail
  refine (take_end HL3.out).mono ?_
  rintro e w4 ⟨rfl, rfl⟩
  go_wp2_with fail
  exact bodyPost_ret (v := .tuple #[.iface 56 (.agg #[.bool false, .iface 54 (.string ⟨#[97]⟩), .iface 51 (.agg #[.iface 54 (.string ⟨#[98]⟩)])]), .bool true]) (by simp [results, Tryd.f24, go_sem]) rfl ⟨rfl, HB3.out, HX3.out, o3, HO.out, HL3.out⟩

set_option maxHeartbeats 4000000 in
theorem lam_calls {W : World} {B g bl bt bn bo br c : Nat} (hB : B ≤ bl) (hx : Bx W g bl bt bn bo br) (hl : Blk W bl 22 #[.slice (some ⟨g, 0, none⟩) (3 + 1 : Nat) (c + 3 + 1 : Nat)]) :
    Calls Tryd.prog 26 #[.pointer (some ⟨br, 0, none⟩), .pointer (some ⟨bn, 0, none⟩)] W fun e W' =>
      e = .returned (.tuple #[.iface 56 (.agg #[.bool false, .iface 54 (.string ⟨#[97]⟩), .iface 51 (.agg #[.iface 54 (.string ⟨#[98]⟩)])]), .bool true]) ∧ Left B W W' g bl bt bn bo br 0 c 4 := by
  have hr0 := hx.hbr.cell 0
  have hn0 := hx.hbn.cell 0
  have HX := Lib.hid hx
  have HL := Lib.hid hl
  clear hx hl
  simp at hr0 hn0
  go_enter Tryd.func26, Tryd.ntmps26
  go_wp2_with fail
  refine (row_and (B := B) hB HX.out HL.out).mono ?_
  rintro e w1 ⟨rfl, hb⟩
  have HB := Lib.hid hb
  clear hb hr0 hn0
  go_wp2_with fail
  exact bodyPost_ret (v := .tuple #[.iface 56 (.agg #[.bool false, .iface 54 (.string ⟨#[97]⟩), .iface 51 (.agg #[.iface 54 (.string ⟨#[98]⟩)])]), .bool true]) (by simp [results, Tryd.f26, go_sem]) rfl ⟨rfl, HB.out⟩

set_option maxHeartbeats 4000000 in
theorem row_or {W : World} {B g bl bt bn bo br c : Nat} (hB : B ≤ bl) (hx : Bx W g bl bt bn bo br) (hl : Blk W bl 22 #[.slice (some ⟨g, 0, none⟩) (3 + 1 : Nat) (c + 3 + 1 : Nat)]) :
    Calls Tryd.prog 24 #[.string ⟨#[124, 124]⟩, .func (.func 26) #[] #[.pointer (some ⟨br, 0, none⟩), .pointer (some ⟨bn, 0, none⟩)], .pointer (some ⟨bt, 0, none⟩)] W fun e W' =>
      e = .returned (.tuple #[.iface 56 (.agg #[.bool false, .iface 54 (.string ⟨#[97]⟩), .iface 51 (.agg #[.iface 54 (.string ⟨#[98]⟩)])]), .bool true]) ∧ Left B W W' g bl bt bn bo br 0 c 4 := by
  have HX := Lib.hid hx
  have HL := Lib.hid hl
  clear hx hl
  go_enter Tryd.func24, Tryd.ntmps24
  go_wp2_with fail
  refine (lam_calls (B := B) hB HX.out HL.out).mono ?_
  rintro e w3 ⟨rfl, hb, hx, o3, ho, hl⟩
  have HB3 := Lib.hid hb
  have HX3 := Lib.hid hx
  have HL3 := Lib.hid hl
  have HO := Lib.hid ho
  clear hb hx hl ho HX HL
  have ht0 := HX3.out.hbt.cell 0
  simp at ht0
  go_wp2_with fail
  refine wp_loop_rounds 1 ?_
  rw [rounds_succ]
  go_wp2_with fail
  refine (take_end HL3.out).mono ?_
  rintro e w4 ⟨rfl, rfl⟩
  go_wp2_with fail
  exact bodyPost_ret (v := .tuple #[.iface 56 (.agg #[.bool false, .iface 54 (.string ⟨#[97]⟩), .iface 51 (.agg #[.iface 54 (.string ⟨#[98]⟩)])]), .bool true]) (by simp [results, Tryd.f24, go_sem]) rfl ⟨rfl, HB3.out, HX3.out, o3, HO.out, HL3.out⟩

set_option maxHeartbeats 4000000 in
theorem or_any {W : World} {B g bl bt bn bo br c : Nat} (hB : B ≤ bl) (hx : Bx W g bl bt bn bo br) (hl : Blk W bl 22 #[.slice (some ⟨g, 0, none⟩) (3 + 1 : Nat) (c + 3 + 1 : Nat)]) :
    Calls Tryd.prog 25 #[.pointer (some ⟨br, 0, none⟩), .pointer (some ⟨bn, 0, none⟩)] W fun e W' =>
      e = .returned (.tuple #[.iface 56 (.agg #[.bool false, .iface 54 (.string ⟨#[97]⟩), .iface 51 (.agg #[.iface 54 (.string ⟨#[98]⟩)])]), .bool true]) ∧ Left B W W' g bl bt bn bo br 0 c 4 := by
  have hmf : ∀ (fn : Fn) (first cap : Array Value) (w : World), (Instr.makeFunc fn first cap).run Tryd.prog w = .ok (.func fn first cap) w := fun _ _ _ _ => rfl
  have hr0 := hx.hbr.cell 0
  have hn0 := hx.hbn.cell 0
  have HX := Lib.hid hx
  have HL := Lib.hid hl
  clear hx hl
  simp at hr0 hn0
  go_enter Tryd.func25, Tryd.ntmps25
  go_wp2_with fail
  refine (row_or (B := B) hB HX.out HL.out).mono ?_
  rintro e w1 ⟨rfl, hb⟩
  have HB := Lib.hid hb
  clear hb hr0 hn0
  go_wp2_with fail
  exact bodyPost_ret (v := .tuple #[.iface 56 (.agg #[.bool false, .iface 54 (.string ⟨#[97]⟩), .iface 51 (.agg #[.iface 54 (.string ⟨#[98]⟩)])]), .bool true]) (by simp [results, Tryd.f25, go_sem]) rfl ⟨rfl, HB.out⟩
end Go.Proofs.YtendihbndpahdaaDoor
