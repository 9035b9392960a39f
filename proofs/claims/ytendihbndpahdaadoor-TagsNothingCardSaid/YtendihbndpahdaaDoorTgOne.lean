/- tags.Read's closures at the pieces of recastlaw6.awake's rule: one. -/
import Derived.Test.YtendihbndpahdaaDoorTgTake
namespace Go.Proofs.YtendihbndpahdaaDoor
open Go Go.RowKit

def ptr (b : Nat) : Value := .pointer (some ⟨b, 0, none⟩)
/-- the boxes of Read's closures and the pieces -/
structure Bx (W : World) (g bl bt bn bo br : Nat) : Prop where
  hbt : Blk W bt 47 #[.func (.func 21) #[] #[.pointer (some ⟨bl, 0, none⟩)]]
  hbn : Blk W bn 48 #[.func (.func 22) #[] #[.pointer (some ⟨bt, 0, none⟩), .pointer (some ⟨bn, 0, none⟩), .pointer (some ⟨bo, 0, none⟩), .pointer (some ⟨bl, 0, none⟩)]]
  hbo : Blk W bo 48 #[.func (.func 25) #[] #[.pointer (some ⟨br, 0, none⟩), .pointer (some ⟨bn, 0, none⟩)]]
  hbr : Blk W br 57 #[.func (.func 24) #[] #[.pointer (some ⟨bt, 0, none⟩)]]
  c0 : W.cell? ⟨g, 0, none⟩ = some (.string ⟨#[97]⟩)
  c1 : W.cell? ⟨g, 1, none⟩ = some (.string ⟨#[38, 38]⟩)
  c2 : W.cell? ⟨g, 2, none⟩ = some (.string ⟨#[33]⟩)
  c3 : W.cell? ⟨g, 3, none⟩ = some (.string ⟨#[98]⟩)
  ng : g ≠ bl
  nt : bt ≠ bl
  nn : bn ≠ bl
  no : bo ≠ bl
  nr : br ≠ bl

theorem Bx.set_ {W : World} {g bl bt bn bo br : Nat} (h : Bx W g bl bt bn bo br) (u : Value) : Bx (W.setCell ⟨bl, 0, none⟩ u) g bl bt bn bo br :=
  ⟨h.hbt.far h.nt u, h.hbn.far h.nn u, h.hbo.far h.no u, h.hbr.far h.nr u,
   (World.cell?_of_block (Below.heap_setCell W ⟨bl, 0, none⟩ u g h.ng)).trans h.c0, (World.cell?_of_block (Below.heap_setCell W ⟨bl, 0, none⟩ u g h.ng)).trans h.c1,
   (World.cell?_of_block (Below.heap_setCell W ⟨bl, 0, none⟩ u g h.ng)).trans h.c2, (World.cell?_of_block (Below.heap_setCell W ⟨bl, 0, none⟩ u g h.ng)).trans h.c3, h.ng, h.nt, h.nn, h.no, h.nr⟩

theorem bl_set {W : World} {bl : Nat} {t : TypeId} {v : Value} (h : Blk W bl t #[v]) (u : Value) : Blk (W.setCell ⟨bl, 0, none⟩ u) bl t #[u] := h.set_ 0 u

theorem ne_b1 : ((⟨#[98]⟩ : ByteArray).toList == (⟨#[33]⟩ : ByteArray).toList) = false := by simp [go_sem]
theorem ne_b2 : ((⟨#[98]⟩ : ByteArray).toList == (⟨#[40]⟩ : ByteArray).toList) = false := by simp [go_sem]
theorem ne_b3 : ((⟨#[98]⟩ : ByteArray).toList == (⟨#[116, 114, 117, 101]⟩ : ByteArray).toList) = false := by simp [go_sem]
theorem ne_a1 : ((⟨#[97]⟩ : ByteArray).toList == (⟨#[33]⟩ : ByteArray).toList) = false := by simp [go_sem]
theorem ne_a2 : ((⟨#[97]⟩ : ByteArray).toList == (⟨#[40]⟩ : ByteArray).toList) = false := by simp [go_sem]
theorem ne_a3 : ((⟨#[97]⟩ : ByteArray).toList == (⟨#[116, 114, 117, 101]⟩ : ByteArray).toList) = false := by simp [go_sem]
/-- what a piece of the reading leaves: the rest l' is in the box -/
def Left (B : Nat) (W W' : World) (g bl bt bn bo br n c : Nat) (o : Nat) : Prop :=
  Below B W W' ∧ Bx W' g bl bt bn bo br ∧ ∃ o', (0 < c → o' = o) ∧ Blk W' bl 22 #[.slice (some ⟨g, o', none⟩) n c]

set_option maxHeartbeats 4000000 in
theorem one_b {W : World} {B g bl bt bn bo br c : Nat} (hB : B ≤ bl) (hx : Bx W g bl bt bn bo br) (hl : Blk W bl 22 #[.slice (some ⟨g, 3, none⟩) (0 + 1 : Nat) (c + 1 : Nat)]) (hnc : 0 ≤ c) :
    Calls Tryd.prog 22 #[.pointer (some ⟨bt, 0, none⟩), .pointer (some ⟨bn, 0, none⟩), .pointer (some ⟨bo, 0, none⟩), .pointer (some ⟨bl, 0, none⟩)] W fun e W' =>
      e = .returned (.tuple #[.iface 54 (.string ⟨#[98]⟩), .bool true]) ∧ Left B W W' g bl bt bn bo br 0 c 4 := by
  have hl0 := hl.cell 0
  have hf0 := hl.frozen 0
  have ht0 := hx.hbt.cell 0
  have ht1 := hx.hbt.frozen 0
  have hc3 := hx.c3
  have HX := Lib.hid hx
  have HL := Lib.hid hl
  clear hx hl
  simp at hl0 ht0
  go_enter Tryd.func22, Tryd.ntmps22
  rcases Nat.eq_zero_or_pos c with rfl | hc0
  · go_wp2_with (first
      | (go_at_call 21; refine (take_no (n := 0) (c := 0) HL.out hc3 (by first | exact ne_b1 | exact ne_b2 | exact ne_b3)).mono ?_; rintro e w' ⟨rfl, rfl⟩)
      | (go_at_call 23; refine ident_b.mono ?_; rintro e w' ⟨rfl, rfl⟩)
      | fail)
    refine bodyPost_ret (v := .tuple #[.iface 54 (.string ⟨#[98]⟩), .bool true]) (by simp [results, Tryd.f22, go_sem]) rfl ⟨rfl, (Below.refl _ _).setCell hB _, HX.out.set_ _, 3, fun h => absurd h (Nat.lt_irrefl 0), bl_set HL.out _⟩
  · go_wp2_with (first
      | (go_at_call 21; refine (take_no (n := 0) (c := c) HL.out hc3 (by first | exact ne_b1 | exact ne_b2 | exact ne_b3)).mono ?_; rintro e w' ⟨rfl, rfl⟩)
      | (go_at_call 23; refine ident_b.mono ?_; rintro e w' ⟨rfl, rfl⟩)
      | fail)
    refine bodyPost_ret (v := .tuple #[.iface 54 (.string ⟨#[98]⟩), .bool true]) (by simp [results, Tryd.f22, go_sem]) rfl ⟨rfl, (Below.refl _ _).setCell hB _, HX.out.set_ _, 4, fun _ => rfl, bl_set HL.out _⟩
set_option maxHeartbeats 4000000 in
theorem one_a {W : World} {B g bl bt bn bo br c : Nat} (hB : B ≤ bl) (hx : Bx W g bl bt bn bo br) (hl : Blk W bl 22 #[.slice (some ⟨g, 0, none⟩) (3 + 1 : Nat) (c + 1 : Nat)]) (hnc : 3 ≤ c) :
    Calls Tryd.prog 22 #[.pointer (some ⟨bt, 0, none⟩), .pointer (some ⟨bn, 0, none⟩), .pointer (some ⟨bo, 0, none⟩), .pointer (some ⟨bl, 0, none⟩)] W fun e W' =>
      e = .returned (.tuple #[.iface 54 (.string ⟨#[97]⟩), .bool true]) ∧ Left B W W' g bl bt bn bo br 3 c 1 := by
  have hl0 := hl.cell 0
  have hf0 := hl.frozen 0
  have ht0 := hx.hbt.cell 0
  have ht1 := hx.hbt.frozen 0
  have hc3 := hx.c0
  have HX := Lib.hid hx
  have HL := Lib.hid hl
  clear hx hl
  simp at hl0 ht0
  go_enter Tryd.func22, Tryd.ntmps22
  rcases Nat.eq_zero_or_pos c with rfl | hc0
  · omega
  · go_wp2_with (first
      | (go_at_call 21; refine (take_no (n := 3) (c := c) HL.out hc3 (by first | exact ne_a1 | exact ne_a2 | exact ne_a3)).mono ?_; rintro e w' ⟨rfl, rfl⟩)
      | (go_at_call 23; refine ident_a.mono ?_; rintro e w' ⟨rfl, rfl⟩)
      | fail)
    refine bodyPost_ret (v := .tuple #[.iface 54 (.string ⟨#[97]⟩), .bool true]) (by simp [results, Tryd.f22, go_sem]) rfl ⟨rfl, (Below.refl _ _).setCell hB _, HX.out.set_ _, 1, fun _ => rfl, bl_set HL.out _⟩
theorem eq_n1 : ((⟨#[33]⟩ : ByteArray).toList == (⟨#[33]⟩ : ByteArray).toList) = true := by simp
set_option maxHeartbeats 4000000 in
theorem one_n {W : World} {B g bl bt bn bo br c : Nat} (hB : B ≤ bl) (hx : Bx W g bl bt bn bo br) (hl : Blk W bl 22 #[.slice (some ⟨g, 2, none⟩) (1 + 1 : Nat) (c + 1 + 1 : Nat)]) :
    Calls Tryd.prog 22 #[.pointer (some ⟨bt, 0, none⟩), .pointer (some ⟨bn, 0, none⟩), .pointer (some ⟨bo, 0, none⟩), .pointer (some ⟨bl, 0, none⟩)] W fun e W' =>
      e = .returned (.tuple #[.iface 51 (.agg #[.iface 54 (.string ⟨#[98]⟩)]), .bool true]) ∧ Left B W W' g bl bt bn bo br 0 c 4 := by
  have ht0 := hx.hbt.cell 0
  have hn0 := hx.hbn.cell 0
  have hc3 := hx.c2
  have HX := Lib.hid hx
  have HL := Lib.hid hl
  clear hx hl
  simp at hn0 ht0
  go_enter Tryd.func22, Tryd.ntmps22
  go_wp2_with fail
  refine (take_yes (n := 1) (c := c + 1) HL.out hc3 (by omega)).mono ?_
  rintro e w' ⟨rfl, o', ho, hw⟩
  obtain rfl := ho (by omega)
  have HW : Hid (Below B W w') := by rw [hw]; exact (Below.refl _ _).setCell hB _
  have HX1 : Hid (Bx w' g bl bt bn bo br) := by rw [hw]; exact HX.out.set_ _
  have HL1 : Hid (Blk w' bl 22 #[.slice (some ⟨g, 3, none⟩) (0 + 1 : Nat) (c + 1 : Nat)]) := by rw [hw]; exact bl_set HL.out _
  clear ht0 hn0 hc3 HX HL hw ho
  have hn0 := HX1.out.hbn.cell 0
  simp at hn0
  go_wp2_with fail
  refine (one_b (B := B) hB HX1.out HL1.out (Nat.zero_le _)).mono ?_
  rintro e w2 ⟨rfl, hb, hx2, hl2⟩
  have HB := Lib.hid (HW.out.trans hb)
  have HX2 := Lib.hid hx2
  have HL2 := Lib.hid hl2
  clear hb hx2 hl2 hn0
  go_wp2_with fail
  exact bodyPost_ret (v := .tuple #[.iface 51 (.agg #[.iface 54 (.string ⟨#[98]⟩)]), .bool true]) (by simp [results, Tryd.f22, go_sem]) rfl ⟨rfl, HB.out, HX2.out, HL2.out⟩
end Go.Proofs.YtendihbndpahdaaDoor
