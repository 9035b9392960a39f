/- tags.Rule's Tags at recastlaw6.awake's rule, and at none. -/
import Derived.Test.YtendihbndpahdaaDoorTgRule
import Derived.Test.YtendihbndpahdaaDoorTgSorted
import Derived.Test.YtendihbndpahdaaDoorTgPc
import Derived.RegionTactic
namespace Go.Proofs.YtendihbndpahdaaDoor
open Go Go.RowKit Go.Sort Go.Lib

theorem own_of_blk {w : World} {g base n size : Nat} {e : TypeId} {cs : Array Value} (h : Blk w g e cs) (hb : base ≤ g) (hs : cs.size = n * size) (hm : n ≤ maxLen) : w.ownsRow base e size (.slice (some ⟨g, 0, none⟩) n n) n cs.toList :=
  ⟨by simpa using hs, .inr ⟨g, n, cs, rfl, hb, h, Nat.le_refl _, hm, hs, List.take_of_length_le (by rw [Array.length_toList, hs]; exact Nat.le_refl _)⟩⟩

def OneRes (x : ByteArray) (w : World) (e : Ending) (w' : World) : Prop :=
  ∃ g, e = .returned (.slice (some ⟨g, 0, none⟩) 1 1) ∧ w.heap.size ≤ g ∧ Blk w' g 9 #[.string x] ∧ Below w.heap.size w w'

theorem tag_tags {w : World} {x : ByteArray} : Calls Tryd.prog 102 #[.string x] w (OneRes x w) := by
  go_enter Tryd.func102, Tryd.ntmps102
  go_wp2_with fail
  go_ret
  exact ⟨w.heap.size, by first | rfl | simp, Nat.le_refl _, Blk.new _ _ _, (Below.refl _ _).alloc (Nat.le_refl _) _⟩

set_option maxRecDepth 100000 in
set_option maxHeartbeats 4000000 in
theorem not_tags {w : World} {x : ByteArray} : Calls Tryd.prog 93 #[.agg #[.iface 54 (.string x)]] w (OneRes x w) := by
  go_enter Tryd.func93, Tryd.ntmps93
  go_wp2_with fail
  refine tag_tags.mono ?_
  rintro e w1 ⟨g, rfl, hg, hb, hB⟩
  have HB := Lib.hid hb
  have HW : Hid (Below w.heap.size w w1) := ((Below.refl _ _).alloc (Nat.le_refl w.heap.size) _).trans (hB.mono (by simp))
  have HG : Hid (w.heap.size ≤ g) := by simp at hg; exact Nat.le_of_succ_le hg
  clear hg hb hB
  go_wp2_with fail
  go_ret
  exact ⟨g, by first | rfl | simp, HG.out, HB.out, HW.out⟩

set_option maxRecDepth 100000 in
set_option maxHeartbeats 8000000 in
theorem both_tags {w : World} {x y : ByteArray} : Calls Tryd.prog 108 #[.agg #[.bool false, .iface 54 (.string x), .iface 51 (.agg #[.iface 54 (.string y)])]] w fun e w' =>
    ∃ v, e = .returned v ∧ w'.ownsRow w.heap.size 9 1 v 2 [.string x, .string y] ∧ Below w.heap.size w w' := by
  obtain ⟨i0, hi, iz0, iz1, iz2⟩ : ∃ i, Tryd.prog.info? 9 = some i ∧ i.zero = some (.string ByteArray.empty) ∧ i.size = 1 ∧ i.bytes = 16 := by
    have := info_str
    revert this
    cases h : Tryd.prog.info? 9 with
    | none => intro h; cases h
    | some i => intro h; simp at h; exact ⟨i, rfl, h.1, h.2.1, h.2.2⟩
  have hm1 : ∀ (x : ByteArray) (w : World), (method 224 54 (.string x) "recast/tags.tags").run Tryd.prog w = .ok (102, .string x) w := fun x w => by kernel_rfl
  have hm2 : ∀ (y : ByteArray) (w : World), (method 224 51 (.agg #[.iface 54 (.string y)]) "recast/tags.tags").run Tryd.prog w = .ok (93, .agg #[.iface 54 (.string y)]) w := fun y w => by kernel_rfl
  go_enter Tryd.func108, Tryd.ntmps108
  go_wp2_with fail
  refine (fun H : (∀ X, (X.heap.size = w.heap.size + 1 ∧ Below w.heap.size w X ∧ Blk X w.heap.size 56 #[.bool false, .iface 54 (.string x), .iface 51 (.agg #[.iface 54 (.string y)])]) → Code.wp _ _ _ _ X) => H _ ⟨by simp, (Below.refl _ _).alloc (Nat.le_refl _) _, Blk.new _ _ _⟩) ?_
  rintro X ⟨hzX, hbX, hBX⟩
  have HBX := Lib.hid hbX
  have HBB := Lib.hid hBX
  have g1 := hBX.cell 1
  have g2 := hBX.cell 2
  simp at g1 g2
  clear hbX hBX
  have hl4 : w.heap.size < X.heap.size := by omega
  go_region_law
    (first
      | (go_simp
         go_at_call 102
         refine tag_tags.mono ?_
         rintro e w5 ⟨ga, rfl, hga, hba, hwa⟩
         have HX5 : Hid (Below X.heap.size X w5) := (Below.refl X.heap.size X).drew.trans hwa
         have HGA : Hid (X.heap.size ≤ ga) := hga
         have HBA := Lib.hid hba
         have k2 := (cell_below HX5.out (b := w.heap.size) (o := 2) hl4).trans g2
         clear hga hba hwa)
      | (go_simp
         go_at_call 93
         refine not_tags.mono ?_
         rintro e w6 ⟨gb, rfl, hgb, hbb, hwb⟩
         have HX6 : Hid (Below X.heap.size X w6) := HX5.out.trans (hwb.mono HX5.out.size)
         have HBA6 : Hid (Blk w6 ga 9 #[.string x]) := HBA.out.below hwb HBA.out.lt
         have HBB6 := Lib.hid hbb
         clear hgb hbb hwb)
      | (refine step_append_row _ rfl _ _ 22 rfl w.heap.size 9 i0 _ 1 16 Tryd.underlying22 hi iz0 iz1 iz2 rfl (by omega) (.slice (some ⟨ga, 0, none⟩) 1 1) 1 [.string x] (by simp [Act.eval]) ?c1 (fun b => b = gb) (.slice (some ⟨gb, 0, none⟩) 1 1) 1 [.string y] (by simp [Act.eval]) ?c2 (by simp [Value.oneCell']) (by unfold maxLen; omega) (by omega) ?c6 ?_
         case c1 => exact own_of_blk (n := 1) HBA6.out (by have := HGA.out; omega) rfl (by decide)
         case c2 => exact row_blk (cs := [.string y]) HBB6.out rfl (by decide) rfl
         case c6 => have := HX6.out.size; omega
         intro v' w7 hown hg hnil hat
         have HO7 := Lib.hid hown
         have HW7 : Hid (Below w.heap.size w w7) := (HBX.out.trans (HX6.out.mono (by omega))).grown hg (by have := HX6.out.size; omega) (fun k hk => by simp [Value.ownBlock] at hk; have := HGA.out; omega)
         clear hown hg hnil hat))
  all_goals
    go_wp2_with fail
    go_ret
    exact ⟨v', by first | rfl | simp, HO7.out, HW7.out⟩
end Go.Proofs.YtendihbndpahdaaDoor
