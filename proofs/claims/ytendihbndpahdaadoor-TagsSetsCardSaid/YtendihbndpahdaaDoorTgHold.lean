/- tags.Rule's term, Holds at recastlaw6.awake's rule. -/
import Derived.Test.YtendihbndpahdaaDoorTgPieces
namespace Go.Proofs.YtendihbndpahdaaDoor
open Go Go.RowKit

def hasS (l : List ByteArray) (x : ByteArray) : Bool := Lib.containsS l x
theorem tag_holds {w : World} {g : Nat} {l : List ByteArray} {x : ByteArray} (hl : l.length ≤ 9223372036854775807) (hb : Blk w g 9 (l.map Value.string).toArray) :
    Calls Tryd.prog 100 #[.string x, .slice (some ⟨g, 0, none⟩) l.length l.length] w fun e w' => e = .returned (.bool (hasS l x)) ∧ w' = w := by
  have hc : Hid (∀ w, Blk w g 9 (l.map Value.string).toArray → Calls Tryd.prog 104 #[.slice (some ⟨g, 0, none⟩) l.length l.length, .string x] w fun e w' => e = .returned (.bool (hasS l x)) ∧ w' = w) := by
    intro w hb
    have := Tryd.slices_Contains_string g 0 l.length l.length l x w (Nat.le_refl _) hl (fun j hj => by rw [Nat.zero_add, hb.cell]; simp [hj, List.getD])
    rw [List.take_of_length_le (Nat.le_refl _)] at this
    exact this
  have HB := Lib.hid hb
  clear hb
  obtain ⟨r, hr⟩ : ∃ r, hasS l x = r := ⟨_, rfl⟩
  obtain ⟨n, hn⟩ : ∃ n, l.length = n := ⟨_, rfl⟩
  rw [hr, hn] at hc ⊢
  rw [hn] at hl
  clear hr hn
  go_enter Tryd.func100, Tryd.ntmps100
  go_wp2_with fail
  refine (hc.out _ HB.out).mono ?_
  rintro e w1 ⟨rfl, hw⟩
  subst w1
  go_wp2_with fail
  go_ret
  exact ⟨by first | rfl | simp, rfl⟩

set_option maxRecDepth 100000 in
set_option maxHeartbeats 4000000 in
theorem not_holds {w : World} {g : Nat} {l : List ByteArray} {x : ByteArray} (hl : l.length ≤ 9223372036854775807) (hb : Blk w g 9 (l.map Value.string).toArray) :
    Calls Tryd.prog 91 #[.agg #[.iface 54 (.string x)], .slice (some ⟨g, 0, none⟩) l.length l.length] w fun e w' => e = .returned (.bool (!hasS l x)) ∧ Below w.heap.size w w' := by
  have hc : Hid (∀ w, Blk w g 9 (l.map Value.string).toArray → Calls Tryd.prog 100 #[.string x, .slice (some ⟨g, 0, none⟩) l.length l.length] w fun e w' => e = .returned (.bool (hasS l x)) ∧ w' = w) := fun w hb => tag_holds hl hb
  have HB := Lib.hid hb
  clear hb
  obtain ⟨r, hr⟩ : ∃ r, hasS l x = r := ⟨_, rfl⟩
  obtain ⟨n, hn⟩ : ∃ n, l.length = n := ⟨_, rfl⟩
  rw [hr, hn] at hc ⊢
  rw [hn] at hl
  clear hr hn
  go_enter Tryd.func91, Tryd.ntmps91
  go_wp2_with fail
  refine (hc.out _ (HB.out.alloc _)).mono ?_
  rintro e w1 ⟨rfl, hw⟩
  subst w1
  go_wp2_with fail
  go_ret
  exact ⟨by first | rfl | simp, (Below.refl _ _).alloc (Nat.le_refl _) _⟩
set_option maxRecDepth 100000 in
set_option maxHeartbeats 4000000 in
theorem both_holds {w : World} {g : Nat} {l : List ByteArray} {x y : ByteArray} (hl : l.length ≤ 9223372036854775807) (hb : Blk w g 9 (l.map Value.string).toArray) :
    Calls Tryd.prog 106 #[.agg #[.bool false, .iface 54 (.string x), .iface 51 (.agg #[.iface 54 (.string y)])], .slice (some ⟨g, 0, none⟩) l.length l.length] w fun e w' => e = .returned (.bool (hasS l x && !hasS l y)) ∧ Below w.heap.size w w' := by
  have hc : Hid (∀ w, Blk w g 9 (l.map Value.string).toArray → Calls Tryd.prog 100 #[.string x, .slice (some ⟨g, 0, none⟩) l.length l.length] w fun e w' => e = .returned (.bool (hasS l x)) ∧ w' = w) := fun w hb => tag_holds hl hb
  have hd : Hid (∀ w, Blk w g 9 (l.map Value.string).toArray → Calls Tryd.prog 91 #[.agg #[.iface 54 (.string y)], .slice (some ⟨g, 0, none⟩) l.length l.length] w fun e w' => e = .returned (.bool (!hasS l y)) ∧ Below w.heap.size w w') := fun w hb => not_holds hl hb
  have HB := Lib.hid hb
  clear hb
  obtain ⟨r, hr⟩ : ∃ r, hasS l x = r := ⟨_, rfl⟩
  obtain ⟨q, hq⟩ : ∃ q, (!hasS l y) = q := ⟨_, rfl⟩
  obtain ⟨n, hn⟩ : ∃ n, l.length = n := ⟨_, rfl⟩
  rw [hr, hn] at hc
  rw [hq, hn] at hd
  rw [hr, hq, hn]
  rw [hn] at hl
  clear hr hq hn
  have hB1 := HB.out.alloc (.cells #[.bool false, .iface 54 (.string x), .iface 51 (.agg #[.iface 54 (.string y)])] 56)
  have HA := Lib.hid hB1
  have HN := Lib.hid (Blk.new w 56 #[.bool false, .iface 54 (.string x), .iface 51 (.agg #[.iface 54 (.string y)])])
  clear hB1
  go_enter Tryd.func106, Tryd.ntmps106
  cases r
  · go_wp2_with fail
    refine (hc.out _ HA.out).mono ?_
    rintro e w1 ⟨rfl, hw⟩
    subst w1
    go_wp2_with fail
    go_ret
    exact ⟨by first | rfl | simp, (Below.refl _ _).alloc (Nat.le_refl _) _⟩
  · go_wp2_with fail
    refine (hc.out _ HA.out).mono ?_
    rintro e w1 ⟨rfl, hw⟩
    subst w1
    go_wp2_with fail
    refine (hd.out _ HA.out).mono ?_
    rintro e w1 ⟨rfl, hw⟩
    have HB2 : Hid (Below w.heap.size w w1) := ((Below.refl _ _).alloc (Nat.le_refl w.heap.size) _).trans (hw.mono (by simp))
    clear hw
    go_wp2_with fail
    go_ret
    exact ⟨by first | rfl | simp, HB2.out⟩
end Go.Proofs.YtendihbndpahdaaDoor
