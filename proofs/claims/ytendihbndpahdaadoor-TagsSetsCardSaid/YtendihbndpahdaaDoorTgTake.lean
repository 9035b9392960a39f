/- tags.Read's closures at the pieces of recastlaw6.awake's rule: take. -/
import Derived.Test.YtendihbndpahdaaDoorTgSmall
namespace Go.Proofs.YtendihbndpahdaaDoor
open Go Go.RowKit

/-- a slice that is not nil -/
def sl (g o n c : Nat) : Value := .slice (some ⟨g, o, none⟩) n c

set_option maxHeartbeats 1000000 in
theorem take_yes {w : World} {bl g o n c : Nat} {s : ByteArray} (hl : Blk w bl 22 #[.slice (some ⟨g, o, none⟩) (n + 1 : Nat) (c + 1 : Nat)]) (hc : w.cell? ⟨g, o, none⟩ = some (.string s)) (hn : n ≤ c) :
    Calls Tryd.prog 21 #[.string s, .pointer (some ⟨bl, 0, none⟩)] w fun e w' => e = .returned (.bool true) ∧ ∃ o', (0 < c → o' = o + 1) ∧ w' = w.setCell ⟨bl, 0, none⟩ (.slice (some ⟨g, o', none⟩) n c) := by
  have hl0 : w.cell? ⟨bl, 0, none⟩ = some (.slice (some ⟨g, o, none⟩) (n + 1 : Nat) (c + 1 : Nat)) := hl.cell 0
  have hf0 := hl.frozen 0
  go_enter Tryd.func21, Tryd.ntmps21
  rcases Nat.eq_zero_or_pos c with rfl | hc0
  · obtain rfl : n = 0 := by omega
    go_wp2_with fail
    go_ret
    exact ⟨by first | rfl | simp, o, fun h => absurd h (Nat.lt_irrefl 0), rfl⟩
  · go_wp2_with fail
    go_ret
    exact ⟨by first | rfl | simp, o + 1, fun _ => rfl, rfl⟩
set_option maxHeartbeats 1000000 in
theorem take_no {w : World} {bl g o n c : Nat} {s t : ByteArray} (hl : Blk w bl 22 #[.slice (some ⟨g, o, none⟩) (n + 1 : Nat) (c + 1 : Nat)]) (hc : w.cell? ⟨g, o, none⟩ = some (.string s)) (hs : (s.toList == t.toList) = false) :
    Calls Tryd.prog 21 #[.string t, .pointer (some ⟨bl, 0, none⟩)] w fun e w' => e = .returned (.bool false) ∧ w' = w := by
  have hl0 : w.cell? ⟨bl, 0, none⟩ = some (.slice (some ⟨g, o, none⟩) (n + 1 : Nat) (c + 1 : Nat)) := hl.cell 0
  have hf0 := hl.frozen 0
  go_enter Tryd.func21, Tryd.ntmps21
  go_wp2_with fail
  go_ret
  exact ⟨by first | rfl | simp, rfl⟩
set_option maxHeartbeats 1000000 in
theorem take_end {w : World} {bl c : Nat} {p : Option Addr} {t : ByteArray} (hl : Blk w bl 22 #[.slice p 0 c]) :
    Calls Tryd.prog 21 #[.string t, .pointer (some ⟨bl, 0, none⟩)] w fun e w' => e = .returned (.bool false) ∧ w' = w := by
  have hl0 : w.cell? ⟨bl, 0, none⟩ = some (.slice p 0 c) := hl.cell 0
  have hf0 := hl.frozen 0
  go_enter Tryd.func21, Tryd.ntmps21
  go_wp2_with fail
  go_ret
  exact ⟨by first | rfl | simp, rfl⟩
end Go.Proofs.YtendihbndpahdaaDoor
