/- recastalike.Texts: true of two lists of the same texts. -/
import Derived.Test.YtendihbndpahdaaDoorApp
import Derived.Test.YtendihbndpahdaaDoorProg
import Derived.Deep.QuietTactic
import Derived.BigQuiet
import Derived.Deep.LoopGhost
namespace Go.Proofs.YtendihbndpahdaaDoor
open Go Go.RowKit

set_option maxHeartbeats 1000000 in
theorem texts_calls {n : Nat} {l : List Value} {v v' : Value} {w : World} {S S' : Nat → Prop} (hs : ∀ u ∈ l, ∃ s : ByteArray, u = .string s) (h : Row w S 1 v n l) (h' : Row w S' 1 v' n l) :
    Calls Tryd.prog 9 #[v, v'] w fun e w' => e = .returned (.bool true) ∧ ∃ q, w' = w.drewN q := by
  obtain ⟨A, cap, rfl, hlen⟩ := h.form
  obtain ⟨A', cap', rfl, -⟩ := h'.form
  have H := Lib.hid h
  have H' := Lib.hid h'
  have HS := Lib.hid hs
  clear h h' hs
  go_enter Tryd.func9, Tryd.ntmps9
  go_wp2_with fail
  go_loopg [5] n (fun d i wr => ∃ (j q : Nat), d = n - j ∧ j ≤ n ∧ i = .int .i64 j ∧ wr = w.drewN q)
  case atStart => exact ⟨0, 0, by simp, by omega, rfl, rfl⟩
  case round =>
    obtain ⟨j, q, rfl, hj, rfl, rfl⟩ := hrel
    by_cases hlt : j < n
    · obtain ⟨b, o, c, u, hv, hSb, hu, hc⟩ := H.out.at1 hlt
      obtain ⟨b', o', c', u', hv', hSb', hu', hc'⟩ := H'.out.at1 hlt
      cases hv; cases hv'
      rw [hu] at hu'
      cases hu'
      obtain ⟨s, rfl⟩ := HS.out u (List.mem_of_getElem? hu)
      clear hu
      have hl1 : (j : Int) < (n : Int) := by omega
      go_wp2_with fail
      go_quiet (fail)
      go_wp2_with fail
      go_roundg (n - (j + 1))
      case measure => omega
      case rel => exact ⟨j + 1, _, rfl, by omega, by go_num, rfl⟩
    · obtain rfl : j = n := by omega
      go_wp2_with fail
      go_ret
      exact ⟨rfl, _, rfl⟩
end Go.Proofs.YtendihbndpahdaaDoor
