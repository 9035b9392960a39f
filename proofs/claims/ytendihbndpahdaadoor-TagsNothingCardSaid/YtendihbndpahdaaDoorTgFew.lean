/- recastlaw6.few: it tells something. -/
import Derived.Test.YtendihbndpahdaaDoorTgTexts
namespace Go.Proofs.YtendihbndpahdaaDoor
open Go Go.RowKit

def FewRes (w : World) (e : Ending) (w' : World) : Prop := ∃ r : Bool, e = .returned (.bool r) ∧ w' = w

set_option maxHeartbeats 1000000 in
theorem few_calls {n : Nat} {l : List Value} {v : Value} {w : World} {S : Nat → Prop} (hs : ∀ u ∈ l, ∃ s : ByteArray, u = .string s) (h : Row w S 1 v n l) :
    Calls Tryd.prog 5 #[v] w (FewRes w) := by
  have HRES : ∀ e W', FewRes w e W' → FewRes w e W' := fun _ _ h => h
  have HR := Lib.hid HRES
  obtain ⟨A, cap, rfl, hlen⟩ := h.form
  have H := Lib.hid h
  have HS := Lib.hid hs
  clear h hs HRES
  go_enter Tryd.func5, Tryd.ntmps5
  go_wp2_with fail
  go_loopg [3, 4] n (fun d z i wr => ∃ (j : Nat) (x : Int), d = n - j ∧ j ≤ n ∧ z = .int .i64 x ∧ i = .int .i64 j ∧ wr = w)
  case atStart => exact ⟨0, _, by simp, by omega, rfl, rfl, rfl⟩
  case round =>
    obtain ⟨j, x, rfl, hj, rfl, rfl, rfl⟩ := hrel
    by_cases hlt : j < n
    · obtain ⟨b, o, c, u, hv, hSb, hu, hc⟩ := H.out.at1 hlt
      cases hv
      obtain ⟨s, rfl⟩ := HS.out u (List.mem_of_getElem? hu)
      clear hu
      have hl1 : (j : Int) < (n : Int) := by omega
      go_wp2_with fail
      go_roundg (n - (j + 1))
      case measure => omega
      case rel => exact ⟨j + 1, _, rfl, by omega, rfl, by go_num, rfl⟩
    · obtain rfl : j = n := by omega
      go_wp2_with fail
      go_ret
      exact HR.out _ _ ⟨_, rfl, rfl⟩
end Go.Proofs.YtendihbndpahdaaDoor
