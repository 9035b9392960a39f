/- recastlaw1.much: it returns. An own row of edits grown by one. -/
import Derived.Test.YtnonbonegbdfpaaSpAlike
import Derived.Test.YtnonbonegbdfpaaSpAwake
namespace Go.Proofs.Ytnonbonegbdfpaa
open Go Go.RowKit

set_option maxHeartbeats 2000000 in
set_option maxRecDepth 100000 in
theorem much_calls {l : List Ed} {v : Value} {w : World} {S : Nat → Prop} (h : Row w S 4 v l.length (flat l)) (hb : l.length * 48 ≤ 140737488355328) :
    Calls Try.prog 10 #[v] w fun e w' => (∃ r : Bool, e = .returned (.bool r)) ∧ Below w.heap.size w w' := by
  obtain ⟨A, cap, rfl, hlen⟩ := h.form
  have H := Lib.hid h
  have hlm : l.length ≤ 281474976710656 := by omega
  clear h hb
  go_enter Try.func10, Try.ntmps10
  go_wp2_with fail
  go_loopg [3, 4] l.length (fun d n i wr => ∃ (j q : Nat) (m : Int), d = l.length - j ∧ j ≤ l.length ∧ n = .int .i64 m ∧ i = .int .i64 j ∧ wr = w.drewN q)
  case atStart => exact ⟨0, 0, _, by simp, by omega, rfl, rfl, rfl⟩
  case round =>
    obtain ⟨j, q, m, rfl, hj, rfl, rfl, rfl⟩ := hrel
    by_cases hlt : j < l.length
    · obtain ⟨b, o, rfl, -, hnc, a0, a1, a2, a3⟩ := row_at4 H.out hlt rfl
      go_wp2_with fail
      go_quiet (fail)
      go_wp2_with fail
      go_roundg (l.length - (j + 1))
      case measure => omega
      case rel => exact ⟨j + 1, _, _, rfl, by omega, rfl, by go_num, rfl⟩
    · obtain rfl : j = l.length := by omega
      go_wp2_with fail
      go_ret
      exact ⟨⟨_, rfl⟩, below_drewN (Below.refl _ _) _⟩

/-- an own row keeps to its base -/
theorem own_ge {w : World} {base : Nat} {e : TypeId} {size n : Nat} {v : Value} {xs : List Value} (h : w.ownsRow base e size v n xs) : ∀ k, v.ownBlock = some k → base ≤ k := fun k hk => (h.lt k hk).1
theorem flat_app (a b : List Ed) : flat (a ++ b) = flat a ++ flat b := List.flatMap_append
theorem flat_one' (x : Ed) : flat [x] = x.cs := by simp [flat]
end Go.Proofs.Ytnonbonegbdfpaa
