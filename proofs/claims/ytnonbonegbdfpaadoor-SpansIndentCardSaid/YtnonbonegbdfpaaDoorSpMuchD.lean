/- An own row keeps to its base. -/
import Derived.Test.YtnonbonegbdfpaaDoorSpAwake
namespace Go.Proofs.YtnonbonegbdfpaaDoor
open Go Go.RowKit
theorem own_ge {w : World} {base : Nat} {e : TypeId} {size n : Nat} {v : Value} {xs : List Value} (h : w.ownsRow base e size v n xs) : ∀ k, v.ownBlock = some k → base ≤ k := fun k hk => (h.lt k hk).1
end Go.Proofs.YtnonbonegbdfpaaDoor
