/- recastlaw9.MethodsDeep: the walk. -/
import Derived.Test.YtanhdklaponekaaMtA
import Derived.Deep.RegionLaw
namespace Go.Proofs.Ytanhdklaponekaa
open Go Go.RowKit

def tn (i : Nat) : ByteArray := (⟨#[84]⟩ : ByteArray) ++ letter i
def mn (i : Nat) : ByteArray := (⟨#[109, 97, 105, 110, 46, 84]⟩ : ByteArray) ++ letter i
def sZ : ByteArray := ⟨#[90]⟩
def mZ : ByteArray := ⟨#[109, 97, 105, 110, 46, 90]⟩
def sx : ByteArray := ⟨#[120]⟩
def dT (n : Nat) (tw : Bool) (i : Nat) : T := if tw = true ∧ i + 1 = n then .mk 14 ⟨#[]⟩ 0 false [tn (i + 1), sZ] [true, true] [nameT (mn (i + 1)), nameT mZ] else .mk 14 ⟨#[]⟩ 0 false [tn (i + 1)] [true] [nameT (mn (i + 1))]
def dN (n : Nat) (tw : Bool) (i : Nat) : Nd := ⟨mn i, dT n tw i, []⟩
def endT : T := .mk 14 ⟨#[]⟩ 0 false [sx] [false] [k0T 1]
def preL (n : Nat) (tw : Bool) (j : Nat) : List Nd := (List.range j).map (dN n tw)
def deepL (n : Nat) (tw : Bool) : List Nd := preL n tw n ++ [⟨mn n, endT, []⟩, ⟨mZ, endT, []⟩]
theorem preL_len (n : Nat) (tw : Bool) (j : Nat) : (preL n tw j).length = j := by simp [preL]
theorem preL_succ (n : Nat) (tw : Bool) (j : Nat) : preL n tw (j + 1) = preL n tw j ++ [dN n tw j] := by simp [preL, List.range_succ]
/-- one field's path, and the other's -/
def deepF (n : Nat) (tw : Bool) : List Fd := if tw = true then [⟨7, mn n, k0T 1, List.replicate (n - 1) 0 ++ [0, 0], false, false⟩, ⟨7, mZ, k0T 1, List.replicate (n - 1) 0 ++ [1, 0], false, false⟩] else [⟨7, mn n, k0T 1, List.replicate (n + 1) 0, false, false⟩]
def deepOk (n : Nat) (tw : Bool) : Bool := fitB (deepL n tw) && undB (deepL n tw)
theorem upto {α : Type} {f g : Nat → α} (h : (List.range 10).map (fun i => f (i + 1)) = (List.range 10).map fun i => g (i + 1)) {n : Nat} (h1 : 1 ≤ n) (h2 : n ≤ 10) : f n = g n := by
  have h3 := List.map_inj_left.1 h (n - 1) (List.mem_range.2 (by omega))
  simpa [Nat.sub_add_cancel h1] using h3
theorem deep_ok {n : Nat} (h1 : 1 ≤ n) (h2 : n ≤ 10) (tw : Bool) : deepOk n tw = true := by
  cases tw
  · exact upto (f := fun n => deepOk n false) (g := fun _ => true) (by kernel_rfl) h1 h2
  · exact upto (f := fun n => deepOk n true) (g := fun _ => true) (by kernel_rfl) h1 h2
theorem deep_run {n : Nat} (h1 : 1 ≤ n) (h2 : n ≤ 10) (tw : Bool) : runB (deepL n tw) (U1 (deepL n tw)) (stepL sx false) (contL sx false) emptyB 15 [] [(nameT (mn 0), [])] [] = some (deepF n tw) := by
  cases tw
  · exact upto (f := fun n => runB (deepL n false) (U1 (deepL n false)) (stepL sx false) (contL sx false) emptyB 15 [] [(nameT (mn 0), [])] []) (g := fun n => some (deepF n false)) (by kernel_rfl) h1 h2
  · exact upto (f := fun n => runB (deepL n true) (U1 (deepL n true)) (stepL sx false) (contL sx false) emptyB 15 [] [(nameT (mn 0), [])] []) (g := fun n => some (deepF n true)) (by kernel_rfl) h1 h2
theorem deep_looked {n : Nat} (h1 : 1 ≤ n) (h2 : n ≤ 10) (tw : Bool) : lookedP (U1 (deepL n tw)) (nameT (mn 0)) = (nameT (mn 0), false) := by
  cases tw
  · exact upto (f := fun n => lookedP (U1 (deepL n false)) (nameT (mn 0))) (g := fun _ => (nameT (mn 0), false)) (by kernel_rfl) h1 h2
  · exact upto (f := fun n => lookedP (U1 (deepL n true)) (nameT (mn 0))) (g := fun _ => (nameT (mn 0), false)) (by kernel_rfl) h1 h2
end Go.Proofs.Ytanhdklaponekaa
