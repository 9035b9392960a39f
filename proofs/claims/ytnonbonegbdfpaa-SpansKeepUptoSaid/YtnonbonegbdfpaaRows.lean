/-
  No cell of these rows narrows 'for every input' (looked for: loops, veiled, ifaces, maps, wideKeys, modest, calm, conditions, laid).
  DERIVED. THE GIVEN ROWS OF THIS SEAT. 7 by the template 'for every input the law returns true; each argument reads behind the call as it read before'; 0 by the template 'total and deterministic' (their statements: YtnonbonegbdfpaaTotals.lean).
  GIVEN WITH THE SEED: the statements are not yours to turn. If you find one false, say at which input.
  Laid BY PROGRAM, IN A SANDBOX (cutbox-rows.mjs): the forced cells as the released guide's own fill.sh prints them over the translation ce523a1a1f8deaa1… (all of the seat's roots in one cut). By AI agents, Wed Nov 11 2026. No macro, syntax, notation, axiom, sorry.
-/
import Derived.Test.YtnonbonegbdfpaaChecked
import GoSem.Claim
import GoSem.ClaimJoined
import GoSem.ClaimMapViews
import Derived.JoinedTies
import Derived.KernelRfl
namespace Go.Proofs.Ytnonbonegbdfpaa
/- THE CELL 'sum', in the pinned program and in every row, IS THE sha256 OF THE DUMP (.gsa) THAT YtnonbonegbdfpaaProg.lean LOADS. Nothing in Lean hashes anything: it is a label: what it is worth is what the hold of that sum in a sandbox is worth. -/
noncomputable def Try.pinned : Pinned := { name := "ytnonbonegbdfpaa", sum := "ce523a1a1f8deaa1d274e8a0bb78ac2f177b096f78c9cbc52a75ed7a3404ef8b", checked := Try.checked }
namespace Rows
def none {H : Type} : Left H := { results := [], args := [] }

/-- 'recastlaw1.SpansSorted': WHATEVER THE INPUT: true; the input reads as it did. -/
def spansSortedSpec : ChangeSpec := { name := "spansSorted", fn := fun _ => fun
  | [d] => { results := [.lit (.bool true)], args := [d] }
  | _ => none }
def spansSortedRow : OpenClaim := { program := "ytnonbonegbdfpaa", sum := "ce523a1a1f8deaa1d274e8a0bb78ac2f177b096f78c9cbc52a75ed7a3404ef8b", func := "recast/recastlaw1.SpansSorted", spec := "spansSorted", inPlace := ["internal/bytealg.CountString", "internal/bytealg.IndexByteString", "internal/bytealg.IndexString", "internal/abi.NoEscape", "internal/bytealg.MakeNoZero"], unfollowed := true, recurses := true, named := ["internal/bytealg.MaxLen"], apart := false }
def SpansSortedSaid : Prop := spansSortedRow.holds Try.pinned (OpenSpec.ofChange spansSortedSpec)

/-- ITS FALSE NEIGHBOUR: 'it returns false'. Refute it at one input. -/
def spansSortedWrong : ChangeSpec := { name := "spansSorted", fn := fun _ => fun
  | [d] => { results := [.lit (.bool false)], args := [d] }
  | _ => none }
def SpansSortedWrongFalsely : Prop := spansSortedRow.holds Try.pinned (OpenSpec.ofChange spansSortedWrong)

/-- 'recastlaw1.SpansApply': WHATEVER THE INPUT: true; the input reads as it did. -/
def spansApplySpec : ChangeSpec := { name := "spansApply", fn := fun _ => fun
  | [d1, d2] => { results := [.lit (.bool true)], args := [d1, d2] }
  | _ => none }
def spansApplyRow : OpenClaim := { program := "ytnonbonegbdfpaa", sum := "ce523a1a1f8deaa1d274e8a0bb78ac2f177b096f78c9cbc52a75ed7a3404ef8b", func := "recast/recastlaw1.SpansApply", spec := "spansApply", inPlace := ["internal/bytealg.CountString", "internal/bytealg.IndexByteString", "internal/bytealg.IndexString", "internal/abi.NoEscape", "internal/bytealg.MakeNoZero"], unfollowed := true, recurses := true, named := ["internal/bytealg.MaxLen"], apart := false }
def SpansApplySaid : Prop := spansApplyRow.holds Try.pinned (OpenSpec.ofChange spansApplySpec)

/-- ITS FALSE NEIGHBOUR: 'it returns false'. Refute it at one input. -/
def spansApplyWrong : ChangeSpec := { name := "spansApply", fn := fun _ => fun
  | [d1, d2] => { results := [.lit (.bool false)], args := [d1, d2] }
  | _ => none }
def SpansApplyWrongFalsely : Prop := spansApplyRow.holds Try.pinned (OpenSpec.ofChange spansApplyWrong)

/-- 'recastlaw1.SpansOrder': WHATEVER THE INPUT: true; the input reads as it did. -/
def spansOrderSpec : ChangeSpec := { name := "spansOrder", fn := fun _ => fun
  | [d1, d2] => { results := [.lit (.bool true)], args := [d1, d2] }
  | _ => none }
def spansOrderRow : OpenClaim := { program := "ytnonbonegbdfpaa", sum := "ce523a1a1f8deaa1d274e8a0bb78ac2f177b096f78c9cbc52a75ed7a3404ef8b", func := "recast/recastlaw1.SpansOrder", spec := "spansOrder", inPlace := ["internal/bytealg.CountString", "internal/bytealg.IndexByteString", "internal/bytealg.IndexString", "internal/abi.NoEscape", "internal/bytealg.MakeNoZero"], unfollowed := true, recurses := true, named := ["internal/bytealg.MaxLen"], apart := false }
def SpansOrderSaid : Prop := spansOrderRow.holds Try.pinned (OpenSpec.ofChange spansOrderSpec)

/-- ITS FALSE NEIGHBOUR: 'it returns false'. Refute it at one input. -/
def spansOrderWrong : ChangeSpec := { name := "spansOrder", fn := fun _ => fun
  | [d1, d2] => { results := [.lit (.bool false)], args := [d1, d2] }
  | _ => none }
def SpansOrderWrongFalsely : Prop := spansOrderRow.holds Try.pinned (OpenSpec.ofChange spansOrderWrong)

/-- 'recastlaw1.SpansNone': WHATEVER THE INPUT: true; the input reads as it did. -/
def spansNoneSpec : ChangeSpec := { name := "spansNone", fn := fun _ => fun
  | [d1, d2, d3] => { results := [.lit (.bool true)], args := [d1, d2, d3] }
  | _ => none }
def spansNoneRow : OpenClaim := { program := "ytnonbonegbdfpaa", sum := "ce523a1a1f8deaa1d274e8a0bb78ac2f177b096f78c9cbc52a75ed7a3404ef8b", func := "recast/recastlaw1.SpansNone", spec := "spansNone", inPlace := ["internal/bytealg.CountString", "internal/bytealg.IndexByteString", "internal/bytealg.IndexString", "internal/abi.NoEscape", "internal/bytealg.MakeNoZero"], unfollowed := true, recurses := true, named := ["internal/bytealg.MaxLen"], apart := false }
def SpansNoneSaid : Prop := spansNoneRow.holds Try.pinned (OpenSpec.ofChange spansNoneSpec)

/-- ITS FALSE NEIGHBOUR: 'it returns false'. Refute it at one input. -/
def spansNoneWrong : ChangeSpec := { name := "spansNone", fn := fun _ => fun
  | [d1, d2, d3] => { results := [.lit (.bool false)], args := [d1, d2, d3] }
  | _ => none }
def SpansNoneWrongFalsely : Prop := spansNoneRow.holds Try.pinned (OpenSpec.ofChange spansNoneWrong)

/-- 'recastlaw1.SpansMoved': WHATEVER THE INPUT: true; the input reads as it did. -/
def spansMovedSpec : ChangeSpec := { name := "spansMoved", fn := fun _ => fun
  | [d1, d2, d3] => { results := [.lit (.bool true)], args := [d1, d2, d3] }
  | _ => none }
def spansMovedRow : OpenClaim := { program := "ytnonbonegbdfpaa", sum := "ce523a1a1f8deaa1d274e8a0bb78ac2f177b096f78c9cbc52a75ed7a3404ef8b", func := "recast/recastlaw1.SpansMoved", spec := "spansMoved", inPlace := ["internal/bytealg.CountString", "internal/bytealg.IndexByteString", "internal/bytealg.IndexString", "internal/abi.NoEscape", "internal/bytealg.MakeNoZero"], unfollowed := true, recurses := true, named := ["internal/bytealg.MaxLen"], apart := false }
def SpansMovedSaid : Prop := spansMovedRow.holds Try.pinned (OpenSpec.ofChange spansMovedSpec)

/-- ITS FALSE NEIGHBOUR: 'it returns false'. Refute it at one input. -/
def spansMovedWrong : ChangeSpec := { name := "spansMoved", fn := fun _ => fun
  | [d1, d2, d3] => { results := [.lit (.bool false)], args := [d1, d2, d3] }
  | _ => none }
def SpansMovedWrongFalsely : Prop := spansMovedRow.holds Try.pinned (OpenSpec.ofChange spansMovedWrong)

/-- 'recastlaw1.SpansKeep': WHATEVER THE INPUT: true; the input reads as it did. -/
def spansKeepSpec : ChangeSpec := { name := "spansKeep", fn := fun _ => fun
  | [d1, d2] => { results := [.lit (.bool true)], args := [d1, d2] }
  | _ => none }
def spansKeepRow : OpenClaim := { program := "ytnonbonegbdfpaa", sum := "ce523a1a1f8deaa1d274e8a0bb78ac2f177b096f78c9cbc52a75ed7a3404ef8b", func := "recast/recastlaw1.SpansKeep", spec := "spansKeep", inPlace := ["internal/bytealg.CountString", "internal/bytealg.IndexByteString", "internal/bytealg.IndexString", "internal/abi.NoEscape", "internal/bytealg.MakeNoZero"], unfollowed := true, recurses := true, named := ["internal/bytealg.MaxLen"], apart := false }
def SpansKeepSaid : Prop := spansKeepRow.holds Try.pinned (OpenSpec.ofChange spansKeepSpec)

/-- ITS FALSE NEIGHBOUR: 'it returns false'. Refute it at one input. -/
def spansKeepWrong : ChangeSpec := { name := "spansKeep", fn := fun _ => fun
  | [d1, d2] => { results := [.lit (.bool false)], args := [d1, d2] }
  | _ => none }
def SpansKeepWrongFalsely : Prop := spansKeepRow.holds Try.pinned (OpenSpec.ofChange spansKeepWrong)

/-- 'recastlaw1.SpansBack': WHATEVER THE INPUT: true; the input reads as it did. -/
def spansBackSpec : ChangeSpec := { name := "spansBack", fn := fun _ => fun
  | [d1, d2] => { results := [.lit (.bool true)], args := [d1, d2] }
  | _ => none }
def spansBackRow : OpenClaim := { program := "ytnonbonegbdfpaa", sum := "ce523a1a1f8deaa1d274e8a0bb78ac2f177b096f78c9cbc52a75ed7a3404ef8b", func := "recast/recastlaw1.SpansBack", spec := "spansBack", inPlace := ["internal/bytealg.CountString", "internal/bytealg.IndexByteString", "internal/bytealg.IndexString", "internal/abi.NoEscape", "internal/bytealg.MakeNoZero"], unfollowed := true, recurses := true, named := ["internal/bytealg.MaxLen"], apart := false }
def SpansBackSaid : Prop := spansBackRow.holds Try.pinned (OpenSpec.ofChange spansBackSpec)

/-- ITS FALSE NEIGHBOUR: 'it returns false'. Refute it at one input. -/
def spansBackWrong : ChangeSpec := { name := "spansBack", fn := fun _ => fun
  | [d1, d2] => { results := [.lit (.bool false)], args := [d1, d2] }
  | _ => none }
def SpansBackWrongFalsely : Prop := spansBackRow.holds Try.pinned (OpenSpec.ofChange spansBackWrong)

/- THE SECOND FORM. 'bulk': how many values and letters a reading holds, each counted each time it is reached (what is shared counts as often as it is met; a slice's spare places count too). A statement '..UptoSaid' is the law's where the arguments, and the package variables that the reading takes, are together of bulk at most 1048576: NARROWER than '..Said'. Prove '..Said' where nothing that the law and all that it calls make is longer than what came in: it says more and counts as full. Else prove '..UptoSaid'. A law counts once. -/
mutual
def uptoBulk {H : Type} : DataW H → Nat
  | .lit (.string bytes) => bytes.length + 1
  | .lit _ => 1
  | .nil => 1
  | .ptr d => uptoBulk d + 1
  | .slice elems spare => uptoBulkAll elems + uptoBulkAll spare + 1
  | .agg parts => uptoBulkAll parts + 1
  | .iface _ d => uptoBulk d + 1
  | .map entries => uptoBulkEntries entries + 1
  | .held _ => 1
def uptoBulkAll {H : Type} : List (DataW H) → Nat
  | [] => 0
  | d :: r => uptoBulk d + uptoBulkAll r
def uptoBulkEntries {H : Type} : List (Lit × DataW H) → Nat
  | [] => 0
  | x :: r => uptoBulkEntry x + uptoBulkEntries r
def uptoBulkEntry {H : Type} : Lit × DataW H → Nat
  | (.string bytes, d) => bytes.length + uptoBulk d + 1
  | (_, d) => uptoBulk d + 1
 end
def uptoSmall : (H : Type) → List (DataW H) → Bool := fun _ ds => decide (uptoBulkAll ds ≤ 1048576)
def OpenSpec.upto (s : _root_.Go.ChangeSpec) : _root_.Go.OpenSpec := { _root_.Go.OpenSpec.ofChange s with cond := some uptoSmall }

/-- 'recastlaw1.SpansSorted', WHERE WHAT IT READS IS OF BULK AT MOST 1048576: true; the input reads as it did. -/
def spansSortedUptoRow : OpenClaim := { program := "ytnonbonegbdfpaa", sum := "ce523a1a1f8deaa1d274e8a0bb78ac2f177b096f78c9cbc52a75ed7a3404ef8b", func := "recast/recastlaw1.SpansSorted", spec := "spansSorted", inPlace := ["internal/bytealg.CountString", "internal/bytealg.IndexByteString", "internal/bytealg.IndexString", "internal/abi.NoEscape", "internal/bytealg.MakeNoZero"], unfollowed := true, recurses := true, named := ["internal/bytealg.MaxLen"], apart := false, narrowed := true }
def SpansSortedUptoSaid : Prop := spansSortedUptoRow.holds Try.pinned (OpenSpec.upto spansSortedSpec)

/-- 'recastlaw1.SpansApply', WHERE WHAT IT READS IS OF BULK AT MOST 1048576: true; the input reads as it did. -/
def spansApplyUptoRow : OpenClaim := { program := "ytnonbonegbdfpaa", sum := "ce523a1a1f8deaa1d274e8a0bb78ac2f177b096f78c9cbc52a75ed7a3404ef8b", func := "recast/recastlaw1.SpansApply", spec := "spansApply", inPlace := ["internal/bytealg.CountString", "internal/bytealg.IndexByteString", "internal/bytealg.IndexString", "internal/abi.NoEscape", "internal/bytealg.MakeNoZero"], unfollowed := true, recurses := true, named := ["internal/bytealg.MaxLen"], apart := false, narrowed := true }
def SpansApplyUptoSaid : Prop := spansApplyUptoRow.holds Try.pinned (OpenSpec.upto spansApplySpec)

/-- 'recastlaw1.SpansOrder', WHERE WHAT IT READS IS OF BULK AT MOST 1048576: true; the input reads as it did. -/
def spansOrderUptoRow : OpenClaim := { program := "ytnonbonegbdfpaa", sum := "ce523a1a1f8deaa1d274e8a0bb78ac2f177b096f78c9cbc52a75ed7a3404ef8b", func := "recast/recastlaw1.SpansOrder", spec := "spansOrder", inPlace := ["internal/bytealg.CountString", "internal/bytealg.IndexByteString", "internal/bytealg.IndexString", "internal/abi.NoEscape", "internal/bytealg.MakeNoZero"], unfollowed := true, recurses := true, named := ["internal/bytealg.MaxLen"], apart := false, narrowed := true }
def SpansOrderUptoSaid : Prop := spansOrderUptoRow.holds Try.pinned (OpenSpec.upto spansOrderSpec)

/-- 'recastlaw1.SpansNone', WHERE WHAT IT READS IS OF BULK AT MOST 1048576: true; the input reads as it did. -/
def spansNoneUptoRow : OpenClaim := { program := "ytnonbonegbdfpaa", sum := "ce523a1a1f8deaa1d274e8a0bb78ac2f177b096f78c9cbc52a75ed7a3404ef8b", func := "recast/recastlaw1.SpansNone", spec := "spansNone", inPlace := ["internal/bytealg.CountString", "internal/bytealg.IndexByteString", "internal/bytealg.IndexString", "internal/abi.NoEscape", "internal/bytealg.MakeNoZero"], unfollowed := true, recurses := true, named := ["internal/bytealg.MaxLen"], apart := false, narrowed := true }
def SpansNoneUptoSaid : Prop := spansNoneUptoRow.holds Try.pinned (OpenSpec.upto spansNoneSpec)

/-- 'recastlaw1.SpansMoved', WHERE WHAT IT READS IS OF BULK AT MOST 1048576: true; the input reads as it did. -/
def spansMovedUptoRow : OpenClaim := { program := "ytnonbonegbdfpaa", sum := "ce523a1a1f8deaa1d274e8a0bb78ac2f177b096f78c9cbc52a75ed7a3404ef8b", func := "recast/recastlaw1.SpansMoved", spec := "spansMoved", inPlace := ["internal/bytealg.CountString", "internal/bytealg.IndexByteString", "internal/bytealg.IndexString", "internal/abi.NoEscape", "internal/bytealg.MakeNoZero"], unfollowed := true, recurses := true, named := ["internal/bytealg.MaxLen"], apart := false, narrowed := true }
def SpansMovedUptoSaid : Prop := spansMovedUptoRow.holds Try.pinned (OpenSpec.upto spansMovedSpec)

/-- 'recastlaw1.SpansKeep', WHERE WHAT IT READS IS OF BULK AT MOST 1048576: true; the input reads as it did. -/
def spansKeepUptoRow : OpenClaim := { program := "ytnonbonegbdfpaa", sum := "ce523a1a1f8deaa1d274e8a0bb78ac2f177b096f78c9cbc52a75ed7a3404ef8b", func := "recast/recastlaw1.SpansKeep", spec := "spansKeep", inPlace := ["internal/bytealg.CountString", "internal/bytealg.IndexByteString", "internal/bytealg.IndexString", "internal/abi.NoEscape", "internal/bytealg.MakeNoZero"], unfollowed := true, recurses := true, named := ["internal/bytealg.MaxLen"], apart := false, narrowed := true }
def SpansKeepUptoSaid : Prop := spansKeepUptoRow.holds Try.pinned (OpenSpec.upto spansKeepSpec)

/-- 'recastlaw1.SpansBack', WHERE WHAT IT READS IS OF BULK AT MOST 1048576: true; the input reads as it did. -/
def spansBackUptoRow : OpenClaim := { program := "ytnonbonegbdfpaa", sum := "ce523a1a1f8deaa1d274e8a0bb78ac2f177b096f78c9cbc52a75ed7a3404ef8b", func := "recast/recastlaw1.SpansBack", spec := "spansBack", inPlace := ["internal/bytealg.CountString", "internal/bytealg.IndexByteString", "internal/bytealg.IndexString", "internal/abi.NoEscape", "internal/bytealg.MakeNoZero"], unfollowed := true, recurses := true, named := ["internal/bytealg.MaxLen"], apart := false, narrowed := true }
def SpansBackUptoSaid : Prop := spansBackUptoRow.holds Try.pinned (OpenSpec.upto spansBackSpec)

end Rows
end Go.Proofs.Ytnonbonegbdfpaa
