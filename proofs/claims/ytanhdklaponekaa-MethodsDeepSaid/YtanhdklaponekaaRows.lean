/-
  NARROWER THAN 'FOR EVERY INPUT', by the rows' own cells (each row's printed sentence says how): UnifyBack: loops · TypesMake: loops · TypesLaws: loops · TypesNothing: loops.
  DERIVED. THE GIVEN ROWS OF THIS SEAT. 5 by the template 'for every input the law returns true; each argument reads behind the call as it read before'; 0 by the template 'total and deterministic' (their statements: YtanhdklaponekaaTotals.lean).
  GIVEN WITH THE SEED: the statements are not yours to turn. If you find one false, say at which input.
  Laid BY PROGRAM, IN A SANDBOX (cutbox-rows.mjs): the forced cells as the released guide's own fill.sh prints them over the translation 6d2ef5e49bfa965d… (all of the seat's roots in one cut). By AI agents, Wed Nov 11 2026. No macro, syntax, notation, axiom, sorry.
-/
import Derived.Test.YtanhdklaponekaaChecked
import GoSem.Claim
import GoSem.ClaimJoined
import GoSem.ClaimMapViews
import Derived.JoinedTies
import Derived.KernelRfl
namespace Go.Proofs.Ytanhdklaponekaa
/- THE CELL 'sum', in the pinned program and in every row, IS THE sha256 OF THE DUMP (.gsa) THAT YtanhdklaponekaaProg.lean LOADS. Nothing in Lean hashes anything: it is a label: what it is worth is what the hold of that sum in a sandbox is worth. -/
noncomputable def Try.pinned : Pinned := { name := "ytanhdklaponekaa", sum := "6d2ef5e49bfa965dfbd365a6ba20e837851028f7e1a6a237c845a2153a818067", checked := Try.checked }
namespace Rows
def none {H : Type} : Left H := { results := [], args := [] }

/-- 'recastlaw11.UnifyBack': WHATEVER THE INPUT: true; the input reads as it did. -/
def unifyBackSpec : ChangeSpec := { name := "unifyBack", fn := fun _ => fun
  | [d1, d2, d3] => { results := [.lit (.bool true)], args := [d1, d2, d3] }
  | _ => none }
def unifyBackRow : OpenClaim := { program := "ytanhdklaponekaa", sum := "6d2ef5e49bfa965dfbd365a6ba20e837851028f7e1a6a237c845a2153a818067", func := "recast/recastlaw11.UnifyBack", spec := "unifyBack", unfollowed := true, recurses := true, loops := true, apart := false }
def UnifyBackSaid : Prop := unifyBackRow.holds Try.pinned (OpenSpec.ofChange unifyBackSpec)

/-- ITS FALSE NEIGHBOUR: 'it returns false'. Refute it at one input. -/
def unifyBackWrong : ChangeSpec := { name := "unifyBack", fn := fun _ => fun
  | [d1, d2, d3] => { results := [.lit (.bool false)], args := [d1, d2, d3] }
  | _ => none }
def UnifyBackWrongFalsely : Prop := unifyBackRow.holds Try.pinned (OpenSpec.ofChange unifyBackWrong)

/-- 'recastlaw8.TypesMake': WHATEVER THE INPUT: true; the input reads as it did. -/
def typesMakeSpec : ChangeSpec := { name := "typesMake", fn := fun _ => fun
  | [d1, d2, d3] => { results := [.lit (.bool true)], args := [d1, d2, d3] }
  | _ => none }
def typesMakeRow : OpenClaim := { program := "ytanhdklaponekaa", sum := "6d2ef5e49bfa965dfbd365a6ba20e837851028f7e1a6a237c845a2153a818067", func := "recast/recastlaw8.TypesMake", spec := "typesMake", inPlace := ["internal/abi.NoEscape", "internal/bytealg.MakeNoZero"], unfollowed := true, recurses := true, loops := true, apart := false }
def TypesMakeSaid : Prop := typesMakeRow.holds Try.pinned (OpenSpec.ofChange typesMakeSpec)

/-- ITS FALSE NEIGHBOUR: 'it returns false'. Refute it at one input. -/
def typesMakeWrong : ChangeSpec := { name := "typesMake", fn := fun _ => fun
  | [d1, d2, d3] => { results := [.lit (.bool false)], args := [d1, d2, d3] }
  | _ => none }
def TypesMakeWrongFalsely : Prop := typesMakeRow.holds Try.pinned (OpenSpec.ofChange typesMakeWrong)

/-- 'recastlaw8.TypesLaws': WHATEVER THE INPUT: true; the input reads as it did. -/
def typesLawsSpec : ChangeSpec := { name := "typesLaws", fn := fun _ => fun
  | [d1, d2, d3] => { results := [.lit (.bool true)], args := [d1, d2, d3] }
  | _ => none }
def typesLawsRow : OpenClaim := { program := "ytanhdklaponekaa", sum := "6d2ef5e49bfa965dfbd365a6ba20e837851028f7e1a6a237c845a2153a818067", func := "recast/recastlaw8.TypesLaws", spec := "typesLaws", inPlace := ["internal/abi.NoEscape", "internal/bytealg.MakeNoZero"], unfollowed := true, recurses := true, loops := true, apart := false }
def TypesLawsSaid : Prop := typesLawsRow.holds Try.pinned (OpenSpec.ofChange typesLawsSpec)

/-- ITS FALSE NEIGHBOUR: 'it returns false'. Refute it at one input. -/
def typesLawsWrong : ChangeSpec := { name := "typesLaws", fn := fun _ => fun
  | [d1, d2, d3] => { results := [.lit (.bool false)], args := [d1, d2, d3] }
  | _ => none }
def TypesLawsWrongFalsely : Prop := typesLawsRow.holds Try.pinned (OpenSpec.ofChange typesLawsWrong)

/-- 'recastlaw8.TypesNothing': WHATEVER THE INPUT: true; the input reads as it did. -/
def typesNothingSpec : ChangeSpec := { name := "typesNothing", fn := fun _ => fun
  | [d1, d2] => { results := [.lit (.bool true)], args := [d1, d2] }
  | _ => none }
def typesNothingRow : OpenClaim := { program := "ytanhdklaponekaa", sum := "6d2ef5e49bfa965dfbd365a6ba20e837851028f7e1a6a237c845a2153a818067", func := "recast/recastlaw8.TypesNothing", spec := "typesNothing", inPlace := ["internal/abi.NoEscape", "internal/bytealg.MakeNoZero"], unfollowed := true, recurses := true, loops := true, apart := false }
def TypesNothingSaid : Prop := typesNothingRow.holds Try.pinned (OpenSpec.ofChange typesNothingSpec)

/-- ITS FALSE NEIGHBOUR: 'it returns false'. Refute it at one input. -/
def typesNothingWrong : ChangeSpec := { name := "typesNothing", fn := fun _ => fun
  | [d1, d2] => { results := [.lit (.bool false)], args := [d1, d2] }
  | _ => none }
def TypesNothingWrongFalsely : Prop := typesNothingRow.holds Try.pinned (OpenSpec.ofChange typesNothingWrong)

/-- 'recastlaw9.MethodsDeep': WHATEVER THE INPUT: true; the input reads as it did. -/
def methodsDeepSpec : ChangeSpec := { name := "methodsDeep", fn := fun _ => fun
  | [d1, d2] => { results := [.lit (.bool true)], args := [d1, d2] }
  | _ => none }
def methodsDeepRow : OpenClaim := { program := "ytanhdklaponekaa", sum := "6d2ef5e49bfa965dfbd365a6ba20e837851028f7e1a6a237c845a2153a818067", func := "recast/recastlaw9.MethodsDeep", spec := "methodsDeep", unfollowed := true, recurses := true, apart := false }
def MethodsDeepSaid : Prop := methodsDeepRow.holds Try.pinned (OpenSpec.ofChange methodsDeepSpec)

/-- ITS FALSE NEIGHBOUR: 'it returns false'. Refute it at one input. -/
def methodsDeepWrong : ChangeSpec := { name := "methodsDeep", fn := fun _ => fun
  | [d1, d2] => { results := [.lit (.bool false)], args := [d1, d2] }
  | _ => none }
def MethodsDeepWrongFalsely : Prop := methodsDeepRow.holds Try.pinned (OpenSpec.ofChange methodsDeepWrong)

/- THE SECOND FORM. 'bulk': how many values and letters a reading holds, each counted each time it is reached (what is shared counts as often as it is met; a slice's spare places count too). A statement '..UptoSaid' is the law's where the arguments, and the package variables that the reading takes, are together of bulk at most 1048576: NARROWER than '..Said'. Prove '..Said' where nothing that the law and all that it calls make is longer than what came in: it says more and counts as full. Else prove '..UptoSaid'. A law counts once. -/
mutual
def uptoBulk {H : Type} : DataW H → Nat
  | .lit (.string bytes) => bytes.length + 1
  | .lit _ => 1
  | .nil => 1
  | .ptr d => uptoBulk d + 1
  | .slice elems spare => uptoBulkAll elems + uptoBulkAll spare + 1
  | .agg parts => uptoBulkAll parts + 1
  | .iface _ d => uptoBulk d + 1
  | .map entries => uptoBulkEntries entries + 1
  | .held _ => 1
def uptoBulkAll {H : Type} : List (DataW H) → Nat
  | [] => 0
  | d :: r => uptoBulk d + uptoBulkAll r
def uptoBulkEntries {H : Type} : List (Lit × DataW H) → Nat
  | [] => 0
  | x :: r => uptoBulkEntry x + uptoBulkEntries r
def uptoBulkEntry {H : Type} : Lit × DataW H → Nat
  | (.string bytes, d) => bytes.length + uptoBulk d + 1
  | (_, d) => uptoBulk d + 1
 end
def uptoSmall : (H : Type) → List (DataW H) → Bool := fun _ ds => decide (uptoBulkAll ds ≤ 1048576)
def OpenSpec.upto (s : _root_.Go.ChangeSpec) : _root_.Go.OpenSpec := { _root_.Go.OpenSpec.ofChange s with cond := some uptoSmall }

/-- 'recastlaw11.UnifyBack', WHERE WHAT IT READS IS OF BULK AT MOST 1048576: true; the input reads as it did. -/
def unifyBackUptoRow : OpenClaim := { program := "ytanhdklaponekaa", sum := "6d2ef5e49bfa965dfbd365a6ba20e837851028f7e1a6a237c845a2153a818067", func := "recast/recastlaw11.UnifyBack", spec := "unifyBack", unfollowed := true, recurses := true, loops := true, apart := false, narrowed := true }
def UnifyBackUptoSaid : Prop := unifyBackUptoRow.holds Try.pinned (OpenSpec.upto unifyBackSpec)

/-- 'recastlaw8.TypesMake', WHERE WHAT IT READS IS OF BULK AT MOST 1048576: true; the input reads as it did. -/
def typesMakeUptoRow : OpenClaim := { program := "ytanhdklaponekaa", sum := "6d2ef5e49bfa965dfbd365a6ba20e837851028f7e1a6a237c845a2153a818067", func := "recast/recastlaw8.TypesMake", spec := "typesMake", inPlace := ["internal/abi.NoEscape", "internal/bytealg.MakeNoZero"], unfollowed := true, recurses := true, loops := true, apart := false, narrowed := true }
def TypesMakeUptoSaid : Prop := typesMakeUptoRow.holds Try.pinned (OpenSpec.upto typesMakeSpec)

/-- 'recastlaw8.TypesLaws', WHERE WHAT IT READS IS OF BULK AT MOST 1048576: true; the input reads as it did. -/
def typesLawsUptoRow : OpenClaim := { program := "ytanhdklaponekaa", sum := "6d2ef5e49bfa965dfbd365a6ba20e837851028f7e1a6a237c845a2153a818067", func := "recast/recastlaw8.TypesLaws", spec := "typesLaws", inPlace := ["internal/abi.NoEscape", "internal/bytealg.MakeNoZero"], unfollowed := true, recurses := true, loops := true, apart := false, narrowed := true }
def TypesLawsUptoSaid : Prop := typesLawsUptoRow.holds Try.pinned (OpenSpec.upto typesLawsSpec)

/-- 'recastlaw8.TypesNothing', WHERE WHAT IT READS IS OF BULK AT MOST 1048576: true; the input reads as it did. -/
def typesNothingUptoRow : OpenClaim := { program := "ytanhdklaponekaa", sum := "6d2ef5e49bfa965dfbd365a6ba20e837851028f7e1a6a237c845a2153a818067", func := "recast/recastlaw8.TypesNothing", spec := "typesNothing", inPlace := ["internal/abi.NoEscape", "internal/bytealg.MakeNoZero"], unfollowed := true, recurses := true, loops := true, apart := false, narrowed := true }
def TypesNothingUptoSaid : Prop := typesNothingUptoRow.holds Try.pinned (OpenSpec.upto typesNothingSpec)

/-- 'recastlaw9.MethodsDeep', WHERE WHAT IT READS IS OF BULK AT MOST 1048576: true; the input reads as it did. -/
def methodsDeepUptoRow : OpenClaim := { program := "ytanhdklaponekaa", sum := "6d2ef5e49bfa965dfbd365a6ba20e837851028f7e1a6a237c845a2153a818067", func := "recast/recastlaw9.MethodsDeep", spec := "methodsDeep", unfollowed := true, recurses := true, apart := false, narrowed := true }
def MethodsDeepUptoSaid : Prop := methodsDeepUptoRow.holds Try.pinned (OpenSpec.upto methodsDeepSpec)

end Rows
end Go.Proofs.Ytanhdklaponekaa
