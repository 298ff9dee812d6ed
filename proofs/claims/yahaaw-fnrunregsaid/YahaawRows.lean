/-
  No cell of these rows narrows 'for every input' (looked for: loops, veiled, ifaces, maps, wideKeys, modest, calm, conditions, laid).
  DERIVED. THE GIVEN ROWS OF THIS SEAT. 12 by the template 'for every input the law returns true; each argument reads behind the call as it read before'; 0 by the template 'total and deterministic' (their statements: YahaawTotals.lean).
  GIVEN WITH THE SEED: the statements are not yours to turn. If you find one false, say at which input.
  Laid BY PROGRAM, IN A SANDBOX (cutbox-rows.mjs): the forced cells as the released guide's own fill.sh prints them over the translation 44697911b57f8550… (all of the seat's roots in one cut). By AI agents, Wed Nov 11 2026. No macro, syntax, notation, axiom, sorry.
-/
import Derived.Test.YahaawChecked
import GoSem.Claim
import GoSem.ClaimJoined
import GoSem.ClaimMapViews
import Derived.JoinedTies
import Derived.KernelRfl
namespace Go.Proofs.Yahaaw
/- THE CELL 'sum', in the pinned program and in every row, IS THE sha256 OF THE DUMP (.gsa) THAT YahaawProg.lean LOADS. Nothing in Lean hashes anything: it is a label: what it is worth is what the hold of that sum in a sandbox is worth. -/
noncomputable def Yaav.pinned : Pinned := { name := "yahaaw", sum := "44697911b57f85505ebae8af1469b7881b6d5d28d429b99db85d9e63f1a400f2", checked := Yaav.checked }
namespace Rows
def none {H : Type} : Left H := { results := [], args := [] }

/-- 'laws.FnTop': WHATEVER THE INPUT: true; the input reads as it did. -/
def fnTopSpec : ChangeSpec := { name := "fnTop", fn := fun _ => fun
  | [d] => { results := [.lit (.bool true)], args := [d] }
  | _ => none }
def fnTopRow : OpenClaim := { program := "yahaaw", sum := "44697911b57f85505ebae8af1469b7881b6d5d28d429b99db85d9e63f1a400f2", func := "loop.example/b08/laws.FnTop", spec := "fnTop", recurses := true, apart := false }
def FnTopSaid : Prop := fnTopRow.holds Yaav.pinned (OpenSpec.ofChange fnTopSpec)

/-- ITS FALSE NEIGHBOUR: 'it returns false'. Refute it at one input. -/
def fnTopWrong : ChangeSpec := { name := "fnTop", fn := fun _ => fun
  | [d] => { results := [.lit (.bool false)], args := [d] }
  | _ => none }
def FnTopWrongFalsely : Prop := fnTopRow.holds Yaav.pinned (OpenSpec.ofChange fnTopWrong)

/-- 'laws.FnExactConstants': WHATEVER THE INPUT: true; the input reads as it did. -/
def fnExactConstantsSpec : ChangeSpec := { name := "fnExactConstants", fn := fun _ => fun
  | [] => { results := [.lit (.bool true)], args := [] }
  | _ => none }
def fnExactConstantsRow : OpenClaim := { program := "yahaaw", sum := "44697911b57f85505ebae8af1469b7881b6d5d28d429b99db85d9e63f1a400f2", func := "loop.example/b08/laws.FnExactConstants", spec := "fnExactConstants", apart := false }
def FnExactConstantsSaid : Prop := fnExactConstantsRow.holds Yaav.pinned (OpenSpec.ofChange fnExactConstantsSpec)

/-- ITS FALSE NEIGHBOUR: 'it returns false'. Refute it at one input. -/
def fnExactConstantsWrong : ChangeSpec := { name := "fnExactConstants", fn := fun _ => fun
  | [] => { results := [.lit (.bool false)], args := [] }
  | _ => none }
def FnExactConstantsWrongFalsely : Prop := fnExactConstantsRow.holds Yaav.pinned (OpenSpec.ofChange fnExactConstantsWrong)

/-- 'laws.FnExactMaxDepth': WHATEVER THE INPUT: true; the input reads as it did. -/
def fnExactMaxDepthSpec : ChangeSpec := { name := "fnExactMaxDepth", fn := fun _ => fun
  | [d] => { results := [.lit (.bool true)], args := [d] }
  | _ => none }
def fnExactMaxDepthRow : OpenClaim := { program := "yahaaw", sum := "44697911b57f85505ebae8af1469b7881b6d5d28d429b99db85d9e63f1a400f2", func := "loop.example/b08/laws.FnExactMaxDepth", spec := "fnExactMaxDepth", apart := false }
def FnExactMaxDepthSaid : Prop := fnExactMaxDepthRow.holds Yaav.pinned (OpenSpec.ofChange fnExactMaxDepthSpec)

/-- ITS FALSE NEIGHBOUR: 'it returns false'. Refute it at one input. -/
def fnExactMaxDepthWrong : ChangeSpec := { name := "fnExactMaxDepth", fn := fun _ => fun
  | [d] => { results := [.lit (.bool false)], args := [d] }
  | _ => none }
def FnExactMaxDepthWrongFalsely : Prop := fnExactMaxDepthRow.holds Yaav.pinned (OpenSpec.ofChange fnExactMaxDepthWrong)

/-- 'laws.FnExactTranslate': WHATEVER THE INPUT: true; the input reads as it did. -/
def fnExactTranslateSpec : ChangeSpec := { name := "fnExactTranslate", fn := fun _ => fun
  | [d] => { results := [.lit (.bool true)], args := [d] }
  | _ => none }
def fnExactTranslateRow : OpenClaim := { program := "yahaaw", sum := "44697911b57f85505ebae8af1469b7881b6d5d28d429b99db85d9e63f1a400f2", func := "loop.example/b08/laws.FnExactTranslate", spec := "fnExactTranslate", apart := false }
def FnExactTranslateSaid : Prop := fnExactTranslateRow.holds Yaav.pinned (OpenSpec.ofChange fnExactTranslateSpec)

/-- ITS FALSE NEIGHBOUR: 'it returns false'. Refute it at one input. -/
def fnExactTranslateWrong : ChangeSpec := { name := "fnExactTranslate", fn := fun _ => fun
  | [d] => { results := [.lit (.bool false)], args := [d] }
  | _ => none }
def FnExactTranslateWrongFalsely : Prop := fnExactTranslateRow.holds Yaav.pinned (OpenSpec.ofChange fnExactTranslateWrong)

/-- 'laws.FnExactRunStack': WHATEVER THE INPUT: true; the input reads as it did. -/
def fnExactRunStackSpec : ChangeSpec := { name := "fnExactRunStack", fn := fun _ => fun
  | [d1, d2] => { results := [.lit (.bool true)], args := [d1, d2] }
  | _ => none }
def fnExactRunStackRow : OpenClaim := { program := "yahaaw", sum := "44697911b57f85505ebae8af1469b7881b6d5d28d429b99db85d9e63f1a400f2", func := "loop.example/b08/laws.FnExactRunStack", spec := "fnExactRunStack", apart := false }
def FnExactRunStackSaid : Prop := fnExactRunStackRow.holds Yaav.pinned (OpenSpec.ofChange fnExactRunStackSpec)

/-- ITS FALSE NEIGHBOUR: 'it returns false'. Refute it at one input. -/
def fnExactRunStackWrong : ChangeSpec := { name := "fnExactRunStack", fn := fun _ => fun
  | [d1, d2] => { results := [.lit (.bool false)], args := [d1, d2] }
  | _ => none }
def FnExactRunStackWrongFalsely : Prop := fnExactRunStackRow.holds Yaav.pinned (OpenSpec.ofChange fnExactRunStackWrong)

/-- 'laws.FnExactRunReg': WHATEVER THE INPUT: true; the input reads as it did. -/
def fnExactRunRegSpec : ChangeSpec := { name := "fnExactRunReg", fn := fun _ => fun
  | [d1, d2, d3] => { results := [.lit (.bool true)], args := [d1, d2, d3] }
  | _ => none }
def fnExactRunRegRow : OpenClaim := { program := "yahaaw", sum := "44697911b57f85505ebae8af1469b7881b6d5d28d429b99db85d9e63f1a400f2", func := "loop.example/b08/laws.FnExactRunReg", spec := "fnExactRunReg", apart := false }
def FnExactRunRegSaid : Prop := fnExactRunRegRow.holds Yaav.pinned (OpenSpec.ofChange fnExactRunRegSpec)

/-- ITS FALSE NEIGHBOUR: 'it returns false'. Refute it at one input. -/
def fnExactRunRegWrong : ChangeSpec := { name := "fnExactRunReg", fn := fun _ => fun
  | [d1, d2, d3] => { results := [.lit (.bool false)], args := [d1, d2, d3] }
  | _ => none }
def FnExactRunRegWrongFalsely : Prop := fnExactRunRegRow.holds Yaav.pinned (OpenSpec.ofChange fnExactRunRegWrong)

/-- 'laws.FnExactListing': WHATEVER THE INPUT: true; the input reads as it did. -/
def fnExactListingSpec : ChangeSpec := { name := "fnExactListing", fn := fun _ => fun
  | [d] => { results := [.lit (.bool true)], args := [d] }
  | _ => none }
def fnExactListingRow : OpenClaim := { program := "yahaaw", sum := "44697911b57f85505ebae8af1469b7881b6d5d28d429b99db85d9e63f1a400f2", func := "loop.example/b08/laws.FnExactListing", spec := "fnExactListing", apart := false }
def FnExactListingSaid : Prop := fnExactListingRow.holds Yaav.pinned (OpenSpec.ofChange fnExactListingSpec)

/-- ITS FALSE NEIGHBOUR: 'it returns false'. Refute it at one input. -/
def fnExactListingWrong : ChangeSpec := { name := "fnExactListing", fn := fun _ => fun
  | [d] => { results := [.lit (.bool false)], args := [d] }
  | _ => none }
def FnExactListingWrongFalsely : Prop := fnExactListingRow.holds Yaav.pinned (OpenSpec.ofChange fnExactListingWrong)

/-- 'laws.FnMaxDepth': WHATEVER THE INPUT: true; the input reads as it did. -/
def fnMaxDepthSpec : ChangeSpec := { name := "fnMaxDepth", fn := fun _ => fun
  | [d] => { results := [.lit (.bool true)], args := [d] }
  | _ => none }
def fnMaxDepthRow : OpenClaim := { program := "yahaaw", sum := "44697911b57f85505ebae8af1469b7881b6d5d28d429b99db85d9e63f1a400f2", func := "loop.example/b08/laws.FnMaxDepth", spec := "fnMaxDepth", recurses := true, apart := false }
def FnMaxDepthSaid : Prop := fnMaxDepthRow.holds Yaav.pinned (OpenSpec.ofChange fnMaxDepthSpec)

/-- ITS FALSE NEIGHBOUR: 'it returns false'. Refute it at one input. -/
def fnMaxDepthWrong : ChangeSpec := { name := "fnMaxDepth", fn := fun _ => fun
  | [d] => { results := [.lit (.bool false)], args := [d] }
  | _ => none }
def FnMaxDepthWrongFalsely : Prop := fnMaxDepthRow.holds Yaav.pinned (OpenSpec.ofChange fnMaxDepthWrong)

/-- 'laws.FnTranslateExact': WHATEVER THE INPUT: true; the input reads as it did. -/
def fnTranslateExactSpec : ChangeSpec := { name := "fnTranslateExact", fn := fun _ => fun
  | [d] => { results := [.lit (.bool true)], args := [d] }
  | _ => none }
def fnTranslateExactRow : OpenClaim := { program := "yahaaw", sum := "44697911b57f85505ebae8af1469b7881b6d5d28d429b99db85d9e63f1a400f2", func := "loop.example/b08/laws.FnTranslateExact", spec := "fnTranslateExact", recurses := true, apart := false }
def FnTranslateExactSaid : Prop := fnTranslateExactRow.holds Yaav.pinned (OpenSpec.ofChange fnTranslateExactSpec)

/-- ITS FALSE NEIGHBOUR: 'it returns false'. Refute it at one input. -/
def fnTranslateExactWrong : ChangeSpec := { name := "fnTranslateExact", fn := fun _ => fun
  | [d] => { results := [.lit (.bool false)], args := [d] }
  | _ => none }
def FnTranslateExactWrongFalsely : Prop := fnTranslateExactRow.holds Yaav.pinned (OpenSpec.ofChange fnTranslateExactWrong)

/-- 'laws.FnRunStack': WHATEVER THE INPUT: true; the input reads as it did. -/
def fnRunStackSpec : ChangeSpec := { name := "fnRunStack", fn := fun _ => fun
  | [d] => { results := [.lit (.bool true)], args := [d] }
  | _ => none }
def fnRunStackRow : OpenClaim := { program := "yahaaw", sum := "44697911b57f85505ebae8af1469b7881b6d5d28d429b99db85d9e63f1a400f2", func := "loop.example/b08/laws.FnRunStack", spec := "fnRunStack", recurses := true, apart := false }
def FnRunStackSaid : Prop := fnRunStackRow.holds Yaav.pinned (OpenSpec.ofChange fnRunStackSpec)

/-- ITS FALSE NEIGHBOUR: 'it returns false'. Refute it at one input. -/
def fnRunStackWrong : ChangeSpec := { name := "fnRunStack", fn := fun _ => fun
  | [d] => { results := [.lit (.bool false)], args := [d] }
  | _ => none }
def FnRunStackWrongFalsely : Prop := fnRunStackRow.holds Yaav.pinned (OpenSpec.ofChange fnRunStackWrong)

/-- 'laws.FnRunReg': WHATEVER THE INPUT: true; the input reads as it did. -/
def fnRunRegSpec : ChangeSpec := { name := "fnRunReg", fn := fun _ => fun
  | [d] => { results := [.lit (.bool true)], args := [d] }
  | _ => none }
def fnRunRegRow : OpenClaim := { program := "yahaaw", sum := "44697911b57f85505ebae8af1469b7881b6d5d28d429b99db85d9e63f1a400f2", func := "loop.example/b08/laws.FnRunReg", spec := "fnRunReg", recurses := true, apart := false }
def FnRunRegSaid : Prop := fnRunRegRow.holds Yaav.pinned (OpenSpec.ofChange fnRunRegSpec)

/-- ITS FALSE NEIGHBOUR: 'it returns false'. Refute it at one input. -/
def fnRunRegWrong : ChangeSpec := { name := "fnRunReg", fn := fun _ => fun
  | [d] => { results := [.lit (.bool false)], args := [d] }
  | _ => none }
def FnRunRegWrongFalsely : Prop := fnRunRegRow.holds Yaav.pinned (OpenSpec.ofChange fnRunRegWrong)

/-- 'laws.FnListing': WHATEVER THE INPUT: true; the input reads as it did. -/
def fnListingSpec : ChangeSpec := { name := "fnListing", fn := fun _ => fun
  | [d] => { results := [.lit (.bool true)], args := [d] }
  | _ => none }
def fnListingRow : OpenClaim := { program := "yahaaw", sum := "44697911b57f85505ebae8af1469b7881b6d5d28d429b99db85d9e63f1a400f2", func := "loop.example/b08/laws.FnListing", spec := "fnListing", recurses := true, apart := false }
def FnListingSaid : Prop := fnListingRow.holds Yaav.pinned (OpenSpec.ofChange fnListingSpec)

/-- ITS FALSE NEIGHBOUR: 'it returns false'. Refute it at one input. -/
def fnListingWrong : ChangeSpec := { name := "fnListing", fn := fun _ => fun
  | [d] => { results := [.lit (.bool false)], args := [d] }
  | _ => none }
def FnListingWrongFalsely : Prop := fnListingRow.holds Yaav.pinned (OpenSpec.ofChange fnListingWrong)

end Rows
end Go.Proofs.Yahaaw
