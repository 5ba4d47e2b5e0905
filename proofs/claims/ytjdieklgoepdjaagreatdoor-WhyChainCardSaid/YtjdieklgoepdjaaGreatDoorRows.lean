/-
  NARROWER THAN 'FOR EVERY INPUT', by the rows' own cells (each row's printed sentence says how): WhyPaths: laid · WhyCores: laid · WhyWays: laid · WhyTurned: laid · WhyChain: laid · SolveGreatest: laid · SolveFits: laid · SolveNone: laid · SolveChain: laid · SolveBudget: laid · SolveTurned: laid · SolveRing: laid · SolveFirst: laid · SolveBetter: laid.
  DERIVED. THE GIVEN ROWS OF THIS SEAT. 14 by the template 'for every input the law returns true; each argument reads behind the call as it read before'; 0 by the template 'total and deterministic' (their statements: YtjdieklgoepdjaaGreatDoorTotals.lean).
  GIVEN WITH THE SEED: the statements are not yours to turn. If you find one false, say at which input.
  Laid BY PROGRAM, IN A SANDBOX (cutbox-rows.mjs): the forced cells as the released guide's own fill.sh prints them over the translation 852a60b979c2cec9… (all of the seat's roots in one cut). By AI agents, Wed Nov 11 2026. No macro, syntax, notation, axiom, sorry.
-/
import Derived.Test.YtjdieklgoepdjaaGreatDoorChecked
import GoSem.Claim
import GoSem.ClaimJoined
import GoSem.ClaimMapViews
import Derived.JoinedTies
import Derived.KernelRfl
namespace Go.Proofs.YtjdieklgoepdjaaGreatDoor
/- THE CELL 'sum', in the pinned program and in every row, IS THE sha256 OF THE DUMP (.gsa) THAT YtjdieklgoepdjaaGreatDoorProg.lean LOADS. Nothing in Lean hashes anything: it is a label: what it is worth is what the hold of that sum in a sandbox is worth. -/
noncomputable def Tryz.pinned : Pinned := { name := "ytjdieklgoepdjaagreatdoor", sum := "852a60b979c2cec97b3d7f6445ecb0dea74c2dc85bf5e54d149f27f792fc4c73", checked := Tryz.checked }
namespace Rows
def none {H : Type} : Left H := { results := [], args := [] }

/- WHAT THE LISTED PACKAGE-LEVEL VARIABLES READ AS WHEN THE CALL BEGINS. Each datum BY PROGRAM (the guide's laid-datum.mjs) off the statement by which the dump's own 'gosem.cut.vars' lays the variable. In a bare row this is a premise. The card (YtjdieklgoepdjaaGreatDoorCards.lean) ties it to the program's text. -/
def laid_errors_errorType {H : Type} : DataW H := .iface "internal/reflectlite.rtype" (.agg [.ptr (.lit (.string [101, 114, 114, 111, 114]))])
def laid_math_bits_deBruijn32tab {H : Type} : DataW H := .agg [.lit (.int .u8 0), .lit (.int .u8 1), .lit (.int .u8 28), .lit (.int .u8 2), .lit (.int .u8 29), .lit (.int .u8 14), .lit (.int .u8 24), .lit (.int .u8 3), .lit (.int .u8 30), .lit (.int .u8 22), .lit (.int .u8 20), .lit (.int .u8 15), .lit (.int .u8 25), .lit (.int .u8 17), .lit (.int .u8 4), .lit (.int .u8 8), .lit (.int .u8 31), .lit (.int .u8 27), .lit (.int .u8 13), .lit (.int .u8 23), .lit (.int .u8 21), .lit (.int .u8 19), .lit (.int .u8 16), .lit (.int .u8 7), .lit (.int .u8 26), .lit (.int .u8 12), .lit (.int .u8 18), .lit (.int .u8 6), .lit (.int .u8 11), .lit (.int .u8 5), .lit (.int .u8 10), .lit (.int .u8 9)]
def laid_math_bits_deBruijn64tab {H : Type} : DataW H := .agg [.lit (.int .u8 0), .lit (.int .u8 1), .lit (.int .u8 56), .lit (.int .u8 2), .lit (.int .u8 57), .lit (.int .u8 49), .lit (.int .u8 28), .lit (.int .u8 3), .lit (.int .u8 61), .lit (.int .u8 58), .lit (.int .u8 42), .lit (.int .u8 50), .lit (.int .u8 38), .lit (.int .u8 29), .lit (.int .u8 17), .lit (.int .u8 4), .lit (.int .u8 62), .lit (.int .u8 47), .lit (.int .u8 59), .lit (.int .u8 36), .lit (.int .u8 45), .lit (.int .u8 43), .lit (.int .u8 51), .lit (.int .u8 22), .lit (.int .u8 53), .lit (.int .u8 39), .lit (.int .u8 33), .lit (.int .u8 30), .lit (.int .u8 24), .lit (.int .u8 18), .lit (.int .u8 12), .lit (.int .u8 5), .lit (.int .u8 63), .lit (.int .u8 55), .lit (.int .u8 48), .lit (.int .u8 27), .lit (.int .u8 60), .lit (.int .u8 41), .lit (.int .u8 37), .lit (.int .u8 16), .lit (.int .u8 46), .lit (.int .u8 35), .lit (.int .u8 44), .lit (.int .u8 21), .lit (.int .u8 52), .lit (.int .u8 32), .lit (.int .u8 23), .lit (.int .u8 11), .lit (.int .u8 54), .lit (.int .u8 26), .lit (.int .u8 40), .lit (.int .u8 15), .lit (.int .u8 34), .lit (.int .u8 20), .lit (.int .u8 31), .lit (.int .u8 10), .lit (.int .u8 25), .lit (.int .u8 14), .lit (.int .u8 19), .lit (.int .u8 9), .lit (.int .u8 13), .lit (.int .u8 8), .lit (.int .u8 7), .lit (.int .u8 6)]
def laid_internal_strconv_uint64pow10 {H : Type} : DataW H := .agg [.lit (.int .u64 1), .lit (.int .u64 10), .lit (.int .u64 100), .lit (.int .u64 1000), .lit (.int .u64 10000), .lit (.int .u64 100000), .lit (.int .u64 1000000), .lit (.int .u64 10000000), .lit (.int .u64 100000000), .lit (.int .u64 1000000000), .lit (.int .u64 10000000000), .lit (.int .u64 100000000000), .lit (.int .u64 1000000000000), .lit (.int .u64 10000000000000), .lit (.int .u64 100000000000000), .lit (.int .u64 1000000000000000), .lit (.int .u64 10000000000000000), .lit (.int .u64 100000000000000000), .lit (.int .u64 1000000000000000000), .lit (.int .u64 10000000000000000000)]

/-- 'haversacklaw16.WhyPaths': WHATEVER THE INPUT: true; the input reads as it did. -/
def whyPathsSpec : ChangeSpec := { name := "whyPaths", fn := fun _ => fun
  | [d1, d2, d3] => { results := [.lit (.bool true)], args := [d1, d2, d3] }
  | _ => none }
def whyPathsRow : OpenClaim := { program := "ytjdieklgoepdjaagreatdoor", sum := "852a60b979c2cec97b3d7f6445ecb0dea74c2dc85bf5e54d149f27f792fc4c73", func := "haversack/haversacklaw16.WhyPaths", spec := "whyPaths", inPlace := ["internal/reflectlite.ValueOf", "(internal/reflectlite.Value).Type", "(internal/reflectlite.Value).IsNil", "internal/reflectlite.TypeOf", "(internal/reflectlite.Value).Elem", "(internal/reflectlite.Value).Set", "maps.clone"], unfollowed := true, recurses := true, named := ["errors.errorType"], apart := false, laid := [("errors.errorType", laid_errors_errorType)] }
def WhyPathsSaid : Prop := whyPathsRow.holds Tryz.pinned (OpenSpec.ofChange whyPathsSpec)

/-- ITS FALSE NEIGHBOUR: 'it returns false'. Refute it at one input. -/
def whyPathsWrong : ChangeSpec := { name := "whyPaths", fn := fun _ => fun
  | [d1, d2, d3] => { results := [.lit (.bool false)], args := [d1, d2, d3] }
  | _ => none }
def WhyPathsWrongFalsely : Prop := whyPathsRow.holds Tryz.pinned (OpenSpec.ofChange whyPathsWrong)

/-- 'haversacklaw16.WhyCores': WHATEVER THE INPUT: true; the input reads as it did. -/
def whyCoresSpec : ChangeSpec := { name := "whyCores", fn := fun _ => fun
  | [d1, d2] => { results := [.lit (.bool true)], args := [d1, d2] }
  | _ => none }
def whyCoresRow : OpenClaim := { program := "ytjdieklgoepdjaagreatdoor", sum := "852a60b979c2cec97b3d7f6445ecb0dea74c2dc85bf5e54d149f27f792fc4c73", func := "haversack/haversacklaw16.WhyCores", spec := "whyCores", inPlace := ["internal/reflectlite.ValueOf", "(internal/reflectlite.Value).Type", "(internal/reflectlite.Value).IsNil", "internal/reflectlite.TypeOf", "(internal/reflectlite.Value).Elem", "(internal/reflectlite.Value).Set", "maps.clone"], unfollowed := true, recurses := true, named := ["errors.errorType"], apart := false, laid := [("errors.errorType", laid_errors_errorType)] }
def WhyCoresSaid : Prop := whyCoresRow.holds Tryz.pinned (OpenSpec.ofChange whyCoresSpec)

/-- ITS FALSE NEIGHBOUR: 'it returns false'. Refute it at one input. -/
def whyCoresWrong : ChangeSpec := { name := "whyCores", fn := fun _ => fun
  | [d1, d2] => { results := [.lit (.bool false)], args := [d1, d2] }
  | _ => none }
def WhyCoresWrongFalsely : Prop := whyCoresRow.holds Tryz.pinned (OpenSpec.ofChange whyCoresWrong)

/-- 'haversacklaw16.WhyWays': WHATEVER THE INPUT: true; the input reads as it did. -/
def whyWaysSpec : ChangeSpec := { name := "whyWays", fn := fun _ => fun
  | [d1, d2] => { results := [.lit (.bool true)], args := [d1, d2] }
  | _ => none }
def whyWaysRow : OpenClaim := { program := "ytjdieklgoepdjaagreatdoor", sum := "852a60b979c2cec97b3d7f6445ecb0dea74c2dc85bf5e54d149f27f792fc4c73", func := "haversack/haversacklaw16.WhyWays", spec := "whyWays", inPlace := ["internal/reflectlite.ValueOf", "(internal/reflectlite.Value).Type", "(internal/reflectlite.Value).IsNil", "internal/reflectlite.TypeOf", "(internal/reflectlite.Value).Elem", "(internal/reflectlite.Value).Set", "maps.clone"], unfollowed := true, recurses := true, named := ["errors.errorType"], apart := false, laid := [("errors.errorType", laid_errors_errorType)] }
def WhyWaysSaid : Prop := whyWaysRow.holds Tryz.pinned (OpenSpec.ofChange whyWaysSpec)

/-- ITS FALSE NEIGHBOUR: 'it returns false'. Refute it at one input. -/
def whyWaysWrong : ChangeSpec := { name := "whyWays", fn := fun _ => fun
  | [d1, d2] => { results := [.lit (.bool false)], args := [d1, d2] }
  | _ => none }
def WhyWaysWrongFalsely : Prop := whyWaysRow.holds Tryz.pinned (OpenSpec.ofChange whyWaysWrong)

/-- 'haversacklaw16.WhyTurned': WHATEVER THE INPUT: true; the input reads as it did. -/
def whyTurnedSpec : ChangeSpec := { name := "whyTurned", fn := fun _ => fun
  | [d1, d2, d3] => { results := [.lit (.bool true)], args := [d1, d2, d3] }
  | _ => none }
def whyTurnedRow : OpenClaim := { program := "ytjdieklgoepdjaagreatdoor", sum := "852a60b979c2cec97b3d7f6445ecb0dea74c2dc85bf5e54d149f27f792fc4c73", func := "haversack/haversacklaw16.WhyTurned", spec := "whyTurned", inPlace := ["internal/reflectlite.ValueOf", "(internal/reflectlite.Value).Type", "(internal/reflectlite.Value).IsNil", "internal/reflectlite.TypeOf", "(internal/reflectlite.Value).Elem", "(internal/reflectlite.Value).Set", "maps.clone"], unfollowed := true, recurses := true, named := ["errors.errorType"], apart := false, laid := [("errors.errorType", laid_errors_errorType)] }
def WhyTurnedSaid : Prop := whyTurnedRow.holds Tryz.pinned (OpenSpec.ofChange whyTurnedSpec)

/-- ITS FALSE NEIGHBOUR: 'it returns false'. Refute it at one input. -/
def whyTurnedWrong : ChangeSpec := { name := "whyTurned", fn := fun _ => fun
  | [d1, d2, d3] => { results := [.lit (.bool false)], args := [d1, d2, d3] }
  | _ => none }
def WhyTurnedWrongFalsely : Prop := whyTurnedRow.holds Tryz.pinned (OpenSpec.ofChange whyTurnedWrong)

/-- 'haversacklaw16.WhyChain': WHATEVER THE INPUT: true; the input reads as it did. -/
def whyChainSpec : ChangeSpec := { name := "whyChain", fn := fun _ => fun
  | [d1, d2] => { results := [.lit (.bool true)], args := [d1, d2] }
  | _ => none }
def whyChainRow : OpenClaim := { program := "ytjdieklgoepdjaagreatdoor", sum := "852a60b979c2cec97b3d7f6445ecb0dea74c2dc85bf5e54d149f27f792fc4c73", func := "haversack/haversacklaw16.WhyChain", spec := "whyChain", inPlace := ["internal/reflectlite.ValueOf", "(internal/reflectlite.Value).Type", "(internal/reflectlite.Value).IsNil", "internal/reflectlite.TypeOf", "(internal/reflectlite.Value).Elem", "(internal/reflectlite.Value).Set", "maps.clone"], unfollowed := true, recurses := true, named := ["errors.errorType"], apart := false, laid := [("errors.errorType", laid_errors_errorType)] }
def WhyChainSaid : Prop := whyChainRow.holds Tryz.pinned (OpenSpec.ofChange whyChainSpec)

/-- ITS FALSE NEIGHBOUR: 'it returns false'. Refute it at one input. -/
def whyChainWrong : ChangeSpec := { name := "whyChain", fn := fun _ => fun
  | [d1, d2] => { results := [.lit (.bool false)], args := [d1, d2] }
  | _ => none }
def WhyChainWrongFalsely : Prop := whyChainRow.holds Tryz.pinned (OpenSpec.ofChange whyChainWrong)

/-- 'haversacklaw15.SolveGreatest': WHATEVER THE INPUT: true; the input reads as it did. -/
def solveGreatestSpec : ChangeSpec := { name := "solveGreatest", fn := fun _ => fun
  | [d1, d2] => { results := [.lit (.bool true)], args := [d1, d2] }
  | _ => none }
def solveGreatestRow : OpenClaim := { program := "ytjdieklgoepdjaagreatdoor", sum := "852a60b979c2cec97b3d7f6445ecb0dea74c2dc85bf5e54d149f27f792fc4c73", func := "haversack/haversacklaw15.SolveGreatest", spec := "solveGreatest", inPlace := ["internal/reflectlite.ValueOf", "(internal/reflectlite.Value).Type", "(internal/reflectlite.Value).IsNil", "internal/reflectlite.TypeOf", "(internal/reflectlite.Value).Elem", "(internal/reflectlite.Value).Set", "maps.clone", "internal/abi.NoEscape", "internal/bytealg.MakeNoZero"], unfollowed := true, recurses := true, named := ["errors.errorType", "internal/strconv.uint64pow10", "math/bits.deBruijn32tab", "math/bits.deBruijn64tab"], apart := false, laid := [("math/bits.deBruijn32tab", laid_math_bits_deBruijn32tab), ("math/bits.deBruijn64tab", laid_math_bits_deBruijn64tab), ("internal/strconv.uint64pow10", laid_internal_strconv_uint64pow10), ("errors.errorType", laid_errors_errorType)] }
def SolveGreatestSaid : Prop := solveGreatestRow.holds Tryz.pinned (OpenSpec.ofChange solveGreatestSpec)

/-- ITS FALSE NEIGHBOUR: 'it returns false'. Refute it at one input. -/
def solveGreatestWrong : ChangeSpec := { name := "solveGreatest", fn := fun _ => fun
  | [d1, d2] => { results := [.lit (.bool false)], args := [d1, d2] }
  | _ => none }
def SolveGreatestWrongFalsely : Prop := solveGreatestRow.holds Tryz.pinned (OpenSpec.ofChange solveGreatestWrong)

/-- 'haversacklaw15.SolveFits': WHATEVER THE INPUT: true; the input reads as it did. -/
def solveFitsSpec : ChangeSpec := { name := "solveFits", fn := fun _ => fun
  | [d1, d2, d3, d4] => { results := [.lit (.bool true)], args := [d1, d2, d3, d4] }
  | _ => none }
def solveFitsRow : OpenClaim := { program := "ytjdieklgoepdjaagreatdoor", sum := "852a60b979c2cec97b3d7f6445ecb0dea74c2dc85bf5e54d149f27f792fc4c73", func := "haversack/haversacklaw15.SolveFits", spec := "solveFits", inPlace := ["internal/reflectlite.ValueOf", "(internal/reflectlite.Value).Type", "(internal/reflectlite.Value).IsNil", "internal/reflectlite.TypeOf", "(internal/reflectlite.Value).Elem", "(internal/reflectlite.Value).Set", "maps.clone", "internal/abi.NoEscape", "internal/bytealg.MakeNoZero"], unfollowed := true, recurses := true, named := ["errors.errorType", "internal/strconv.uint64pow10", "math/bits.deBruijn32tab", "math/bits.deBruijn64tab"], apart := false, laid := [("math/bits.deBruijn32tab", laid_math_bits_deBruijn32tab), ("math/bits.deBruijn64tab", laid_math_bits_deBruijn64tab), ("internal/strconv.uint64pow10", laid_internal_strconv_uint64pow10), ("errors.errorType", laid_errors_errorType)] }
def SolveFitsSaid : Prop := solveFitsRow.holds Tryz.pinned (OpenSpec.ofChange solveFitsSpec)

/-- ITS FALSE NEIGHBOUR: 'it returns false'. Refute it at one input. -/
def solveFitsWrong : ChangeSpec := { name := "solveFits", fn := fun _ => fun
  | [d1, d2, d3, d4] => { results := [.lit (.bool false)], args := [d1, d2, d3, d4] }
  | _ => none }
def SolveFitsWrongFalsely : Prop := solveFitsRow.holds Tryz.pinned (OpenSpec.ofChange solveFitsWrong)

/-- 'haversacklaw15.SolveNone': WHATEVER THE INPUT: true; the input reads as it did. -/
def solveNoneSpec : ChangeSpec := { name := "solveNone", fn := fun _ => fun
  | [d1, d2, d3] => { results := [.lit (.bool true)], args := [d1, d2, d3] }
  | _ => none }
def solveNoneRow : OpenClaim := { program := "ytjdieklgoepdjaagreatdoor", sum := "852a60b979c2cec97b3d7f6445ecb0dea74c2dc85bf5e54d149f27f792fc4c73", func := "haversack/haversacklaw15.SolveNone", spec := "solveNone", inPlace := ["internal/reflectlite.ValueOf", "(internal/reflectlite.Value).Type", "(internal/reflectlite.Value).IsNil", "internal/reflectlite.TypeOf", "(internal/reflectlite.Value).Elem", "(internal/reflectlite.Value).Set", "maps.clone", "internal/abi.NoEscape", "internal/bytealg.MakeNoZero"], unfollowed := true, recurses := true, named := ["errors.errorType", "internal/strconv.uint64pow10", "math/bits.deBruijn32tab", "math/bits.deBruijn64tab"], apart := false, laid := [("math/bits.deBruijn32tab", laid_math_bits_deBruijn32tab), ("math/bits.deBruijn64tab", laid_math_bits_deBruijn64tab), ("internal/strconv.uint64pow10", laid_internal_strconv_uint64pow10), ("errors.errorType", laid_errors_errorType)] }
def SolveNoneSaid : Prop := solveNoneRow.holds Tryz.pinned (OpenSpec.ofChange solveNoneSpec)

/-- ITS FALSE NEIGHBOUR: 'it returns false'. Refute it at one input. -/
def solveNoneWrong : ChangeSpec := { name := "solveNone", fn := fun _ => fun
  | [d1, d2, d3] => { results := [.lit (.bool false)], args := [d1, d2, d3] }
  | _ => none }
def SolveNoneWrongFalsely : Prop := solveNoneRow.holds Tryz.pinned (OpenSpec.ofChange solveNoneWrong)

/-- 'haversacklaw15.SolveChain': WHATEVER THE INPUT: true; the input reads as it did. -/
def solveChainSpec : ChangeSpec := { name := "solveChain", fn := fun _ => fun
  | [d1, d2] => { results := [.lit (.bool true)], args := [d1, d2] }
  | _ => none }
def solveChainRow : OpenClaim := { program := "ytjdieklgoepdjaagreatdoor", sum := "852a60b979c2cec97b3d7f6445ecb0dea74c2dc85bf5e54d149f27f792fc4c73", func := "haversack/haversacklaw15.SolveChain", spec := "solveChain", inPlace := ["internal/reflectlite.ValueOf", "(internal/reflectlite.Value).Type", "(internal/reflectlite.Value).IsNil", "internal/reflectlite.TypeOf", "(internal/reflectlite.Value).Elem", "(internal/reflectlite.Value).Set", "maps.clone", "internal/abi.NoEscape", "internal/bytealg.MakeNoZero"], unfollowed := true, recurses := true, named := ["errors.errorType", "internal/strconv.uint64pow10", "math/bits.deBruijn32tab", "math/bits.deBruijn64tab"], apart := false, laid := [("math/bits.deBruijn32tab", laid_math_bits_deBruijn32tab), ("math/bits.deBruijn64tab", laid_math_bits_deBruijn64tab), ("internal/strconv.uint64pow10", laid_internal_strconv_uint64pow10), ("errors.errorType", laid_errors_errorType)] }
def SolveChainSaid : Prop := solveChainRow.holds Tryz.pinned (OpenSpec.ofChange solveChainSpec)

/-- ITS FALSE NEIGHBOUR: 'it returns false'. Refute it at one input. -/
def solveChainWrong : ChangeSpec := { name := "solveChain", fn := fun _ => fun
  | [d1, d2] => { results := [.lit (.bool false)], args := [d1, d2] }
  | _ => none }
def SolveChainWrongFalsely : Prop := solveChainRow.holds Tryz.pinned (OpenSpec.ofChange solveChainWrong)

/-- 'haversacklaw15.SolveBudget': WHATEVER THE INPUT: true; the input reads as it did. -/
def solveBudgetSpec : ChangeSpec := { name := "solveBudget", fn := fun _ => fun
  | [d1, d2, d3] => { results := [.lit (.bool true)], args := [d1, d2, d3] }
  | _ => none }
def solveBudgetRow : OpenClaim := { program := "ytjdieklgoepdjaagreatdoor", sum := "852a60b979c2cec97b3d7f6445ecb0dea74c2dc85bf5e54d149f27f792fc4c73", func := "haversack/haversacklaw15.SolveBudget", spec := "solveBudget", inPlace := ["internal/reflectlite.ValueOf", "(internal/reflectlite.Value).Type", "(internal/reflectlite.Value).IsNil", "internal/reflectlite.TypeOf", "(internal/reflectlite.Value).Elem", "(internal/reflectlite.Value).Set", "maps.clone", "internal/abi.NoEscape", "internal/bytealg.MakeNoZero"], unfollowed := true, recurses := true, named := ["errors.errorType", "internal/strconv.uint64pow10", "math/bits.deBruijn32tab", "math/bits.deBruijn64tab"], apart := false, laid := [("math/bits.deBruijn32tab", laid_math_bits_deBruijn32tab), ("math/bits.deBruijn64tab", laid_math_bits_deBruijn64tab), ("internal/strconv.uint64pow10", laid_internal_strconv_uint64pow10), ("errors.errorType", laid_errors_errorType)] }
def SolveBudgetSaid : Prop := solveBudgetRow.holds Tryz.pinned (OpenSpec.ofChange solveBudgetSpec)

/-- ITS FALSE NEIGHBOUR: 'it returns false'. Refute it at one input. -/
def solveBudgetWrong : ChangeSpec := { name := "solveBudget", fn := fun _ => fun
  | [d1, d2, d3] => { results := [.lit (.bool false)], args := [d1, d2, d3] }
  | _ => none }
def SolveBudgetWrongFalsely : Prop := solveBudgetRow.holds Tryz.pinned (OpenSpec.ofChange solveBudgetWrong)

/-- 'haversacklaw15.SolveTurned': WHATEVER THE INPUT: true; the input reads as it did. -/
def solveTurnedSpec : ChangeSpec := { name := "solveTurned", fn := fun _ => fun
  | [d1, d2, d3] => { results := [.lit (.bool true)], args := [d1, d2, d3] }
  | _ => none }
def solveTurnedRow : OpenClaim := { program := "ytjdieklgoepdjaagreatdoor", sum := "852a60b979c2cec97b3d7f6445ecb0dea74c2dc85bf5e54d149f27f792fc4c73", func := "haversack/haversacklaw15.SolveTurned", spec := "solveTurned", inPlace := ["internal/reflectlite.ValueOf", "(internal/reflectlite.Value).Type", "(internal/reflectlite.Value).IsNil", "internal/reflectlite.TypeOf", "(internal/reflectlite.Value).Elem", "(internal/reflectlite.Value).Set", "maps.clone", "internal/abi.NoEscape", "internal/bytealg.MakeNoZero"], unfollowed := true, recurses := true, named := ["errors.errorType", "internal/strconv.uint64pow10", "math/bits.deBruijn32tab", "math/bits.deBruijn64tab"], apart := false, laid := [("math/bits.deBruijn32tab", laid_math_bits_deBruijn32tab), ("math/bits.deBruijn64tab", laid_math_bits_deBruijn64tab), ("internal/strconv.uint64pow10", laid_internal_strconv_uint64pow10), ("errors.errorType", laid_errors_errorType)] }
def SolveTurnedSaid : Prop := solveTurnedRow.holds Tryz.pinned (OpenSpec.ofChange solveTurnedSpec)

/-- ITS FALSE NEIGHBOUR: 'it returns false'. Refute it at one input. -/
def solveTurnedWrong : ChangeSpec := { name := "solveTurned", fn := fun _ => fun
  | [d1, d2, d3] => { results := [.lit (.bool false)], args := [d1, d2, d3] }
  | _ => none }
def SolveTurnedWrongFalsely : Prop := solveTurnedRow.holds Tryz.pinned (OpenSpec.ofChange solveTurnedWrong)

/-- 'haversacklaw15.SolveRing': WHATEVER THE INPUT: true; the input reads as it did. -/
def solveRingSpec : ChangeSpec := { name := "solveRing", fn := fun _ => fun
  | [d1, d2] => { results := [.lit (.bool true)], args := [d1, d2] }
  | _ => none }
def solveRingRow : OpenClaim := { program := "ytjdieklgoepdjaagreatdoor", sum := "852a60b979c2cec97b3d7f6445ecb0dea74c2dc85bf5e54d149f27f792fc4c73", func := "haversack/haversacklaw15.SolveRing", spec := "solveRing", inPlace := ["internal/reflectlite.ValueOf", "(internal/reflectlite.Value).Type", "(internal/reflectlite.Value).IsNil", "internal/reflectlite.TypeOf", "(internal/reflectlite.Value).Elem", "(internal/reflectlite.Value).Set", "maps.clone", "internal/abi.NoEscape", "internal/bytealg.MakeNoZero"], unfollowed := true, recurses := true, named := ["errors.errorType", "internal/strconv.uint64pow10", "math/bits.deBruijn32tab", "math/bits.deBruijn64tab"], apart := false, laid := [("math/bits.deBruijn32tab", laid_math_bits_deBruijn32tab), ("math/bits.deBruijn64tab", laid_math_bits_deBruijn64tab), ("internal/strconv.uint64pow10", laid_internal_strconv_uint64pow10), ("errors.errorType", laid_errors_errorType)] }
def SolveRingSaid : Prop := solveRingRow.holds Tryz.pinned (OpenSpec.ofChange solveRingSpec)

/-- ITS FALSE NEIGHBOUR: 'it returns false'. Refute it at one input. -/
def solveRingWrong : ChangeSpec := { name := "solveRing", fn := fun _ => fun
  | [d1, d2] => { results := [.lit (.bool false)], args := [d1, d2] }
  | _ => none }
def SolveRingWrongFalsely : Prop := solveRingRow.holds Tryz.pinned (OpenSpec.ofChange solveRingWrong)

/-- 'haversacklaw15.SolveFirst': WHATEVER THE INPUT: true; the input reads as it did. -/
def solveFirstSpec : ChangeSpec := { name := "solveFirst", fn := fun _ => fun
  | [d1, d2] => { results := [.lit (.bool true)], args := [d1, d2] }
  | _ => none }
def solveFirstRow : OpenClaim := { program := "ytjdieklgoepdjaagreatdoor", sum := "852a60b979c2cec97b3d7f6445ecb0dea74c2dc85bf5e54d149f27f792fc4c73", func := "haversack/haversacklaw15.SolveFirst", spec := "solveFirst", inPlace := ["internal/reflectlite.ValueOf", "(internal/reflectlite.Value).Type", "(internal/reflectlite.Value).IsNil", "internal/reflectlite.TypeOf", "(internal/reflectlite.Value).Elem", "(internal/reflectlite.Value).Set", "maps.clone", "internal/abi.NoEscape", "internal/bytealg.MakeNoZero"], unfollowed := true, recurses := true, named := ["errors.errorType", "internal/strconv.uint64pow10", "math/bits.deBruijn32tab", "math/bits.deBruijn64tab"], apart := false, laid := [("math/bits.deBruijn32tab", laid_math_bits_deBruijn32tab), ("math/bits.deBruijn64tab", laid_math_bits_deBruijn64tab), ("internal/strconv.uint64pow10", laid_internal_strconv_uint64pow10), ("errors.errorType", laid_errors_errorType)] }
def SolveFirstSaid : Prop := solveFirstRow.holds Tryz.pinned (OpenSpec.ofChange solveFirstSpec)

/-- ITS FALSE NEIGHBOUR: 'it returns false'. Refute it at one input. -/
def solveFirstWrong : ChangeSpec := { name := "solveFirst", fn := fun _ => fun
  | [d1, d2] => { results := [.lit (.bool false)], args := [d1, d2] }
  | _ => none }
def SolveFirstWrongFalsely : Prop := solveFirstRow.holds Tryz.pinned (OpenSpec.ofChange solveFirstWrong)

/-- 'haversacklaw15.SolveBetter': WHATEVER THE INPUT: true; the input reads as it did. -/
def solveBetterSpec : ChangeSpec := { name := "solveBetter", fn := fun _ => fun
  | [d1, d2, d3, d4] => { results := [.lit (.bool true)], args := [d1, d2, d3, d4] }
  | _ => none }
def solveBetterRow : OpenClaim := { program := "ytjdieklgoepdjaagreatdoor", sum := "852a60b979c2cec97b3d7f6445ecb0dea74c2dc85bf5e54d149f27f792fc4c73", func := "haversack/haversacklaw15.SolveBetter", spec := "solveBetter", inPlace := ["internal/reflectlite.ValueOf", "(internal/reflectlite.Value).Type", "(internal/reflectlite.Value).IsNil", "internal/reflectlite.TypeOf", "(internal/reflectlite.Value).Elem", "(internal/reflectlite.Value).Set", "maps.clone", "internal/abi.NoEscape", "internal/bytealg.MakeNoZero"], unfollowed := true, recurses := true, named := ["errors.errorType", "internal/strconv.uint64pow10", "math/bits.deBruijn32tab", "math/bits.deBruijn64tab"], apart := false, laid := [("math/bits.deBruijn32tab", laid_math_bits_deBruijn32tab), ("math/bits.deBruijn64tab", laid_math_bits_deBruijn64tab), ("internal/strconv.uint64pow10", laid_internal_strconv_uint64pow10), ("errors.errorType", laid_errors_errorType)] }
def SolveBetterSaid : Prop := solveBetterRow.holds Tryz.pinned (OpenSpec.ofChange solveBetterSpec)

/-- ITS FALSE NEIGHBOUR: 'it returns false'. Refute it at one input. -/
def solveBetterWrong : ChangeSpec := { name := "solveBetter", fn := fun _ => fun
  | [d1, d2, d3, d4] => { results := [.lit (.bool false)], args := [d1, d2, d3, d4] }
  | _ => none }
def SolveBetterWrongFalsely : Prop := solveBetterRow.holds Tryz.pinned (OpenSpec.ofChange solveBetterWrong)

/- THE SECOND FORM. 'bulk': how many values and letters a reading holds, each counted each time it is reached (what is shared counts as often as it is met; a slice's spare places count too). A statement '..UptoSaid' is the law's where the arguments, and the package variables that the reading takes, are together of bulk at most 1048576: NARROWER than '..Said'. Prove '..Said' where nothing that the law and all that it calls make is longer than what came in: it says more and counts as full. Else prove '..UptoSaid'. A law counts once. -/
mutual
def uptoBulk {H : Type} : DataW H → Nat
  | .lit (.string bytes) => bytes.length + 1
  | .lit _ => 1
  | .nil => 1
  | .ptr d => uptoBulk d + 1
  | .slice elems spare => uptoBulkAll elems + uptoBulkAll spare + 1
  | .agg parts => uptoBulkAll parts + 1
  | .iface _ d => uptoBulk d + 1
  | .map entries => uptoBulkEntries entries + 1
  | .held _ => 1
def uptoBulkAll {H : Type} : List (DataW H) → Nat
  | [] => 0
  | d :: r => uptoBulk d + uptoBulkAll r
def uptoBulkEntries {H : Type} : List (Lit × DataW H) → Nat
  | [] => 0
  | x :: r => uptoBulkEntry x + uptoBulkEntries r
def uptoBulkEntry {H : Type} : Lit × DataW H → Nat
  | (.string bytes, d) => bytes.length + uptoBulk d + 1
  | (_, d) => uptoBulk d + 1
 end
def uptoSmall : (H : Type) → List (DataW H) → Bool := fun _ ds => decide (uptoBulkAll ds ≤ 1048576)
def OpenSpec.upto (s : _root_.Go.ChangeSpec) : _root_.Go.OpenSpec := { _root_.Go.OpenSpec.ofChange s with cond := some uptoSmall }

/-- 'haversacklaw16.WhyPaths', WHERE WHAT IT READS IS OF BULK AT MOST 1048576: true; the input reads as it did. -/
def whyPathsUptoRow : OpenClaim := { program := "ytjdieklgoepdjaagreatdoor", sum := "852a60b979c2cec97b3d7f6445ecb0dea74c2dc85bf5e54d149f27f792fc4c73", func := "haversack/haversacklaw16.WhyPaths", spec := "whyPaths", inPlace := ["internal/reflectlite.ValueOf", "(internal/reflectlite.Value).Type", "(internal/reflectlite.Value).IsNil", "internal/reflectlite.TypeOf", "(internal/reflectlite.Value).Elem", "(internal/reflectlite.Value).Set", "maps.clone"], unfollowed := true, recurses := true, named := ["errors.errorType"], apart := false, laid := [("errors.errorType", laid_errors_errorType)], narrowed := true }
def WhyPathsUptoSaid : Prop := whyPathsUptoRow.holds Tryz.pinned (OpenSpec.upto whyPathsSpec)

/-- 'haversacklaw16.WhyCores', WHERE WHAT IT READS IS OF BULK AT MOST 1048576: true; the input reads as it did. -/
def whyCoresUptoRow : OpenClaim := { program := "ytjdieklgoepdjaagreatdoor", sum := "852a60b979c2cec97b3d7f6445ecb0dea74c2dc85bf5e54d149f27f792fc4c73", func := "haversack/haversacklaw16.WhyCores", spec := "whyCores", inPlace := ["internal/reflectlite.ValueOf", "(internal/reflectlite.Value).Type", "(internal/reflectlite.Value).IsNil", "internal/reflectlite.TypeOf", "(internal/reflectlite.Value).Elem", "(internal/reflectlite.Value).Set", "maps.clone"], unfollowed := true, recurses := true, named := ["errors.errorType"], apart := false, laid := [("errors.errorType", laid_errors_errorType)], narrowed := true }
def WhyCoresUptoSaid : Prop := whyCoresUptoRow.holds Tryz.pinned (OpenSpec.upto whyCoresSpec)

/-- 'haversacklaw16.WhyWays', WHERE WHAT IT READS IS OF BULK AT MOST 1048576: true; the input reads as it did. -/
def whyWaysUptoRow : OpenClaim := { program := "ytjdieklgoepdjaagreatdoor", sum := "852a60b979c2cec97b3d7f6445ecb0dea74c2dc85bf5e54d149f27f792fc4c73", func := "haversack/haversacklaw16.WhyWays", spec := "whyWays", inPlace := ["internal/reflectlite.ValueOf", "(internal/reflectlite.Value).Type", "(internal/reflectlite.Value).IsNil", "internal/reflectlite.TypeOf", "(internal/reflectlite.Value).Elem", "(internal/reflectlite.Value).Set", "maps.clone"], unfollowed := true, recurses := true, named := ["errors.errorType"], apart := false, laid := [("errors.errorType", laid_errors_errorType)], narrowed := true }
def WhyWaysUptoSaid : Prop := whyWaysUptoRow.holds Tryz.pinned (OpenSpec.upto whyWaysSpec)

/-- 'haversacklaw16.WhyTurned', WHERE WHAT IT READS IS OF BULK AT MOST 1048576: true; the input reads as it did. -/
def whyTurnedUptoRow : OpenClaim := { program := "ytjdieklgoepdjaagreatdoor", sum := "852a60b979c2cec97b3d7f6445ecb0dea74c2dc85bf5e54d149f27f792fc4c73", func := "haversack/haversacklaw16.WhyTurned", spec := "whyTurned", inPlace := ["internal/reflectlite.ValueOf", "(internal/reflectlite.Value).Type", "(internal/reflectlite.Value).IsNil", "internal/reflectlite.TypeOf", "(internal/reflectlite.Value).Elem", "(internal/reflectlite.Value).Set", "maps.clone"], unfollowed := true, recurses := true, named := ["errors.errorType"], apart := false, laid := [("errors.errorType", laid_errors_errorType)], narrowed := true }
def WhyTurnedUptoSaid : Prop := whyTurnedUptoRow.holds Tryz.pinned (OpenSpec.upto whyTurnedSpec)

/-- 'haversacklaw16.WhyChain', WHERE WHAT IT READS IS OF BULK AT MOST 1048576: true; the input reads as it did. -/
def whyChainUptoRow : OpenClaim := { program := "ytjdieklgoepdjaagreatdoor", sum := "852a60b979c2cec97b3d7f6445ecb0dea74c2dc85bf5e54d149f27f792fc4c73", func := "haversack/haversacklaw16.WhyChain", spec := "whyChain", inPlace := ["internal/reflectlite.ValueOf", "(internal/reflectlite.Value).Type", "(internal/reflectlite.Value).IsNil", "internal/reflectlite.TypeOf", "(internal/reflectlite.Value).Elem", "(internal/reflectlite.Value).Set", "maps.clone"], unfollowed := true, recurses := true, named := ["errors.errorType"], apart := false, laid := [("errors.errorType", laid_errors_errorType)], narrowed := true }
def WhyChainUptoSaid : Prop := whyChainUptoRow.holds Tryz.pinned (OpenSpec.upto whyChainSpec)

/-- 'haversacklaw15.SolveGreatest', WHERE WHAT IT READS IS OF BULK AT MOST 1048576: true; the input reads as it did. -/
def solveGreatestUptoRow : OpenClaim := { program := "ytjdieklgoepdjaagreatdoor", sum := "852a60b979c2cec97b3d7f6445ecb0dea74c2dc85bf5e54d149f27f792fc4c73", func := "haversack/haversacklaw15.SolveGreatest", spec := "solveGreatest", inPlace := ["internal/reflectlite.ValueOf", "(internal/reflectlite.Value).Type", "(internal/reflectlite.Value).IsNil", "internal/reflectlite.TypeOf", "(internal/reflectlite.Value).Elem", "(internal/reflectlite.Value).Set", "maps.clone", "internal/abi.NoEscape", "internal/bytealg.MakeNoZero"], unfollowed := true, recurses := true, named := ["errors.errorType", "internal/strconv.uint64pow10", "math/bits.deBruijn32tab", "math/bits.deBruijn64tab"], apart := false, laid := [("math/bits.deBruijn32tab", laid_math_bits_deBruijn32tab), ("math/bits.deBruijn64tab", laid_math_bits_deBruijn64tab), ("internal/strconv.uint64pow10", laid_internal_strconv_uint64pow10), ("errors.errorType", laid_errors_errorType)], narrowed := true }
def SolveGreatestUptoSaid : Prop := solveGreatestUptoRow.holds Tryz.pinned (OpenSpec.upto solveGreatestSpec)

/-- 'haversacklaw15.SolveFits', WHERE WHAT IT READS IS OF BULK AT MOST 1048576: true; the input reads as it did. -/
def solveFitsUptoRow : OpenClaim := { program := "ytjdieklgoepdjaagreatdoor", sum := "852a60b979c2cec97b3d7f6445ecb0dea74c2dc85bf5e54d149f27f792fc4c73", func := "haversack/haversacklaw15.SolveFits", spec := "solveFits", inPlace := ["internal/reflectlite.ValueOf", "(internal/reflectlite.Value).Type", "(internal/reflectlite.Value).IsNil", "internal/reflectlite.TypeOf", "(internal/reflectlite.Value).Elem", "(internal/reflectlite.Value).Set", "maps.clone", "internal/abi.NoEscape", "internal/bytealg.MakeNoZero"], unfollowed := true, recurses := true, named := ["errors.errorType", "internal/strconv.uint64pow10", "math/bits.deBruijn32tab", "math/bits.deBruijn64tab"], apart := false, laid := [("math/bits.deBruijn32tab", laid_math_bits_deBruijn32tab), ("math/bits.deBruijn64tab", laid_math_bits_deBruijn64tab), ("internal/strconv.uint64pow10", laid_internal_strconv_uint64pow10), ("errors.errorType", laid_errors_errorType)], narrowed := true }
def SolveFitsUptoSaid : Prop := solveFitsUptoRow.holds Tryz.pinned (OpenSpec.upto solveFitsSpec)

/-- 'haversacklaw15.SolveNone', WHERE WHAT IT READS IS OF BULK AT MOST 1048576: true; the input reads as it did. -/
def solveNoneUptoRow : OpenClaim := { program := "ytjdieklgoepdjaagreatdoor", sum := "852a60b979c2cec97b3d7f6445ecb0dea74c2dc85bf5e54d149f27f792fc4c73", func := "haversack/haversacklaw15.SolveNone", spec := "solveNone", inPlace := ["internal/reflectlite.ValueOf", "(internal/reflectlite.Value).Type", "(internal/reflectlite.Value).IsNil", "internal/reflectlite.TypeOf", "(internal/reflectlite.Value).Elem", "(internal/reflectlite.Value).Set", "maps.clone", "internal/abi.NoEscape", "internal/bytealg.MakeNoZero"], unfollowed := true, recurses := true, named := ["errors.errorType", "internal/strconv.uint64pow10", "math/bits.deBruijn32tab", "math/bits.deBruijn64tab"], apart := false, laid := [("math/bits.deBruijn32tab", laid_math_bits_deBruijn32tab), ("math/bits.deBruijn64tab", laid_math_bits_deBruijn64tab), ("internal/strconv.uint64pow10", laid_internal_strconv_uint64pow10), ("errors.errorType", laid_errors_errorType)], narrowed := true }
def SolveNoneUptoSaid : Prop := solveNoneUptoRow.holds Tryz.pinned (OpenSpec.upto solveNoneSpec)

/-- 'haversacklaw15.SolveChain', WHERE WHAT IT READS IS OF BULK AT MOST 1048576: true; the input reads as it did. -/
def solveChainUptoRow : OpenClaim := { program := "ytjdieklgoepdjaagreatdoor", sum := "852a60b979c2cec97b3d7f6445ecb0dea74c2dc85bf5e54d149f27f792fc4c73", func := "haversack/haversacklaw15.SolveChain", spec := "solveChain", inPlace := ["internal/reflectlite.ValueOf", "(internal/reflectlite.Value).Type", "(internal/reflectlite.Value).IsNil", "internal/reflectlite.TypeOf", "(internal/reflectlite.Value).Elem", "(internal/reflectlite.Value).Set", "maps.clone", "internal/abi.NoEscape", "internal/bytealg.MakeNoZero"], unfollowed := true, recurses := true, named := ["errors.errorType", "internal/strconv.uint64pow10", "math/bits.deBruijn32tab", "math/bits.deBruijn64tab"], apart := false, laid := [("math/bits.deBruijn32tab", laid_math_bits_deBruijn32tab), ("math/bits.deBruijn64tab", laid_math_bits_deBruijn64tab), ("internal/strconv.uint64pow10", laid_internal_strconv_uint64pow10), ("errors.errorType", laid_errors_errorType)], narrowed := true }
def SolveChainUptoSaid : Prop := solveChainUptoRow.holds Tryz.pinned (OpenSpec.upto solveChainSpec)

/-- 'haversacklaw15.SolveBudget', WHERE WHAT IT READS IS OF BULK AT MOST 1048576: true; the input reads as it did. -/
def solveBudgetUptoRow : OpenClaim := { program := "ytjdieklgoepdjaagreatdoor", sum := "852a60b979c2cec97b3d7f6445ecb0dea74c2dc85bf5e54d149f27f792fc4c73", func := "haversack/haversacklaw15.SolveBudget", spec := "solveBudget", inPlace := ["internal/reflectlite.ValueOf", "(internal/reflectlite.Value).Type", "(internal/reflectlite.Value).IsNil", "internal/reflectlite.TypeOf", "(internal/reflectlite.Value).Elem", "(internal/reflectlite.Value).Set", "maps.clone", "internal/abi.NoEscape", "internal/bytealg.MakeNoZero"], unfollowed := true, recurses := true, named := ["errors.errorType", "internal/strconv.uint64pow10", "math/bits.deBruijn32tab", "math/bits.deBruijn64tab"], apart := false, laid := [("math/bits.deBruijn32tab", laid_math_bits_deBruijn32tab), ("math/bits.deBruijn64tab", laid_math_bits_deBruijn64tab), ("internal/strconv.uint64pow10", laid_internal_strconv_uint64pow10), ("errors.errorType", laid_errors_errorType)], narrowed := true }
def SolveBudgetUptoSaid : Prop := solveBudgetUptoRow.holds Tryz.pinned (OpenSpec.upto solveBudgetSpec)

/-- 'haversacklaw15.SolveTurned', WHERE WHAT IT READS IS OF BULK AT MOST 1048576: true; the input reads as it did. -/
def solveTurnedUptoRow : OpenClaim := { program := "ytjdieklgoepdjaagreatdoor", sum := "852a60b979c2cec97b3d7f6445ecb0dea74c2dc85bf5e54d149f27f792fc4c73", func := "haversack/haversacklaw15.SolveTurned", spec := "solveTurned", inPlace := ["internal/reflectlite.ValueOf", "(internal/reflectlite.Value).Type", "(internal/reflectlite.Value).IsNil", "internal/reflectlite.TypeOf", "(internal/reflectlite.Value).Elem", "(internal/reflectlite.Value).Set", "maps.clone", "internal/abi.NoEscape", "internal/bytealg.MakeNoZero"], unfollowed := true, recurses := true, named := ["errors.errorType", "internal/strconv.uint64pow10", "math/bits.deBruijn32tab", "math/bits.deBruijn64tab"], apart := false, laid := [("math/bits.deBruijn32tab", laid_math_bits_deBruijn32tab), ("math/bits.deBruijn64tab", laid_math_bits_deBruijn64tab), ("internal/strconv.uint64pow10", laid_internal_strconv_uint64pow10), ("errors.errorType", laid_errors_errorType)], narrowed := true }
def SolveTurnedUptoSaid : Prop := solveTurnedUptoRow.holds Tryz.pinned (OpenSpec.upto solveTurnedSpec)

/-- 'haversacklaw15.SolveRing', WHERE WHAT IT READS IS OF BULK AT MOST 1048576: true; the input reads as it did. -/
def solveRingUptoRow : OpenClaim := { program := "ytjdieklgoepdjaagreatdoor", sum := "852a60b979c2cec97b3d7f6445ecb0dea74c2dc85bf5e54d149f27f792fc4c73", func := "haversack/haversacklaw15.SolveRing", spec := "solveRing", inPlace := ["internal/reflectlite.ValueOf", "(internal/reflectlite.Value).Type", "(internal/reflectlite.Value).IsNil", "internal/reflectlite.TypeOf", "(internal/reflectlite.Value).Elem", "(internal/reflectlite.Value).Set", "maps.clone", "internal/abi.NoEscape", "internal/bytealg.MakeNoZero"], unfollowed := true, recurses := true, named := ["errors.errorType", "internal/strconv.uint64pow10", "math/bits.deBruijn32tab", "math/bits.deBruijn64tab"], apart := false, laid := [("math/bits.deBruijn32tab", laid_math_bits_deBruijn32tab), ("math/bits.deBruijn64tab", laid_math_bits_deBruijn64tab), ("internal/strconv.uint64pow10", laid_internal_strconv_uint64pow10), ("errors.errorType", laid_errors_errorType)], narrowed := true }
def SolveRingUptoSaid : Prop := solveRingUptoRow.holds Tryz.pinned (OpenSpec.upto solveRingSpec)

/-- 'haversacklaw15.SolveFirst', WHERE WHAT IT READS IS OF BULK AT MOST 1048576: true; the input reads as it did. -/
def solveFirstUptoRow : OpenClaim := { program := "ytjdieklgoepdjaagreatdoor", sum := "852a60b979c2cec97b3d7f6445ecb0dea74c2dc85bf5e54d149f27f792fc4c73", func := "haversack/haversacklaw15.SolveFirst", spec := "solveFirst", inPlace := ["internal/reflectlite.ValueOf", "(internal/reflectlite.Value).Type", "(internal/reflectlite.Value).IsNil", "internal/reflectlite.TypeOf", "(internal/reflectlite.Value).Elem", "(internal/reflectlite.Value).Set", "maps.clone", "internal/abi.NoEscape", "internal/bytealg.MakeNoZero"], unfollowed := true, recurses := true, named := ["errors.errorType", "internal/strconv.uint64pow10", "math/bits.deBruijn32tab", "math/bits.deBruijn64tab"], apart := false, laid := [("math/bits.deBruijn32tab", laid_math_bits_deBruijn32tab), ("math/bits.deBruijn64tab", laid_math_bits_deBruijn64tab), ("internal/strconv.uint64pow10", laid_internal_strconv_uint64pow10), ("errors.errorType", laid_errors_errorType)], narrowed := true }
def SolveFirstUptoSaid : Prop := solveFirstUptoRow.holds Tryz.pinned (OpenSpec.upto solveFirstSpec)

/-- 'haversacklaw15.SolveBetter', WHERE WHAT IT READS IS OF BULK AT MOST 1048576: true; the input reads as it did. -/
def solveBetterUptoRow : OpenClaim := { program := "ytjdieklgoepdjaagreatdoor", sum := "852a60b979c2cec97b3d7f6445ecb0dea74c2dc85bf5e54d149f27f792fc4c73", func := "haversack/haversacklaw15.SolveBetter", spec := "solveBetter", inPlace := ["internal/reflectlite.ValueOf", "(internal/reflectlite.Value).Type", "(internal/reflectlite.Value).IsNil", "internal/reflectlite.TypeOf", "(internal/reflectlite.Value).Elem", "(internal/reflectlite.Value).Set", "maps.clone", "internal/abi.NoEscape", "internal/bytealg.MakeNoZero"], unfollowed := true, recurses := true, named := ["errors.errorType", "internal/strconv.uint64pow10", "math/bits.deBruijn32tab", "math/bits.deBruijn64tab"], apart := false, laid := [("math/bits.deBruijn32tab", laid_math_bits_deBruijn32tab), ("math/bits.deBruijn64tab", laid_math_bits_deBruijn64tab), ("internal/strconv.uint64pow10", laid_internal_strconv_uint64pow10), ("errors.errorType", laid_errors_errorType)], narrowed := true }
def SolveBetterUptoSaid : Prop := solveBetterUptoRow.holds Tryz.pinned (OpenSpec.upto solveBetterSpec)

end Rows
end Go.Proofs.YtjdieklgoepdjaaGreatDoor
