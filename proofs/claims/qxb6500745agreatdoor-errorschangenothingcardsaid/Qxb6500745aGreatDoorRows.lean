/-
  NARROWER THAN 'FOR EVERY INPUT', by the rows' own cells (each row's printed sentence says how): ErrorsChangeNothing: laid · IDSetsStaySorted: laid · IDSetAlgebraIsSetTheory: laid.
  DERIVED. THE GIVEN ROWS OF THIS SEAT. 3 by the template 'for every input the law returns true; each argument reads behind the call as it read before'; 0 by the template 'total and deterministic' (their statements: Qxb6500745aGreatDoorTotals.lean).
  GIVEN WITH THE SEED: the statements are not yours to turn. If you find one false, say at which input.
  Laid BY PROGRAM, IN A SANDBOX (cutbox-rows.mjs): the forced cells as the released guide's own fill.sh prints them over the translation cb72519a9a887cd3… (all of the seat's roots in one cut). By AI agents, Wed Nov 11 2026. No macro, syntax, notation, axiom, sorry.
-/
import Derived.Test.Qxb6500745aGreatDoorChecked
import GoSem.Claim
import GoSem.ClaimJoined
import GoSem.ClaimMapViews
import Derived.JoinedTies
import Derived.KernelRfl
namespace Go.Proofs.Qxb6500745aGreatDoor
/- THE CELL 'sum', in the pinned program and in every row, IS THE sha256 OF THE DUMP (.gsa) THAT Qxb6500745aGreatDoorProg.lean LOADS. Nothing in Lean hashes anything: it is a label: what it is worth is what the hold of that sum in a sandbox is worth. -/
noncomputable def Tryz.pinned : Pinned := { name := "qxb6500745agreatdoor", sum := "cb72519a9a887cd30e3f2cba6e0dbe18e97e3d6831601db24166b9c0bf12acda", checked := Tryz.checked }
namespace Rows
def none {H : Type} : Left H := { results := [], args := [] }

/- WHAT THE LISTED PACKAGE-LEVEL VARIABLES READ AS WHEN THE CALL BEGINS. Each datum BY PROGRAM (the guide's laid-datum.mjs) off the statement by which the dump's own 'gosem.cut.vars' lays the variable. In a bare row this is a premise. The card (Qxb6500745aGreatDoorCards.lean) ties it to the program's text. -/
def laid_math_bits_deBruijn32tab {H : Type} : DataW H := .agg [.lit (.int .u8 0), .lit (.int .u8 1), .lit (.int .u8 28), .lit (.int .u8 2), .lit (.int .u8 29), .lit (.int .u8 14), .lit (.int .u8 24), .lit (.int .u8 3), .lit (.int .u8 30), .lit (.int .u8 22), .lit (.int .u8 20), .lit (.int .u8 15), .lit (.int .u8 25), .lit (.int .u8 17), .lit (.int .u8 4), .lit (.int .u8 8), .lit (.int .u8 31), .lit (.int .u8 27), .lit (.int .u8 13), .lit (.int .u8 23), .lit (.int .u8 21), .lit (.int .u8 19), .lit (.int .u8 16), .lit (.int .u8 7), .lit (.int .u8 26), .lit (.int .u8 12), .lit (.int .u8 18), .lit (.int .u8 6), .lit (.int .u8 11), .lit (.int .u8 5), .lit (.int .u8 10), .lit (.int .u8 9)]
def laid_math_bits_deBruijn64tab {H : Type} : DataW H := .agg [.lit (.int .u8 0), .lit (.int .u8 1), .lit (.int .u8 56), .lit (.int .u8 2), .lit (.int .u8 57), .lit (.int .u8 49), .lit (.int .u8 28), .lit (.int .u8 3), .lit (.int .u8 61), .lit (.int .u8 58), .lit (.int .u8 42), .lit (.int .u8 50), .lit (.int .u8 38), .lit (.int .u8 29), .lit (.int .u8 17), .lit (.int .u8 4), .lit (.int .u8 62), .lit (.int .u8 47), .lit (.int .u8 59), .lit (.int .u8 36), .lit (.int .u8 45), .lit (.int .u8 43), .lit (.int .u8 51), .lit (.int .u8 22), .lit (.int .u8 53), .lit (.int .u8 39), .lit (.int .u8 33), .lit (.int .u8 30), .lit (.int .u8 24), .lit (.int .u8 18), .lit (.int .u8 12), .lit (.int .u8 5), .lit (.int .u8 63), .lit (.int .u8 55), .lit (.int .u8 48), .lit (.int .u8 27), .lit (.int .u8 60), .lit (.int .u8 41), .lit (.int .u8 37), .lit (.int .u8 16), .lit (.int .u8 46), .lit (.int .u8 35), .lit (.int .u8 44), .lit (.int .u8 21), .lit (.int .u8 52), .lit (.int .u8 32), .lit (.int .u8 23), .lit (.int .u8 11), .lit (.int .u8 54), .lit (.int .u8 26), .lit (.int .u8 40), .lit (.int .u8 15), .lit (.int .u8 34), .lit (.int .u8 20), .lit (.int .u8 31), .lit (.int .u8 10), .lit (.int .u8 25), .lit (.int .u8 14), .lit (.int .u8 19), .lit (.int .u8 9), .lit (.int .u8 13), .lit (.int .u8 8), .lit (.int .u8 7), .lit (.int .u8 6)]
def laid_internal_strconv_uint64pow10 {H : Type} : DataW H := .agg [.lit (.int .u64 1), .lit (.int .u64 10), .lit (.int .u64 100), .lit (.int .u64 1000), .lit (.int .u64 10000), .lit (.int .u64 100000), .lit (.int .u64 1000000), .lit (.int .u64 10000000), .lit (.int .u64 100000000), .lit (.int .u64 1000000000), .lit (.int .u64 10000000000), .lit (.int .u64 100000000000), .lit (.int .u64 1000000000000), .lit (.int .u64 10000000000000), .lit (.int .u64 100000000000000), .lit (.int .u64 1000000000000000), .lit (.int .u64 10000000000000000), .lit (.int .u64 100000000000000000), .lit (.int .u64 1000000000000000000), .lit (.int .u64 10000000000000000000)]
def laid_e2e_api_ErrWidth {H : Type} : DataW H := .iface "*errors.errorString" (.ptr (.agg [.lit (.string [98, 105, 116, 100, 111, 109, 58, 32, 119, 105, 100, 116, 104, 32, 111, 117, 116, 115, 105, 100, 101, 32, 91, 48, 44, 77, 97, 120, 87, 105, 100, 116, 104, 93])]))
def laid_e2e_api_ErrRange {H : Type} : DataW H := .iface "*errors.errorString" (.ptr (.agg [.lit (.string [98, 105, 116, 100, 111, 109, 58, 32, 118, 97, 108, 117, 101, 32, 111, 117, 116, 115, 105, 100, 101, 32, 116, 104, 101, 32, 117, 110, 105, 118, 101, 114, 115, 101])]))
def laid_e2e_api_ErrMismatch {H : Type} : DataW H := .iface "*errors.errorString" (.ptr (.agg [.lit (.string [98, 105, 116, 100, 111, 109, 58, 32, 100, 111, 109, 97, 105, 110, 115, 32, 111, 118, 101, 114, 32, 100, 105, 102, 102, 101, 114, 101, 110, 116, 32, 117, 110, 105, 118, 101, 114, 115, 101, 115])]))
def laid_e2e_api_ErrID {H : Type} : DataW H := .iface "*errors.errorString" (.ptr (.agg [.lit (.string [98, 105, 116, 100, 111, 109, 58, 32, 105, 100, 32, 111, 117, 116, 115, 105, 100, 101, 32, 91, 48, 44, 77, 97, 120, 73, 68, 93])]))
def laid_e2e_api_ErrIndex {H : Type} : DataW H := .iface "*errors.errorString" (.ptr (.agg [.lit (.string [98, 105, 116, 100, 111, 109, 58, 32, 112, 111, 115, 105, 116, 105, 111, 110, 32, 111, 117, 116, 115, 105, 100, 101, 32, 116, 104, 101, 32, 105, 100, 45, 115, 101, 116])]))

/-- 'bitdomlaw.ErrorsChangeNothing': WHATEVER THE INPUT: true; the input reads as it did. -/
def errorsChangeNothingSpec : ChangeSpec := { name := "errorsChangeNothing", fn := fun _ => fun
  | [d] => { results := [.lit (.bool true)], args := [d] }
  | _ => none }
def errorsChangeNothingRow : OpenClaim := { program := "qxb6500745agreatdoor", sum := "cb72519a9a887cd30e3f2cba6e0dbe18e97e3d6831601db24166b9c0bf12acda", func := "e2e/bitdomlaw.ErrorsChangeNothing", spec := "errorsChangeNothing", inPlace := ["internal/abi.NoEscape", "slices.overlaps[int]"], unfollowed := true, recurses := true, named := ["math/bits.deBruijn64tab", "e2e/api.ErrWidth", "e2e/api.ErrRange", "e2e/api.ErrMismatch", "internal/strconv.uint64pow10", "math/bits.deBruijn32tab", "e2e/api.ErrID", "e2e/api.ErrIndex"], apart := false, laid := [("math/bits.deBruijn32tab", laid_math_bits_deBruijn32tab), ("math/bits.deBruijn64tab", laid_math_bits_deBruijn64tab), ("internal/strconv.uint64pow10", laid_internal_strconv_uint64pow10), ("e2e/api.ErrWidth", laid_e2e_api_ErrWidth), ("e2e/api.ErrRange", laid_e2e_api_ErrRange), ("e2e/api.ErrMismatch", laid_e2e_api_ErrMismatch), ("e2e/api.ErrID", laid_e2e_api_ErrID), ("e2e/api.ErrIndex", laid_e2e_api_ErrIndex)] }
def ErrorsChangeNothingSaid : Prop := errorsChangeNothingRow.holds Tryz.pinned (OpenSpec.ofChange errorsChangeNothingSpec)

/-- ITS FALSE NEIGHBOUR: 'it returns false'. Refute it at one input. -/
def errorsChangeNothingWrong : ChangeSpec := { name := "errorsChangeNothing", fn := fun _ => fun
  | [d] => { results := [.lit (.bool false)], args := [d] }
  | _ => none }
def ErrorsChangeNothingWrongFalsely : Prop := errorsChangeNothingRow.holds Tryz.pinned (OpenSpec.ofChange errorsChangeNothingWrong)

/-- 'bitdomlaw.IDSetsStaySorted': WHATEVER THE INPUT: true; the input reads as it did. -/
def iDSetsStaySortedSpec : ChangeSpec := { name := "iDSetsStaySorted", fn := fun _ => fun
  | [d] => { results := [.lit (.bool true)], args := [d] }
  | _ => none }
def iDSetsStaySortedRow : OpenClaim := { program := "qxb6500745agreatdoor", sum := "cb72519a9a887cd30e3f2cba6e0dbe18e97e3d6831601db24166b9c0bf12acda", func := "e2e/bitdomlaw.IDSetsStaySorted", spec := "iDSetsStaySorted", inPlace := ["internal/abi.NoEscape", "slices.overlaps[int]"], unfollowed := true, recurses := true, named := ["e2e/api.ErrWidth", "e2e/api.ErrRange", "math/bits.deBruijn64tab", "e2e/api.ErrMismatch", "internal/strconv.uint64pow10", "math/bits.deBruijn32tab", "e2e/api.ErrID", "e2e/api.ErrIndex"], apart := false, laid := [("math/bits.deBruijn32tab", laid_math_bits_deBruijn32tab), ("math/bits.deBruijn64tab", laid_math_bits_deBruijn64tab), ("internal/strconv.uint64pow10", laid_internal_strconv_uint64pow10), ("e2e/api.ErrWidth", laid_e2e_api_ErrWidth), ("e2e/api.ErrRange", laid_e2e_api_ErrRange), ("e2e/api.ErrMismatch", laid_e2e_api_ErrMismatch), ("e2e/api.ErrID", laid_e2e_api_ErrID), ("e2e/api.ErrIndex", laid_e2e_api_ErrIndex)] }
def IDSetsStaySortedSaid : Prop := iDSetsStaySortedRow.holds Tryz.pinned (OpenSpec.ofChange iDSetsStaySortedSpec)

/-- ITS FALSE NEIGHBOUR: 'it returns false'. Refute it at one input. -/
def iDSetsStaySortedWrong : ChangeSpec := { name := "iDSetsStaySorted", fn := fun _ => fun
  | [d] => { results := [.lit (.bool false)], args := [d] }
  | _ => none }
def IDSetsStaySortedWrongFalsely : Prop := iDSetsStaySortedRow.holds Tryz.pinned (OpenSpec.ofChange iDSetsStaySortedWrong)

/-- 'bitdomlaw.IDSetAlgebraIsSetTheory': WHATEVER THE INPUT: true; the input reads as it did. -/
def iDSetAlgebraIsSetTheorySpec : ChangeSpec := { name := "iDSetAlgebraIsSetTheory", fn := fun _ => fun
  | [d] => { results := [.lit (.bool true)], args := [d] }
  | _ => none }
def iDSetAlgebraIsSetTheoryRow : OpenClaim := { program := "qxb6500745agreatdoor", sum := "cb72519a9a887cd30e3f2cba6e0dbe18e97e3d6831601db24166b9c0bf12acda", func := "e2e/bitdomlaw.IDSetAlgebraIsSetTheory", spec := "iDSetAlgebraIsSetTheory", inPlace := ["internal/abi.NoEscape", "slices.overlaps[int]"], unfollowed := true, recurses := true, named := ["e2e/api.ErrWidth", "e2e/api.ErrRange", "math/bits.deBruijn64tab", "e2e/api.ErrMismatch", "internal/strconv.uint64pow10", "math/bits.deBruijn32tab", "e2e/api.ErrID", "e2e/api.ErrIndex"], apart := false, laid := [("math/bits.deBruijn32tab", laid_math_bits_deBruijn32tab), ("math/bits.deBruijn64tab", laid_math_bits_deBruijn64tab), ("internal/strconv.uint64pow10", laid_internal_strconv_uint64pow10), ("e2e/api.ErrWidth", laid_e2e_api_ErrWidth), ("e2e/api.ErrRange", laid_e2e_api_ErrRange), ("e2e/api.ErrMismatch", laid_e2e_api_ErrMismatch), ("e2e/api.ErrID", laid_e2e_api_ErrID), ("e2e/api.ErrIndex", laid_e2e_api_ErrIndex)] }
def IDSetAlgebraIsSetTheorySaid : Prop := iDSetAlgebraIsSetTheoryRow.holds Tryz.pinned (OpenSpec.ofChange iDSetAlgebraIsSetTheorySpec)

/-- ITS FALSE NEIGHBOUR: 'it returns false'. Refute it at one input. -/
def iDSetAlgebraIsSetTheoryWrong : ChangeSpec := { name := "iDSetAlgebraIsSetTheory", fn := fun _ => fun
  | [d] => { results := [.lit (.bool false)], args := [d] }
  | _ => none }
def IDSetAlgebraIsSetTheoryWrongFalsely : Prop := iDSetAlgebraIsSetTheoryRow.holds Tryz.pinned (OpenSpec.ofChange iDSetAlgebraIsSetTheoryWrong)

end Rows
end Go.Proofs.Qxb6500745aGreatDoor
