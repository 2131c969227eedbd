/-
  DERIVED. GIVEN WITH THE SEED: THE PROGRAM's TIES (one call each: nine closed facts by the kernel) AND EACH ROW's TIE, after the 31st guide's Derived/Test/Toyas{Tie, Card}.lean. No idea stands in it: it is a product of the set-up. Laid BY PROGRAM, IN A SANDBOX (cutbox-door.mjs). By AI agents, Wed Nov 11 2026. No macro, syntax, notation, axiom, sorry.
-/
import Derived.Test.Qxb6500745aGreatDoorRows
import Derived.LaidByTextLater
import Derived.SevenTiedAt
import Derived.LaidSub
import Derived.LaidOnce
namespace Go.Proofs.Qxb6500745aGreatDoor
open Go
set_option maxRecDepth 100000
theorem seatTie1 : Tryz.prog.laidByTextLater [("math/bits.deBruijn32tab", Rows.laid_math_bits_deBruijn32tab), ("math/bits.deBruijn64tab", Rows.laid_math_bits_deBruijn64tab), ("internal/strconv.uint64pow10", Rows.laid_internal_strconv_uint64pow10), ("e2e/api.ErrWidth", Rows.laid_e2e_api_ErrWidth), ("e2e/api.ErrRange", Rows.laid_e2e_api_ErrRange), ("e2e/api.ErrMismatch", Rows.laid_e2e_api_ErrMismatch), ("e2e/api.ErrID", Rows.laid_e2e_api_ErrID), ("e2e/api.ErrIndex", Rows.laid_e2e_api_ErrIndex)] [.data, .data, .data, .called, .called, .called, .called, .called] true :=
  Program.laidByTextLater_by_one 119 8 65 (by kernel_rfl) (by kernel_rfl) (by kernel_rfl) (by kernel_rfl) (by kernel_rfl) (by kernel_rfl) (fun _ _ => by kernel_rfl)
theorem noOwnUnsafe : Tryz.pinned.checked.prog.headLifts.contains "ownunsafe" = false := by kernel_rfl
theorem tie : Tryz.prog.laidByTextLater [("math/bits.deBruijn32tab", Rows.laid_math_bits_deBruijn32tab), ("math/bits.deBruijn64tab", Rows.laid_math_bits_deBruijn64tab), ("internal/strconv.uint64pow10", Rows.laid_internal_strconv_uint64pow10), ("e2e/api.ErrWidth", Rows.laid_e2e_api_ErrWidth), ("e2e/api.ErrRange", Rows.laid_e2e_api_ErrRange), ("e2e/api.ErrMismatch", Rows.laid_e2e_api_ErrMismatch), ("e2e/api.ErrID", Rows.laid_e2e_api_ErrID), ("e2e/api.ErrIndex", Rows.laid_e2e_api_ErrIndex)] [.data, .data, .data, .called, .called, .called, .called, .called] true :=
  Program.laidByTextLater.sub seatTie1 ["math/bits.deBruijn32tab", "math/bits.deBruijn64tab", "internal/strconv.uint64pow10", "e2e/api.ErrWidth", "e2e/api.ErrRange", "e2e/api.ErrMismatch", "e2e/api.ErrID", "e2e/api.ErrIndex"] (by kernel_rfl) (by kernel_rfl)
theorem errorsChangeNothing_row_tie : Rows.errorsChangeNothingRow.laidByTextAt .later Tryz.pinned [.data, .data, .data, .called, .called, .called, .called, .called] true :=
  OpenClaim.laidByTextAt_later rfl rfl tie noOwnUnsafe
theorem iDSetsStaySorted_row_tie : Rows.iDSetsStaySortedRow.laidByTextAt .later Tryz.pinned [.data, .data, .data, .called, .called, .called, .called, .called] true :=
  OpenClaim.laidByTextAt_later rfl rfl tie noOwnUnsafe
theorem iDSetAlgebraIsSetTheory_row_tie : Rows.iDSetAlgebraIsSetTheoryRow.laidByTextAt .later Tryz.pinned [.data, .data, .data, .called, .called, .called, .called, .called] true :=
  OpenClaim.laidByTextAt_later rfl rfl tie noOwnUnsafe
end Go.Proofs.Qxb6500745aGreatDoor
