/-
  Facts of the program: laid out, no knob.
-/
import Derived.Test.YtgpcmjmpiabpmaaGreatRows
import Derived.ProofKit
namespace Go.Proofs.YtgpcmjmpiabpmaaGreat
open Go.ChangeShapes Go.WideShapes Go.ChangeAt Go.RowKit

theorem nil_own : ownKnob Tryz.prog.godebug = none := by kernel_rfl
theorem nil_laid : laidOutB Tryz.prog = true := by kernel_rfl
theorem nil_cells : Tryz.prog.cellsOf 31 = 2 := by kernel_rfl
end Go.Proofs.YtgpcmjmpiabpmaaGreat
