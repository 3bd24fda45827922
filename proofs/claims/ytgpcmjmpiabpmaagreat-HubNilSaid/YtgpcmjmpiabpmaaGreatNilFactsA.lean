/-
  outriderlaw25.HubNil: the row's facts.
-/
import Derived.Test.YtgpcmjmpiabpmaaGreatRows
import Derived.ProofKit
namespace Go.Proofs.YtgpcmjmpiabpmaaGreat
open Go.ChangeShapes Go.WideShapes Go.ChangeAt Go.RowKit

theorem nil_named : Tryz.pinned.checked.prog.funcNamed Rows.hubNilRow.func = some 4 := by kernel_rfl

end Go.Proofs.YtgpcmjmpiabpmaaGreat
