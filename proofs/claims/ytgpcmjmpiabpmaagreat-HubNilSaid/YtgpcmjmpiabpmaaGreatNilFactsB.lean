/-
  outriderlaw25.HubNil: the row's facts.
-/
import Derived.Test.YtgpcmjmpiabpmaaGreatRows
import Derived.ProofKit
namespace Go.Proofs.YtgpcmjmpiabpmaaGreat
open Go.ChangeShapes Go.WideShapes Go.ChangeAt Go.RowKit

theorem nil_facts : joinedFacts Tryz.pinned.checked.prog 4 Tryz.f4 Rows.hubNilSpec Rows.hubNilRow = true := by kernel_rfl

end Go.Proofs.YtgpcmjmpiabpmaaGreat
