/-
  log.Open on the pages from 0 on of a disk of 1,000 pages of zeros: the run.
-/
import Derived.Test.YtgpcmjmpiabpmaaGreatSums
namespace Go.Proofs.YtgpcmjmpiabpmaaGreat
open Go Go.Sh
set_option maxRecDepth 1000000
theorem open0 : okOpen zlies 512000 0 (zdisk .h) 4 0 .i64 0 (zlog (.o .h) 0) 8 0 (X1.call 50 [.ptr (.o .h) 0, .int .i64 (.ofNat 0), .int .i64 (.ofNat 500)] (two zlies 512000 0 (zdisk .h) 4 0)) = true := by kernel_rfl
end Go.Proofs.YtgpcmjmpiabpmaaGreat
