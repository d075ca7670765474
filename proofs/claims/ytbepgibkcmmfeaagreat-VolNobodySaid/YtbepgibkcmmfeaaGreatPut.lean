/-
  The call of put within lives, from the heap that Data42 writes out, ends in the heap that it writes out; no condition.
-/
import Derived.Test.YtbepgibkcmmfeaaGreatRun
import Derived.Test.YtbepgibkcmmfeaaGreatData42
set_option linter.unusedVariables false
set_option linter.unusedSimpArgs false
open Go Go.Proofs.YtbepgibkcmmfeaaGreat.Abs
namespace Go.Proofs.YtbepgibkcmmfeaaGreat
set_option maxRecDepth 1000000 in
theorem run42 : memoGood nval42 nnextto42 nto42 (RR.call 42 nargs42 (heapL nnext42 nfrom42)) = true := by kernel_rfl
set_option maxHeartbeats 4000000 in
set_option maxRecDepth 1000000 in
theorem memo42 : ExtOk Tryz.prog 42 (memoHook nargs42 nnext42 nfrom42 nval42 nnextto42 nto42) := memo_ok rr_ok run42
end Go.Proofs.YtbepgibkcmmfeaaGreat
