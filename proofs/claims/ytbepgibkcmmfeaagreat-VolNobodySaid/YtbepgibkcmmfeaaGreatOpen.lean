/-
  The call of Open within lives, from the heap that Data7 writes out, ends in the heap that it writes out; no condition.
-/
import Derived.Test.YtbepgibkcmmfeaaGreatRun
import Derived.Test.YtbepgibkcmmfeaaGreatData7
set_option linter.unusedVariables false
set_option linter.unusedSimpArgs false
open Go Go.Proofs.YtbepgibkcmmfeaaGreat.Abs
namespace Go.Proofs.YtbepgibkcmmfeaaGreat
set_option maxRecDepth 1000000 in
theorem run7 : memoGood nval7 nnextto7 nto7 (RR.call 7 nargs7 (heapL nnext7 nfrom7)) = true := by kernel_rfl
set_option maxHeartbeats 4000000 in
set_option maxRecDepth 1000000 in
theorem memo7 : ExtOk Tryz.prog 7 (memoHook nargs7 nnext7 nfrom7 nval7 nnextto7 nto7) := memo_ok rr_ok run7
end Go.Proofs.YtbepgibkcmmfeaaGreat
