/-
  The call of Open within lives, from the heap that DataOpen writes out, ends in the heap that it writes out; no condition.
-/
import Derived.Test.YtpmildboffolkaaGreatRun
import Derived.Test.YtpmildboffolkaaGreatDataOpen
set_option linter.unusedVariables false
set_option linter.unusedSimpArgs false
open Go Go.Proofs.YtpmildboffolkaaGreat.Abs
namespace Go.Proofs.YtpmildboffolkaaGreat
set_option maxRecDepth 1000000 in
theorem run23_15883 : memoGood nval23_15883 nnextto23_15883 nto23_15883 (RR.call 23 nargs23_15883 (heapL nnext23_15883 nfrom23_15883)) = true := by kernel_rfl
set_option maxHeartbeats 4000000 in
set_option maxRecDepth 1000000 in
theorem memo23_15883 : ExtOk Tryz.prog 23 (memoHook nargs23_15883 nnext23_15883 nfrom23_15883 nval23_15883 nnextto23_15883 nto23_15883) := memo_ok rr_ok run23_15883
end Go.Proofs.YtpmildboffolkaaGreat
