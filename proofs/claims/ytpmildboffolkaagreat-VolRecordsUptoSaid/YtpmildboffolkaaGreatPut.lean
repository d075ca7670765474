/-
  The call of put within lives, from the heap that DataPut writes out, ends in the heap that it writes out; no condition.
-/
import Derived.Test.YtpmildboffolkaaGreatRun
import Derived.Test.YtpmildboffolkaaGreatDataPut
set_option linter.unusedVariables false
set_option linter.unusedSimpArgs false
open Go Go.Proofs.YtpmildboffolkaaGreat.Abs
namespace Go.Proofs.YtpmildboffolkaaGreat
set_option maxRecDepth 1000000 in
theorem run19_2641 : memoGood nval19_2641 nnextto19_2641 nto19_2641 (RR.call 19 nargs19_2641 (heapL nnext19_2641 nfrom19_2641)) = true := by kernel_rfl
set_option maxHeartbeats 4000000 in
set_option maxRecDepth 1000000 in
theorem memo19_2641 : ExtOk Tryz.prog 19 (memoHook nargs19_2641 nnext19_2641 nfrom19_2641 nval19_2641 nnextto19_2641 nto19_2641) := memo_ok rr_ok run19_2641
end Go.Proofs.YtpmildboffolkaaGreat
