/-
  The function lives of the law's package returns true on every heap; no condition.
-/
import Derived.Test.YtbepgibkcmmfeaaGreatAbs6
import Derived.Test.YtbepgibkcmmfeaaGreatPut
import Derived.Test.YtbepgibkcmmfeaaGreatOpen
set_option linter.unusedVariables false
set_option linter.unusedSimpArgs false
open Go Go.Proofs.YtbepgibkcmmfeaaGreat.Abs
namespace Go.Proofs.YtbepgibkcmmfeaaGreat
noncomputable def KM : Hooks := addHook (addHook KK 42 (memoHook nargs42 nnext42 nfrom42 nval42 nnextto42 nto42)) 7 (memoHook nargs7 nnext7 nfrom7 nval7 nnextto7 nto7)
noncomputable def RM : Rec := runU Tryz.prog KM tab 100
set_option maxRecDepth 1000000 in
theorem run8 : isRet true (RM.call 8 [] ⟨0, .nil⟩) = true := by kernel_rfl
set_option maxHeartbeats 4000000 in
set_option maxRecDepth 1000000 in
theorem km_ok : HooksOk Tryz.prog KM := hooks_add (hooks_add kk_ok memo42) memo7
set_option maxHeartbeats 4000000 in
set_option maxRecDepth 1000000 in
theorem rm_ok : RecOk Tryz.prog RM := runU_ok km_ok (draw_ok km_ok mixed) nogor tab_ok tab_okU 100
set_option maxHeartbeats 4000000 in
set_option maxRecDepth 1000000 in
theorem lives8 : ExtOk Tryz.prog 8 (doneHook (.bool true)) := done_ok rm_ok run8
end Go.Proofs.YtbepgibkcmmfeaaGreat
