/-
  The function lives of the law's package returns true on every heap; no condition.
-/
import Derived.Test.YtpmildboffolkaaGreatPut
import Derived.Test.YtpmildboffolkaaGreatOpen
set_option linter.unusedVariables false
set_option linter.unusedSimpArgs false
open Go Go.Proofs.YtpmildboffolkaaGreat.Abs
namespace Go.Proofs.YtpmildboffolkaaGreat
noncomputable def KM : Hooks := (addHook (addHook KK 19 (memoHook nargs19_2641 nnext19_2641 nfrom19_2641 nval19_2641 nnextto19_2641 nto19_2641)) 23 (memoHook nargs23_15883 nnext23_15883 nfrom23_15883 nval23_15883 nnextto23_15883 nto23_15883))
set_option maxHeartbeats 4000000 in
set_option maxRecDepth 1000000 in
theorem km_ok : HooksOk Tryz.prog KM := (hooks_add (hooks_add kk_ok memo19_2641) memo23_15883)
noncomputable def RM : Rec := runU Tryz.prog KM tab 100
set_option maxHeartbeats 4000000 in
set_option maxRecDepth 1000000 in
theorem rm_ok : RecOk Tryz.prog RM := runU_ok km_ok (draw_ok km_ok mixed) nogor tab_ok tab_okU 100
set_option maxRecDepth 1000000 in
theorem runLives : isRet true (RM.call 6 [] ⟨0, .nil⟩) = true := by kernel_rfl
set_option maxHeartbeats 4000000 in
set_option maxRecDepth 1000000 in
theorem livesOk : ExtOk Tryz.prog 6 (doneHook (.bool true)) := done_ok rm_ok runLives
end Go.Proofs.YtpmildboffolkaaGreat
