/-
  The law VolNobody returns true on every slice and leaves all old memory as it was; the slice is nil or lies in one block.
-/
import Derived.Test.YtbepgibkcmmfeaaGreatLives
set_option linter.unusedVariables false
set_option linter.unusedSimpArgs false
open Go Go.Proofs.YtbepgibkcmmfeaaGreat.Abs Go.RowKit
namespace Go.Proofs.YtbepgibkcmmfeaaGreat
noncomputable def K3 : Hooks := addHook KK 8 (doneHook (.bool true))
noncomputable def R3 : Rec := runU Tryz.prog K3 tab 100
set_option maxRecDepth 1000000 in
theorem run3 (x : AV) : isRet true (R3.call 3 [x] ⟨1, .nil⟩) = true := by kernel_rfl
set_option maxHeartbeats 4000000 in
set_option maxRecDepth 1000000 in
theorem k3_ok : HooksOk Tryz.prog K3 := hooks_add kk_ok lives8
set_option maxHeartbeats 4000000 in
set_option maxRecDepth 1000000 in
theorem r3_ok : RecOk Tryz.prog R3 := runU_ok k3_ok (draw_ok k3_ok mixed) nogor tab_ok tab_okU 100
set_option maxHeartbeats 4000000 in
set_option maxRecDepth 1000000 in
theorem walk3 (a : Option Addr) (len cap : Nat) (h : (a = none ∧ len = 0 ∧ cap = 0) ∨ ∃ c off, a = some ⟨c, off, none⟩ ∧ len ≤ cap) (w : World) :
    Calls Tryz.prog 3 #[.slice a len cap] w fun e w' => e = .returned (.bool true) ∧ Below w.heap.size w w' := one_slice r3_ok run3 a len cap h w
end Go.Proofs.YtbepgibkcmmfeaaGreat
