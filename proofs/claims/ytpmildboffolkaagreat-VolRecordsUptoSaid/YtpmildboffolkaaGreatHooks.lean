/-
  The functions of the library that the run meets are taken by what they come to: the facts of this translation; no condition.
-/
import Derived.Test.YtpmildboffolkaaGreatAbs6
import Derived.Test.YtpmildboffolkaaGreatCrc
import Derived.Test.YtpmildboffolkaaGreatProg
import Derived.KernelRfl
set_option linter.unusedVariables false
set_option linter.unusedSimpArgs false
open Go Go.Proofs.YtpmildboffolkaaGreat.Abs Go.Shelf
namespace Go.Proofs.YtpmildboffolkaaGreat
def ren22 : Ren := ⟨fun x => match x with | 22 => 183 | 29 => 275 | 30 => 276 | 36 => 358 | 17 => 403 | n => n, fun x => match x with | 24 => 146 | 9 => 9 | 3 => 3 | 4 => 4 | 0 => 0 | n => n, fun n => n⟩
theorem lays22 : Lays2.n22 Tryz.prog ren22 := {
  mixed := by kernel_rfl
  f17 := Tryz.func403.trans (congrArg some (by kernel_rfl))
  f22 := Tryz.func183.trans (congrArg some (by kernel_rfl))
  f29 := Tryz.func275.trans (congrArg some (by kernel_rfl))
  f30 := Tryz.func276.trans (congrArg some (by kernel_rfl))
  f36 := Tryz.func358.trans (congrArg some (by kernel_rfl))
  t0 := Tryz.underlying0
  a0 := Tryz.isAgg0
  z0 := Tryz.sizeOf0
  v0 := Tryz.zeroValue0
  t3 := Tryz.underlying3
  a3 := Tryz.isAgg3
  z3 := Tryz.sizeOf3
  v3 := Tryz.zeroValue3
  t4 := Tryz.underlying4
  a4 := Tryz.isAgg4
  z4 := Tryz.sizeOf4
  v4 := Tryz.zeroValue4
  t9 := Tryz.underlying9
  a9 := Tryz.isAgg9
  z9 := Tryz.sizeOf9
  v9 := Tryz.zeroValue9
  t24 := Tryz.underlying146
  a24 := Tryz.isAgg146
  z24 := Tryz.sizeOf146
  v24 := Tryz.zeroValue146
  i9 := by kernel_rfl }
def ren33 : Ren := ⟨fun x => match x with | 33 => 231 | n => n, fun x => match x with | 22 => 111 | 23 => 5 | 3 => 3 | 4 => 4 | 0 => 0 | n => n, fun n => n⟩
theorem lays33 : SlLaysE.n33 Tryz.prog ren33 := {
  mixed := by kernel_rfl
  f33 := ⟨Tryz.f231.name, by kernel_rfl, Tryz.func231.trans (congrArg some (by kernel_rfl))⟩
  t0 := Tryz.underlying0
  a0 := Tryz.isAgg0
  z0 := Tryz.sizeOf0
  v0 := Tryz.zeroValue0
  t3 := Tryz.underlying3
  a3 := Tryz.isAgg3
  z3 := Tryz.sizeOf3
  v3 := Tryz.zeroValue3
  t4 := Tryz.underlying4
  a4 := Tryz.isAgg4
  z4 := Tryz.sizeOf4
  v4 := Tryz.zeroValue4
  t22 := Tryz.underlying111
  a22 := Tryz.isAgg111
  z22 := Tryz.sizeOf111
  v22 := Tryz.zeroValue111
  a23 := Tryz.isAgg5
  z23 := Tryz.sizeOf5 }
theorem n275 : (Tryz.f275.name == "runtime.NumGoroutine") = false := by kernel_rfl
theorem b275 : Tryz.f275.body.isNone = true := by kernel_rfl
theorem x275 : Extern.findNext Tryz.f275 = none := by kernel_rfl
theorem e275 : Extern.find Tryz.f275 = some (Extern.SlicesOverlaps.overlaps #[146, 146] #[4]) := by kernel_rfl
theorem n227 : (Tryz.f227.name == "runtime.NumGoroutine") = false := by kernel_rfl
theorem b227 : Tryz.f227.body.isNone = true := by kernel_rfl
theorem x227 : Extern.findNext Tryz.f227 = none := by kernel_rfl
theorem e227 : Extern.find Tryz.f227 = some (Extern.MapsClone.clone) := by kernel_rfl
theorem n480 : (Tryz.f480.name == "runtime.NumGoroutine") = false := by kernel_rfl
theorem b480 : Tryz.f480.body.isNone = true := by kernel_rfl
theorem x480 : Extern.findNext Tryz.f480 = none := by kernel_rfl
theorem e480 : Extern.find Tryz.f480 = some (Extern.BytealgCompare.compare) := by kernel_rfl
set_option maxHeartbeats 4000000 in
set_option maxRecDepth 1000000 in
theorem eqOk : ExtOk Tryz.prog 231 equalHook := by
  have h := equal_ok lays33
  have e : ren33.f 33 = 231 := rfl
  rw [e] at h
  exact h
set_option maxHeartbeats 4000000 in
set_option maxRecDepth 1000000 in
theorem ovlOk : ExtOk Tryz.prog 275 overlapsHook := 
  overlaps_ok (st := 146) (bt := 4) (e := 9) (z := 1) Tryz.func275 n275 b275 x275 e275 (by kernel_rfl) (by kernel_rfl)
set_option maxHeartbeats 4000000 in
set_option maxRecDepth 1000000 in
theorem clnOk : ExtOk Tryz.prog 227 cloneHook := clone_ok Tryz.func227 n227 b227 x227 e227
set_option maxHeartbeats 4000000 in
set_option maxRecDepth 1000000 in
theorem cmpOk : ExtOk Tryz.prog 480 cmpHook := cmp_ok Tryz.func480 n480 b480 x480 e480
set_option maxHeartbeats 4000000 in
set_option maxRecDepth 1000000 in
theorem insOk : ExtOk Tryz.prog 183 (hookInsert Tryz.prog 183) := by
  have h := insert_ok lays22
  have e : ren22.f 22 = 183 := rfl
  rw [e] at h
  exact h
set_option maxHeartbeats 4000000 in
set_option maxRecDepth 1000000 in
theorem gor : allF gorOk Tryz.prog.funcs.toList = true := by kernel_rfl
set_option maxHeartbeats 4000000 in
set_option maxRecDepth 1000000 in
theorem mixed : Tryz.prog.follows .mixedOrders = true := by kernel_rfl
end Go.Proofs.YtpmildboffolkaaGreat
