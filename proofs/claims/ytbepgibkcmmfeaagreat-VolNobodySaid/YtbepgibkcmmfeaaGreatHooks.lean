/-
  The functions of the library that the run meets are taken by what they come to: the facts of this translation; no condition.
-/
import Derived.Test.YtbepgibkcmmfeaaGreatAbs6
import Derived.Test.YtbepgibkcmmfeaaGreatCrc
import Derived.Test.YtbepgibkcmmfeaaGreatProg
import Derived.KernelRfl
set_option linter.unusedVariables false
set_option linter.unusedSimpArgs false
open Go Go.Proofs.YtbepgibkcmmfeaaGreat.Abs Go.Shelf
namespace Go.Proofs.YtbepgibkcmmfeaaGreat
def ren22 : Ren := ⟨fun x => match x with | 22 => 168 | 29 => 260 | 30 => 261 | 36 => 346 | 17 => 406 | n => n, fun x => match x with | 24 => 153 | 9 => 9 | 3 => 3 | 4 => 4 | 0 => 0 | n => n, fun n => n⟩
theorem lays22 : Lays2.n22 Tryz.prog ren22 := {
  mixed := by kernel_rfl
  f17 := Tryz.func406.trans (congrArg some (by kernel_rfl))
  f22 := Tryz.func168.trans (congrArg some (by kernel_rfl))
  f29 := Tryz.func260.trans (congrArg some (by kernel_rfl))
  f30 := Tryz.func261.trans (congrArg some (by kernel_rfl))
  f36 := Tryz.func346.trans (congrArg some (by kernel_rfl))
  t0 := Tryz.underlying0
  a0 := Tryz.isAgg0
  z0 := Tryz.sizeOf0
  v0 := Tryz.zeroValue0
  t3 := Tryz.underlying3
  a3 := Tryz.isAgg3
  z3 := Tryz.sizeOf3
  v3 := Tryz.zeroValue3
  t4 := Tryz.underlying4
  a4 := Tryz.isAgg4
  z4 := Tryz.sizeOf4
  v4 := Tryz.zeroValue4
  t9 := Tryz.underlying9
  a9 := Tryz.isAgg9
  z9 := Tryz.sizeOf9
  v9 := Tryz.zeroValue9
  t24 := Tryz.underlying153
  a24 := Tryz.isAgg153
  z24 := Tryz.sizeOf153
  v24 := Tryz.zeroValue153
  i9 := by kernel_rfl }
def ren33 : Ren := ⟨fun x => match x with | 33 => 137 | n => n, fun x => match x with | 22 => 103 | 23 => 5 | 3 => 3 | 4 => 4 | 0 => 0 | n => n, fun n => n⟩
theorem lays33 : SlLaysE.n33 Tryz.prog ren33 := {
  mixed := by kernel_rfl
  f33 := ⟨Tryz.f137.name, by kernel_rfl, Tryz.func137.trans (congrArg some (by kernel_rfl))⟩
  t0 := Tryz.underlying0
  a0 := Tryz.isAgg0
  z0 := Tryz.sizeOf0
  v0 := Tryz.zeroValue0
  t3 := Tryz.underlying3
  a3 := Tryz.isAgg3
  z3 := Tryz.sizeOf3
  v3 := Tryz.zeroValue3
  t4 := Tryz.underlying4
  a4 := Tryz.isAgg4
  z4 := Tryz.sizeOf4
  v4 := Tryz.zeroValue4
  t22 := Tryz.underlying103
  a22 := Tryz.isAgg103
  z22 := Tryz.sizeOf103
  v22 := Tryz.zeroValue103
  a23 := Tryz.isAgg5
  z23 := Tryz.sizeOf5 }
theorem n260 : (Tryz.f260.name == "runtime.NumGoroutine") = false := by kernel_rfl
theorem b260 : Tryz.f260.body.isNone = true := by kernel_rfl
theorem x260 : Extern.findNext Tryz.f260 = none := by kernel_rfl
theorem e260 : Extern.find Tryz.f260 = some (Extern.SlicesOverlaps.overlaps #[153, 153] #[4]) := by kernel_rfl
theorem n131 : (Tryz.f131.name == "runtime.NumGoroutine") = false := by kernel_rfl
theorem b131 : Tryz.f131.body.isNone = true := by kernel_rfl
theorem x131 : Extern.findNext Tryz.f131 = none := by kernel_rfl
theorem e131 : Extern.find Tryz.f131 = some (Extern.MapsClone.clone) := by kernel_rfl
theorem n484 : (Tryz.f484.name == "runtime.NumGoroutine") = false := by kernel_rfl
theorem b484 : Tryz.f484.body.isNone = true := by kernel_rfl
theorem x484 : Extern.findNext Tryz.f484 = none := by kernel_rfl
theorem e484 : Extern.find Tryz.f484 = some (Extern.BytealgCompare.compare) := by kernel_rfl
set_option maxHeartbeats 4000000 in
set_option maxRecDepth 1000000 in
theorem ins168 : ExtOk Tryz.prog 168 (hookInsert Tryz.prog 168) := by
  have h := insert_ok lays22
  have e : ren22.f 22 = 168 := rfl
  rw [e] at h
  exact h
set_option maxHeartbeats 4000000 in
set_option maxRecDepth 1000000 in
theorem eq137 : ExtOk Tryz.prog 137 equalHook := by
  have h := equal_ok lays33
  have e : ren33.f 33 = 137 := rfl
  rw [e] at h
  exact h
set_option maxHeartbeats 4000000 in
set_option maxRecDepth 1000000 in
theorem ovl260 : ExtOk Tryz.prog 260 overlapsHook :=
  overlaps_ok (st := 153) (bt := 4) (e := 9) (z := 1) Tryz.func260 n260 b260 x260 e260 (by kernel_rfl) (by kernel_rfl)
set_option maxHeartbeats 4000000 in
set_option maxRecDepth 1000000 in
theorem cln131 : ExtOk Tryz.prog 131 cloneHook :=
  clone_ok Tryz.func131 n131 b131 x131 e131
set_option maxHeartbeats 4000000 in
set_option maxRecDepth 1000000 in
theorem cmp484 : ExtOk Tryz.prog 484 cmpHook :=
  cmp_ok Tryz.func484 n484 b484 x484 e484
set_option maxHeartbeats 4000000 in
set_option maxRecDepth 1000000 in
theorem gor : allF gorOk Tryz.prog.funcs.toList = true := by kernel_rfl
set_option maxHeartbeats 4000000 in
set_option maxRecDepth 1000000 in
theorem mixed : Tryz.prog.follows .mixedOrders = true := by kernel_rfl
end Go.Proofs.YtbepgibkcmmfeaaGreat
