/-
  The row of VolRecords, second form: its closed facts; no condition.
-/
import Derived.Test.YtpmildboffolkaaGreatFacts0
import Derived.Test.YtpmildboffolkaaGreatRows
import Derived.KernelRfl
set_option linter.unusedVariables false
set_option linter.unusedSimpArgs false
open Go Go.Proofs.YtpmildboffolkaaGreat.Abs
namespace Go.Proofs.YtpmildboffolkaaGreat
set_option maxRecDepth 1000000 in
theorem j0 : (Rows.volRecordsUptoRow.wf (OpenSpec.ofChange (Rows.OpenSpec.upto Rows.volRecordsSpec).bare)) = true := by kernel_rfl
set_option maxRecDepth 1000000 in
theorem j1 : (laidOutB Tryz.checked.prog) = true := by kernel_rfl
set_option maxRecDepth 1000000 in
theorem j2 : (mapsRowed Tryz.checked.prog) = true := by kernel_rfl
set_option maxRecDepth 1000000 in
theorem j3 : (Tryz.f3.params.all (Tryz.checked.prog.readableRec ·)) = true := by kernel_rfl
set_option maxRecDepth 1000000 in
theorem j4 : (namedTie Tryz.checked.prog Rows.volRecordsUptoRow.named (Rows.OpenSpec.upto Rows.volRecordsSpec).bare.vars) = true := by kernel_rfl
set_option maxRecDepth 1000000 in
theorem j5 : ((Rows.volRecordsUptoRow.stops == [])) = true := by kernel_rfl
set_option maxRecDepth 1000000 in
theorem j6 : ((Tryz.checked.prog.stops == [])) = true := by kernel_rfl
set_option maxRecDepth 1000000 in
theorem j7 : ((Rows.volRecordsUptoRow.knobs == [])) = true := by kernel_rfl
set_option maxRecDepth 1000000 in
theorem j8 : ((Tryz.checked.prog.stopKnobs == [])) = true := by kernel_rfl
set_option maxRecDepth 1000000 in
theorem j9 : ((Rows.volRecordsUptoRow.inPlace == Tryz.checked.prog.inPlace 3)) = true := by kernel_rfl
set_option maxRecDepth 1000000 in
theorem j10 : ((Rows.volRecordsUptoRow.unfollowed == Tryz.checked.prog.unfollowed 3)) = true := by kernel_rfl
set_option maxRecDepth 1000000 in
theorem j11 : ((Rows.volRecordsUptoRow.recurses == Tryz.checked.prog.recurses 3)) = true := by kernel_rfl
set_option maxRecDepth 1000000 in
theorem j12 : ((Rows.volRecordsUptoRow.named == Tryz.checked.prog.varsNamed 3)) = true := by kernel_rfl
set_option maxRecDepth 1000000 in
theorem j13 : ((Rows.volRecordsUptoRow.maps == (Tryz.f3.params.toList ++ (Rows.OpenSpec.upto Rows.volRecordsSpec).bare.plain.varTypes Tryz.checked.prog).any (Tryz.checked.prog.mapsRec ·))) = true := by kernel_rfl
set_option maxRecDepth 1000000 in
theorem j14 : ((Rows.volRecordsUptoRow.ifaces == (Tryz.f3.params.toList ++ (Rows.OpenSpec.upto Rows.volRecordsSpec).bare.plain.varTypes Tryz.checked.prog).any (Tryz.checked.prog.ifacesRec ·))) = true := by kernel_rfl
set_option maxRecDepth 1000000 in
theorem j15 : ((Rows.volRecordsUptoRow.mapsOut == Tryz.checked.prog.mapsAmong Tryz.f3.resultTypes.toList)) = true := by kernel_rfl
set_option maxRecDepth 1000000 in
theorem j16 : ((Rows.volRecordsUptoRow.loops == (Tryz.f3.params.toList ++ (Rows.OpenSpec.upto Rows.volRecordsSpec).bare.plain.varTypes Tryz.checked.prog).any (Tryz.checked.prog.loopsFrom ·))) = true := by kernel_rfl
set_option maxRecDepth 1000000 in
theorem j17 : ((Rows.volRecordsUptoRow.wideKeys == (Tryz.f3.params.toList ++ (Rows.OpenSpec.upto Rows.volRecordsSpec).bare.plain.varTypes Tryz.checked.prog ++ Tryz.f3.resultTypes.toList).any (Tryz.checked.prog.wideKeysFrom ·))) = true := by kernel_rfl
set_option maxRecDepth 1000000 in
theorem j18 : ((Rows.OpenSpec.upto Rows.volRecordsSpec).bare.vars.all (Tryz.checked.prog.varReadable ·)) = true := by kernel_rfl
set_option maxRecDepth 1000000 in
theorem j19 : (Tryz.f3.resultTypes.all (fun t => Tryz.checked.prog.readableRec t && decide (t < Tryz.checked.prog.types.size))) = true := by kernel_rfl
set_option maxRecDepth 1000000 in
theorem j20 : ((Rows.volRecordsUptoRow.ifacesOut == Tryz.f3.resultTypes.toList.any (Tryz.checked.prog.ifacesRec ·))) = true := by kernel_rfl
set_option maxRecDepth 1000000 in
theorem j21 : ((Rows.volRecordsUptoRow.loopsOut == Tryz.f3.resultTypes.toList.any (Tryz.checked.prog.loopsFrom ·))) = true := by kernel_rfl
set_option maxRecDepth 1000000 in
theorem j22 : ((Rows.volRecordsUptoRow.plainKeys == Tryz.checked.prog.plainKeys)) = true := by kernel_rfl
set_option maxRecDepth 1000000 in
theorem j23 : (Rows.volRecordsUptoRow.shortTexts.isNone) = true := by kernel_rfl
set_option maxRecDepth 1000000 in
theorem j24 : (Tryz.checked.prog.stopsHeard) = true := by kernel_rfl
set_option maxRecDepth 1000000 in
theorem j25 : (Tryz.checked.prog.mayEnter) = true := by kernel_rfl
set_option maxRecDepth 1000000 in
theorem j26 : ((Rows.volRecordsUptoRow.lifted == Tryz.checked.prog.liftsFinal)) = true := by kernel_rfl
set_option maxRecDepth 1000000 in
theorem j27 : ((Tryz.checked.prog.make == some Rows.volRecordsUptoRow.make)) = true := by kernel_rfl
set_option maxRecDepth 1000000 in
theorem j28 : ((Rows.volRecordsUptoRow.kinds == (if Rows.volRecordsUptoRow.domain.isEmpty then [] else Tryz.f3.params.toList.map fun t => match Tryz.checked.prog.underlying t with | some (.int k) => some k | _ => none))) = true := by kernel_rfl
set_option maxRecDepth 1000000 in
theorem j29 : ((Rows.volRecordsUptoRow.pinned == Rows.volRecordsUptoRow.pinnedBy)) = true := by kernel_rfl
set_option maxRecDepth 1000000 in
theorem j30 : ((Rows.volRecordsUptoRow.veiled == (Tryz.f3.params.toList ++ (Rows.OpenSpec.upto Rows.volRecordsSpec).bare.plain.varTypes Tryz.checked.prog ++ Tryz.f3.resultTypes.toList).any (Tryz.checked.prog.veiledRec ·))) = true := by kernel_rfl
set_option maxRecDepth 1000000 in
theorem j31 : (Rows.volRecordsUptoRow.veiledFits Tryz.checked.prog Tryz.f3.params.toList (Tryz.f3.params.toList ++ (Rows.OpenSpec.upto Rows.volRecordsSpec).bare.plain.varTypes Tryz.checked.prog ++ Tryz.f3.resultTypes.toList)) = true := by kernel_rfl
set_option maxHeartbeats 4000000 in
set_option maxRecDepth 1000000 in
theorem joined : joinedFacts Tryz.checked.prog 3 Tryz.f3 (Rows.OpenSpec.upto Rows.volRecordsSpec).bare Rows.volRecordsUptoRow = true := joined_of _ _ _ _ _ j0 j1 j2 j3 j4 j5 j6 j7 j8 j9 j10 j11 j12 j13 j14 j15 j16 j17 j18 j19 j20 j21 j22 j23 j24 j25 j26 j27 j28 j29 j30 j31
end Go.Proofs.YtpmildboffolkaaGreat
