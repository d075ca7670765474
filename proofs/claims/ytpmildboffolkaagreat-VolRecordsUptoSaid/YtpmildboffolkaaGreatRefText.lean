/-
  The function Text of the reference returns a text's bytes, on every string of at most 2^46 bytes.
-/
import Derived.Test.YtpmildboffolkaaGreatRefVarint
import Derived.Test.YtpmildboffolkaaGreatGroups
set_option linter.unusedVariables false
set_option linter.unusedSimpArgs false
namespace Go.Proofs.YtpmildboffolkaaGreat
open Go.RowKit Go.Proofs.YtpmildboffolkaaGreat.VRec

set_option maxHeartbeats 1000000 in
set_option maxRecDepth 100000 in
theorem textr_ok (s : ByteArray) (w : World) (hs : s.size ≤ 70368744177664) :
    Calls Tryz.prog 29 #[.string s] w fun e w' => e = .returned (.string ⟨(text s.data.toList).toArray⟩) ∧ Below w.heap.size w w' := by
  have hV := venc_len (n := s.size) (by omega)
  have C := varintr_ok s.size w (by omega)
  obtain ⟨E, hE⟩ : ∃ E : ByteArray, E = ⟨(venc s.size).toArray⟩ := ⟨_, rfl⟩
  have hEz : E.size ≤ 10 := by rw [hE]; exact (show (venc s.size).toArray.size ≤ 10 by simpa using hV)
  rw [← hE] at C
  have HC : Aside (Calls Tryz.prog 74 #[.int .u64 s.size] w fun e w' => e = .returned (.string E) ∧ Below w.heap.size w w') := C
  have HE : Hid (E = ⟨(venc s.size).toArray⟩) := hE
  clear C hE hV
  go_enter Tryz.func29, Tryz.ntmps29
  go_wp2_with (go_at_call 74; refine Calls.mono HC.out ?_; rintro e w' ⟨rfl, h⟩; have H : Hid (Below w.heap.size w w') := h; clear h)
  go_ret
  refine ⟨?_, H.out⟩
  show Ending.returned (.string (E ++ s)) = _
  congr 2
  apply ByteArray.ext
  rw [ByteArray.data_append, HE.out]
  apply Array.ext'
  simp [text]
end Go.Proofs.YtpmildboffolkaaGreat
