/-
  What holds at each round's head of the reference's loop; the conditions stand in each theorem.
-/
import Derived.Test.YtpmildboffolkaaGreatRefTextIn
import Derived.Test.YtpmildboffolkaaGreatEntries
set_option linter.unusedVariables false
set_option linter.unusedSimpArgs false
namespace Go.Proofs.YtpmildboffolkaaGreat
open Go.RowKit Go.Proofs.YtpmildboffolkaaGreat.VRec

/-- the loop of the reference's Entries: what holds at each round's head -/
structure RoundR (B : Nat) (L : Bs) (w0 w : World) (R : ByteArray) (xs : List BE) (v : Value) : Prop where
  own : w.ownsRow B 29 3 v xs.length (cellsE xs)
  low : Below B w0 w
  to : ents leK (xs.map BE.ent) R.data.toList = ents leK [] L
  size : xs.length + R.size ≤ L.length
section
variable {B : Nat} {L : Bs} {w0 w : World} {R R1 : ByteArray} {xs : List BE} {v : Value} {c : UInt8}
theorem RoundR.fail (h : RoundR B L w0 w R xs v) (hL : R.data.toList = c :: R1.data.toList) (ho : oneIn (c :: R1.data.toList) = none) : ents leK [] L = none := by
  rw [← h.to, hL]
  exact ents_none leK _ (by simp) ho
theorem RoundR.lowFail {A R2 : ByteArray} {y : BE} {l' : List BE} (h : RoundR B L w0 w R xs v) (hL : R.data.toList = c :: R1.data.toList) (ht : txt R1.data.toList = some (A.data.toList, R2.data.toList)) (hx : xs = l' ++ [y])
    (hb : leK A.data.toList y.k.data.toList = true) : ents leK [] L = none := by
  rw [← h.to, hL]
  have hlow : Go.Proofs.YtpmildboffolkaaGreat.VRec.low leK (xs.map BE.ent) A.data.toList = true := by rw [hx, low_last]; exact hb
  cases ho : oneIn (c :: R1.data.toList) with
  | none => exact ents_none leK _ (by simp) ho
  | some p =>
    obtain ⟨x, r⟩ := p
    have hk : x.key = A.data.toList := by
      rw [oneIn_cons, ht] at ho
      split at ho
      · simp only at ho
        split at ho
        · cases ho
        · cases ho; rfl
      · split at ho
        · cases ho; rfl
        · cases ho
    exact ents_low leK _ ho (by rw [hk]; exact hlow)
theorem RoundR.next {R' : ByteArray} {r : Bs} {x : BE} {v' : Value} {W : World} (h : RoundR B L w0 w R xs v) (hL : R.data.toList = c :: R1.data.toList) (ho : oneIn (c :: R1.data.toList) = some (x.ent, r)) (hr : R'.data.toList = r)
    (hlow : xs = [] ∨ ∃ l' y, xs = l' ++ [y] ∧ leK x.k.data.toList y.k.data.toList = false)
    (own : W.ownsRow B 29 3 v' (xs.length + 1) (cellsE xs ++ [.string x.k, .string x.v, .bool x.g])) (low : Below B w0 W) : RoundR B L w0 W R' (xs ++ [x]) v' := by
  refine ⟨by rw [cellsE_snoc, List.length_append]; exact own, low, ?_, ?_⟩
  · rw [← h.to, hL, hr, List.map_append]
    refine (ents_step leK _ ho ?_).symm
    rcases hlow with e | ⟨l', y, e, hb⟩
    · subst e; rfl
    · rw [e, low_last]
      exact hb
  · have h1 := h.size
    have h2 := (oneIn_len ho).1
    rw [← hL, ← hr] at h2
    simp only [List.length_append, List.length_cons, List.length_nil]
    simp at h2
    omega
end
end Go.Proofs.YtpmildboffolkaaGreat
