/-
  A writer's block and the bytes that it has written; the conditions stand in each theorem.
-/
import Derived.Test.YtpmildboffolkaaGreatOwned
import Derived.Lib.AppendStr
set_option linter.unusedVariables false
set_option linter.unusedSimpArgs false
namespace Go.Proofs.YtpmildboffolkaaGreat.VRec
open Go Go.RowKit

/-- Bytes as cells. -/
def cb (l : Bs) : List Value := l.map fun b => Value.int .u8 b.toNat
theorem cb_len (l : Bs) : (cb l).length = l.length := by simp [cb]
theorem cb_append (a b : Bs) : cb (a ++ b) = cb a ++ cb b := by simp [cb]
theorem cb_one (l : Bs) : ∀ u ∈ cb l, u.oneCell' = true := by
  intro u hu
  simp only [cb, List.mem_map] at hu
  obtain ⟨b, _, rfl⟩ := hu
  rfl
theorem cb_str (s : ByteArray) : Lib.strCells s = cb s.data.toList := rfl
theorem cb_at {l : Bs} {j : Nat} (hj : j < l.length) : (cb l)[j]? = some (.int .u8 (l[j].toNat : Int)) := by
  simp [cb, hj]

/-- A writer with bytes written: w's block wb of type t; v owns the bytes. -/
structure Wr (t e : TypeId) (w : World) (wb B m : Nat) (v : Value) (bs : Bs) : Prop where
  blk : At w wb t #[.int .i64 m, v, .bool false]
  own : w.ownsRow B e 1 v bs.length (cb bs)
  ne : t ≠ e
  lo : B ≤ wb
section
variable {t e : TypeId} {w w' : World} {wb B m : Nat} {v : Value} {bs : Bs}
/-- What may turn at a write. -/
def Turns (wb : Nat) (v : Value) (i : Nat) : Prop := i = wb ∨ v.ownBlock = some i
theorem Wr.base (h : Wr t e w wb B m v bs) : B ≤ w.heap.size := Nat.le_of_lt (Nat.lt_of_le_of_lt h.lo h.blk.lt)
theorem Wr.noTurns (h : Wr t e w wb B m v bs) {b : Nat} {t' : TypeId} {cs : Array Value} (ha : At w b t' cs) (h1 : e ≠ t') (h2 : t ≠ t') : ¬ Turns wb v b := by
  rintro (rfl | he)
  · exact At.ne h.blk ha h2 rfl
  · exact own_ne h.own ha h1 he
theorem Wr.below (h : Wr t e w wb B m v bs) (o : Only (Turns wb v) w w') : Below B w w' :=
  o.below h.base fun i hi ht => by
    rcases ht with rfl | he
    · exact absurd h.lo (by omega)
    · have := (own_lt h.own he).2; omega
theorem Wr.only (h : Wr t e w wb B m v bs) {S : Nat → Prop} (o : Only S w w') (h1 : ¬ S wb) (h2 : ∀ g, v.ownBlock = some g → ¬ S g) : Wr t e w' wb B m v bs :=
  ⟨o.at h.blk h1, own_only h.own o h2, h.ne, h.lo⟩
theorem Wr.alloc (h : Wr t e w wb B m v bs) (o : Obj) : Wr t e (w.alloc o) wb B m v bs :=
  h.only ((Only.refl (fun _ => False) w).alloc o) id (fun _ _ => id)
theorem Wr.drewN (h : Wr t e w wb B m v bs) (n : Nat) : Wr t e (w.drewN n) wb B m v bs :=
  h.only ((Only.refl (fun _ => False) w).drewN n) id (fun _ _ => id)
theorem Wr.len (h : Wr t e w wb B m v bs) : ∃ ao cv, v = .slice ao bs.length cv := by
  obtain ⟨ao, cv, e1, _⟩ := own_slice h.own
  exact ⟨ao, cv, e1⟩
/-- what is written -/
theorem Wr.put {ad : List Value} {v' : Value} {w1 : World} {cs : Bs} (h : Wr t e w wb B m v bs) (hown : w1.ownsRow B e 1 v' (bs.length + cs.length) (cb bs ++ cb cs)) (hg : w.grownBy w1 v.ownBlock) (_ : ad = []) :
    Wr t e (w1.setCell ⟨wb, 1, none⟩ v') wb B m v' (bs ++ cs) ∧ Only (Turns wb v) w (w1.setCell ⟨wb, 1, none⟩ v') := by
  have hb1 : At w1 wb t #[.int .i64 m, v, .bool false] := h.blk.grown hg fun e => own_ne h.own h.blk (fun x => h.ne x.symm) e.symm
  have o1 : Only (Turns wb v) w w1 := Only.of_grown hg fun g hg _ => Or.inr hg
  refine ⟨⟨hb1.put 1 v', ?_, h.ne, h.lo⟩, o1.set (fun _ => Or.inl rfl) _⟩
  rw [List.length_append, cb_append]
  refine own_only hown ((Only.refl (· = wb) w1).set (p := ⟨wb, 1, none⟩) (fun _ => rfl) v') fun g hg e => ?_
  exact own_ne hown hb1 (fun x => h.ne x.symm) (by rw [hg]; exact congrArg some e)
end
end Go.Proofs.YtpmildboffolkaaGreat.VRec
