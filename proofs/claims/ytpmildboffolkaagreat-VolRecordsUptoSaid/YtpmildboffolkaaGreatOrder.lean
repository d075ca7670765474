/-
  The order of texts, entries in memory and as lists; the conditions stand in each theorem.
-/
import Derived.Test.YtpmildboffolkaaGreatBlocks
import Derived.Test.YtpmildboffolkaaGreatNumbers
import Derived.Deep.AppendLies
import Derived.Maps.AppendAt
import Derived.Lib.Strings
set_option linter.unusedVariables false
set_option linter.unusedSimpArgs false
namespace Go.Proofs.YtpmildboffolkaaGreat.VRec
open Go Go.RowKit

/-! ## The order of texts -/
theorem less_flip : ∀ a b : Bs, (!Op.bytesLess a b) = (Op.bytesLess b a || b == a)
  | [], [] => by simp [Op.bytesLess]
  | [], _ :: _ => by simp [Op.bytesLess]
  | _ :: _, [] => by simp [Op.bytesLess]
  | x :: a, y :: b => by
    have ih := less_flip a b
    simp only [Op.bytesLess]
    by_cases h1 : x < y
    · have h2 : ¬ y < x := UInt8.lt_asymm h1
      have h3 : y ≠ x := fun e => by subst e; exact UInt8.lt_irrefl _ h1
      simp [h1, h2, h3]
    · by_cases h2 : y < x
      · have h3 : x ≠ y := fun e => by subst e; exact UInt8.lt_irrefl _ h2
        simp [h1, h2, h3]
      · have h3 : x = y := by
          apply UInt8.toNat_inj.1
          rw [UInt8.lt_iff_toNat_lt] at h1 h2
          omega
        subst h3
        simp only [h1, decide_false, Bool.false_or, beq_self_eq_true, Bool.true_and]
        rw [ih]
        simp
/-- Is a key not above another one? -/
def leK (k y : Bs) : Bool := Op.bytesLess k y || k == y
theorem leK_geq (k y : Bs) : leK k y = !Op.bytesLess y k := (less_flip y k).symm

/-! ## Entries in memory -/
structure BE where
  k : ByteArray
  v : ByteArray
  g : Bool
def BE.ent (x : BE) : Ent := ⟨x.k.data.toList, x.v.data.toList, x.g⟩
def BE.cells (x : BE) : List Value := [.string x.k, .string x.v, .bool x.g]
def cellsE (l : List BE) : List Value := l.flatMap BE.cells
theorem cellsE_snoc (l : List BE) (x : BE) : cellsE (l ++ [x]) = cellsE l ++ x.cells := by simp [cellsE]
theorem cellsE_len : ∀ l : List BE, (cellsE l).length = l.length * 3
  | [] => rfl
  | x :: l => by
    have ih := cellsE_len l
    simp only [cellsE, List.flatMap_cons, List.length_append, List.length_cons] at ih ⊢
    rw [ih]
    simp [BE.cells]
    omega
theorem cellsE_at : ∀ (l : List BE) (i : Nat) (x : BE), l[i]? = some x → ∀ j, j < 3 → (cellsE l)[i * 3 + j]? = x.cells[j]?
  | [], i, x, h, _, _ => by simp at h
  | y :: l, 0, x, h, j, hj => by
    simp at h; subst h
    simp only [cellsE, List.flatMap_cons]
    rw [List.getElem?_append_left (by simp [BE.cells]; omega)]
    simp
  | y :: l, i + 1, x, h, j, hj => by
    have ih := cellsE_at l i x (by simpa using h) j hj
    simp only [cellsE, List.flatMap_cons] at ih ⊢
    rw [List.getElem?_append_right (by simp [BE.cells]; omega)]
    rw [← ih]
    congr 1
    simp [BE.cells]
    omega
theorem cellsE_one (l : List BE) : ∀ u ∈ cellsE l, u.oneCell' = true := by
  intro u hu
  simp only [cellsE, List.mem_flatMap] at hu
  obtain ⟨x, _, hx⟩ := hu
  simp [BE.cells] at hx
  rcases hx with rfl | rfl | rfl <;> rfl
theorem low_last (le : Bs → Bs → Bool) (l : List BE) (y : BE) (k : Bs) : low le ((l ++ [y]).map BE.ent) k = le k y.k.data.toList := by
  simp [low, BE.ent]
theorem low_nil (le : Bs → Bs → Bool) (k : Bs) : low le [] k = false := rfl
theorem last_at {l : List BE} (h : 0 < l.length) : ∃ l' y, l = l' ++ [y] ∧ l[l.length - 1]? = some y := by
  rcases List.eq_nil_or_concat l with e | ⟨l', y, e⟩
  · subst e; simp at h
  · rw [List.concat_eq_append] at e
    subst e
    exact ⟨l', y, rfl, by simp⟩
end Go.Proofs.YtpmildboffolkaaGreat.VRec
