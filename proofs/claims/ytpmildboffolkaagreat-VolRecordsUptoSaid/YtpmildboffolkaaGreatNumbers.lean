/-
  A number read from the front of a list of bytes, group by group; the conditions stand in each theorem.
-/
import Derived.Test.YtpmildboffolkaaGreatBytes
set_option linter.unusedVariables false
set_option linter.unusedSimpArgs false
namespace Go.Proofs.YtpmildboffolkaaGreat.VRec

/-! ## Reading a number from the front: what is known behind k bytes -/
def Front (L : Bs) (k X : Nat) : Prop := rv 0 L = (rv k (L.drop k)).map fun p => (X + 128 ^ k * p.1, k + p.2)
theorem front_zero (L : Bs) : Front L 0 0 := by
  unfold Front
  cases h : rv 0 L with
  | none => simp [h]
  | some p => simp [h]
theorem drop_at {s : ByteArray} {k : Nat} (hk : k < s.size) : s.data.toList.drop k = s[k] :: s.data.toList.drop (k + 1) := by
  have h : k < s.data.toList.length := by simpa using hk
  rw [List.drop_eq_getElem_cons h]
  rfl
theorem front_form {L r : Bs} {k X : Nat} {c : UInt8} (h : Front L k X) (hd : L.drop k = c :: r) (hk : k = 9) (hc : c ≠ 1) : rv 0 L = none := by
  unfold Front at h
  rw [h, hd]
  simp [rv, hk, hc]
theorem front_zeroC {L r : Bs} {k X : Nat} {c : UInt8} (h : Front L k X) (hd : L.drop k = c :: r) (hk : 0 < k) (hc : c = 0) : rv 0 L = none := by
  unfold Front at h
  rw [h, hd]
  subst hc
  by_cases h9 : k = 9
  · simp [rv, h9]
  · simp [rv, h9, hk]
theorem front_last {L r : Bs} {k X : Nat} {c : UInt8} (h : Front L k X) (hd : L.drop k = c :: r) (h9 : k = 9 → c = 1) (hc : c.toNat < 128) (h0 : c = 0 → k = 0) : rv 0 L = some (X + 128 ^ k * c.toNat, k + 1) := by
  unfold Front at h
  rw [h, hd]
  have e1 : ¬ (k = 9 ∧ c ≠ 1) := fun ⟨a, b⟩ => b (h9 a)
  have e2 : ¬ (c = 0 ∧ 0 < k) := fun ⟨a, b⟩ => by have := h0 a; omega
  rw [rv, if_neg e1, if_pos hc, if_neg e2]
  rfl
theorem front_more {L r : Bs} {k X : Nat} {c : UInt8} (h : Front L k X) (hd : L.drop k = c :: r) (hr : L.drop (k + 1) = r) (h9 : k ≠ 9) (hc : 128 ≤ c.toNat) : Front L (k + 1) (X + 128 ^ k * (c.toNat - 128)) := by
  unfold Front at h ⊢
  rw [h, hd, hr]
  have e1 : ¬ (k = 9 ∧ c ≠ 1) := fun ⟨a, _⟩ => h9 a
  have e2 : ¬ c.toNat < 128 := Nat.not_lt.2 hc
  rw [rv, if_neg e1, if_neg e2]
  cases rv (k + 1) r with
  | none => simp only [Option.map_none]
  | some p =>
    simp only [Option.map_some, Option.some.injEq, Prod.mk.injEq]
    refine ⟨?_, by omega⟩
    rw [Nat.pow_succ, Nat.mul_add, ← Nat.mul_assoc, ← Nat.add_assoc]
theorem front_end {L : Bs} {k X : Nat} (h : Front L k X) (hk : L.length ≤ k) : rv 0 L = none := by
  unfold Front at h
  rw [h, List.drop_eq_nil_of_le hk]
  rfl
theorem pow_bound {k X c : Nat} (hX : X < 128 ^ k) (hc : c < 128) : X + 128 ^ k * c < 128 ^ (k + 1) := by
  have h : 128 ^ (k + 1) = 128 ^ k * 128 := Nat.pow_succ ..
  have h2 : 128 ^ k * c ≤ 128 ^ k * 127 := Nat.mul_le_mul_left _ (by omega)
  omega
theorem pow_le {k : Nat} (hk : k ≤ 9) : 128 ^ k ≤ 9223372036854775808 := by
  have : 128 ^ k ≤ 128 ^ 9 := Nat.pow_le_pow_right (by decide) hk
  exact Nat.le_trans this (by decide)

/-! ## The number of some groups, the last one first -/
def num : Bs → Nat
  | [] => 0
  | c :: r => c.toNat % 128 + 128 * num r
theorem num_lt : ∀ l : Bs, num l < 128 ^ l.length
  | [] => by simp [num]
  | c :: r => by
    have h := num_lt r
    have h2 : c.toNat % 128 < 128 := Nat.mod_lt _ (by decide)
    simp only [num, List.length_cons, Nat.pow_succ]
    omega
/-- where the first byte below 128 stands, the number is that of all up to there -/
theorem rv_num : ∀ (l : Bs) (j : Nat) (i : Nat), (∀ k c, l[k]? = some c → k < i → 128 ≤ c.toNat) → (∀ c, l[i]? = some c → c.toNat < 128 ∧ (c = 0 → i + j = 0)) → i < l.length → i + j ≤ 9 → (∀ c, l[i]? = some c → i + j = 9 → c = 1) →
    rv j l = some (num (l.take (i + 1)), i + 1)
  | [], _, _, _, _, h, _, _ => by simp at h
  | c :: r, j, 0, _, h2, _, _, h9 => by
    have h := h2 c rfl
    have e1 : ¬ (j = 9 ∧ c ≠ 1) := fun ⟨a, b⟩ => b (h9 c rfl (by omega))
    have e2 : ¬ (c = 0 ∧ 0 < j) := fun ⟨a, b⟩ => by have := h.2 a; omega
    rw [rv, if_neg e1, if_pos h.1, if_neg e2]
    simp [num, Nat.mod_eq_of_lt h.1]
  | c :: r, j, i + 1, h1, h2, hl, hi, h9 => by
    have hc : 128 ≤ c.toNat := h1 0 c rfl (by omega)
    have e1 : ¬ (j = 9 ∧ c ≠ 1) := fun ⟨a, _⟩ => by omega
    have e2 : ¬ c.toNat < 128 := Nat.not_lt.2 hc
    rw [rv, if_neg e1, if_neg e2]
    have ih := rv_num r (j + 1) i (fun k d hk hki => h1 (k + 1) d (by simpa using hk) (by omega)) (fun d hd => by
      have := h2 d (by simpa using hd)
      exact ⟨this.1, fun e => by have := this.2 e; omega⟩) (by simpa using hl) (by omega) (fun d hd e => h9 d (by simpa using hd) (by omega))
    rw [ih]
    have hlt : c.toNat < 256 := c.toNat_lt
    have e3 : c.toNat % 128 = c.toNat - 128 := by omega
    simp only [Option.map_some, List.take_succ_cons, num, e3]
end Go.Proofs.YtpmildboffolkaaGreat.VRec
