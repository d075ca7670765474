/-
  Groups of seven bits from the last one on; the conditions stand in each theorem.
-/
import Derived.Test.YtpmildboffolkaaGreatNumbers
set_option linter.unusedVariables false
set_option linter.unusedSimpArgs false
namespace Go.Proofs.YtpmildboffolkaaGreat.VRec
theorem num_append : ∀ a b : Bs, num (a ++ b) = num a + 128 ^ a.length * num b
  | [], b => by simp [num]
  | c :: a, b => by
    have ih := num_append a b
    simp only [List.cons_append, num, List.length_cons]
    rw [ih, Nat.pow_succ, Nat.mul_add, ← Nat.mul_assoc, Nat.mul_comm 128 (128 ^ a.length), Nat.add_assoc]
theorem num_drop_le (l : Bs) (k : Nat) : num (l.drop k) ≤ num l := by
  have h := num_append (l.take k) (l.drop k)
  rw [List.take_append_drop] at h
  rw [h]
  have : 1 * num (l.drop k) ≤ 128 ^ (l.take k).length * num (l.drop k) := Nat.mul_le_mul_right _ (Nat.one_le_pow _ _ (by decide))
  omega
theorem num_drop_step {l : Bs} {g : Nat} {c : UInt8} (h : l[g]? = some c) : num (l.drop g) = c.toNat % 128 + 128 * num (l.drop (g + 1)) := by
  obtain ⟨hl, e⟩ := List.getElem?_eq_some_iff.1 h
  rw [List.drop_eq_getElem_cons hl, e]
  rfl
theorem num_take_bound {l : Bs} {i : Nat} (hi : i ≤ 9) (h : i < l.length) (h9 : ∀ c, l[i]? = some c → i = 9 → c = 1) : num (l.take (i + 1)) < 18446744073709551616 := by
  have e : l.take (i + 1) = l.take i ++ [l[i]] := by rw [List.take_succ_eq_append_getElem h]
  rw [e, num_append]
  have h1 := num_lt (l.take i)
  have h2 : (l.take i).length = i := by rw [List.length_take]; omega
  rw [h2] at h1 ⊢
  have h3 : num [l[i]] = l[i].toNat % 128 := by simp [num]
  rw [h3]
  by_cases hi9 : i = 9
  · subst hi9
    have := h9 _ (List.getElem?_eq_getElem h) rfl
    rw [this]
    have e2 : (1 : UInt8).toNat % 128 = 1 := by decide
    rw [e2]
    have e3 : (128 : Nat) ^ 9 = 9223372036854775808 := by decide
    rw [e3] at h1 ⊢
    omega
  · have h4 : l[i].toNat % 128 < 128 := Nat.mod_lt _ (by decide)
    have h5 := pow_bound h1 h4
    have h6 := pow_le (k := i + 1) (by omega)
    omega
/-- what is known of the bytes before i: groups that go on -/
def Goes (L : Bs) (i : Nat) : Prop := ∀ k c, L[k]? = some c → k < i → 128 ≤ c.toNat
theorem goes_front : ∀ {L : Bs} {i : Nat}, Goes L i → i ≤ 9 → i ≤ L.length → ∃ X, Front L i X := by
  intro L i
  induction i with
  | zero => intro _ _ _; exact ⟨0, front_zero L⟩
  | succ i ih =>
    intro h hi hl
    obtain ⟨X, hX⟩ := ih (fun k c hk hki => h k c hk (by omega)) (by omega) (by omega)
    have hd : L.drop i = L[i] :: L.drop (i + 1) := List.drop_eq_getElem_cons (by omega)
    exact ⟨_, front_more hX hd rfl (by omega) (h i _ (List.getElem?_eq_getElem (by omega)) (by omega))⟩
theorem goes_none_end {L : Bs} {i : Nat} (h : Goes L i) (hi : i ≤ 9) (hl : i = L.length) : rv 0 L = none := by
  obtain ⟨X, hX⟩ := goes_front h hi (by omega)
  exact front_end hX (by omega)
theorem goes_none_form {L : Bs} {i : Nat} {c : UInt8} (h : Goes L i) (hi : i = 9) (hc : L[i]? = some c) (hne : c ≠ 1) : rv 0 L = none := by
  obtain ⟨hl, e⟩ := List.getElem?_eq_some_iff.1 hc
  obtain ⟨X, hX⟩ := goes_front h (by omega) (by omega)
  exact front_form hX (by rw [List.drop_eq_getElem_cons hl, e]) hi hne
theorem goes_none_zero {L : Bs} {i : Nat} {c : UInt8} (h : Goes L i) (hi : i ≤ 9) (h0 : 0 < i) (hc : L[i]? = some c) (hz : c = 0) : rv 0 L = none := by
  obtain ⟨hl, e⟩ := List.getElem?_eq_some_iff.1 hc
  obtain ⟨X, hX⟩ := goes_front h hi (by omega)
  exact front_zeroC hX (by rw [List.drop_eq_getElem_cons hl, e]) h0 hz
theorem goes_next {L : Bs} {i : Nat} {c : UInt8} (h : Goes L i) (hc : L[i]? = some c) (hb : 128 ≤ c.toNat) : Goes L (i + 1) := by
  intro k d hk hki
  by_cases e : k = i
  · subst e
    rw [hc] at hk
    cases hk
    exact hb
  · exact h k d hk (by omega)
theorem goes_last {L : Bs} {i : Nat} {c : UInt8} (h : Goes L i) (hi : i ≤ 9) (hc : L[i]? = some c) (hb : c.toNat < 128) (h9 : i = 9 → c = 1) (h0 : c = 0 → i = 0) : rv 0 L = some (num (L.take (i + 1)), i + 1) := by
  obtain ⟨hl, e⟩ := List.getElem?_eq_some_iff.1 hc
  refine rv_num L 0 i h (fun d hd => ?_) hl (by omega) (fun d hd he => ?_)
  · rw [hc] at hd; cases hd; exact ⟨hb, fun e => by have := h0 e; omega⟩
  · rw [hc] at hd; cases hd; exact h9 (by omega)
theorem at_byte {s : ByteArray} {k : Nat} (hk : k < s.size) : s.data.toList[k]? = some s[k] := by
  have h : k < s.data.toList.length := by simpa using hk
  rw [List.getElem?_eq_getElem h]
  rfl
end Go.Proofs.YtpmildboffolkaaGreat.VRec
