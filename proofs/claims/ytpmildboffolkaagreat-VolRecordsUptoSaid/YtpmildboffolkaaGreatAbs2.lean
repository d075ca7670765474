/-
  What the interpreter's heaps, values and pure operations stand for in the model; the conditions stand in each theorem.
-/
import Derived.Test.YtpmildboffolkaaGreatAbs1
import Derived.Laws.Sem
import Derived.Laws.World
import GoSem.Dispatch
import Derived.Laws.Strings
import Derived.Laws.Cells
import Derived.Laws.Tables
import Derived.Laws.Rows
import Derived.Laws.CopyRow
import Derived.Laws.StructEq
import Derived.ChangeKeysEq
import Derived.LaidEql
import Derived.CallsIn
import Derived.Laws.Build
set_option linter.unusedVariables false
set_option linter.unusedSimpArgs false
namespace Go.Proofs.YtpmildboffolkaaGreat.Abs

/-! ## Tries -/
namespace Tr
variable {α : Type}

@[simp] theorem val_node (v : Option α) (l r : Tr α) : (node v l r).val = v := rfl
@[simp] theorem left_node (v : Option α) (l r : Tr α) : (node v l r).left = l := rfl
@[simp] theorem right_node (v : Option α) (l r : Tr α) : (node v l r).right = r := rfl
@[simp] theorem val_nil : (nil : Tr α).val = none := rfl
@[simp] theorem left_nil : (nil : Tr α).left = nil := rfl
@[simp] theorem right_nil : (nil : Tr α).right = nil := rfl

theorem getC_nil : ∀ (f k : Nat), (getC f k).run (nil : Tr α) = none
  | 0, _ => rfl
  | f + 1, 0 => rfl
  | f + 1, k + 1 => by
    simp only [getC]
    split <;> simp [getC_nil f]

theorem getC_fuel : ∀ (f g k : Nat) (t : Tr α), k + 1 < 2 ^ f → k + 1 < 2 ^ g → (getC f k).run t = (getC g k).run t
  | 0, _, k, _, h, _ => by simp at h
  | _ + 1, 0, k, _, _, h => by simp at h
  | f + 1, g + 1, 0, t, _, _ => rfl
  | f + 1, g + 1, k + 1, t, hf, hg => by
    have h1 : k / 2 + 1 < 2 ^ f := by rw [Nat.pow_succ] at hf; omega
    have h2 : k / 2 + 1 < 2 ^ g := by rw [Nat.pow_succ] at hg; omega
    have e : ∀ s : Tr α, (getC f (Nat.div k 2)).run s = (getC g (Nat.div k 2)).run s := fun s => getC_fuel f g (k / 2) s h1 h2
    simp only [getC]
    cases hm : Nat.mod k 2 <;> simp only [e]

theorem get_setC : ∀ (f k k' : Nat) (x : Option α) (t : Tr α), k + 1 < 2 ^ f → ∀ g, (getC g k').run ((setC f k).run x t) = if k' = k ∧ k' + 1 < 2 ^ g then x else (getC g k').run t
  | 0, k, _, _, _, h, _ => by simp at h
  | f + 1, k, k', x, t, h, 0 => by simp [getC]
  | f + 1, 0, 0, x, t, h, g + 1 => by
    have hg : (1 : Nat) < 2 ^ (g + 1) := Nat.one_lt_two_pow (by omega)
    simp [setC, getC, hg]
  | f + 1, 0, k' + 1, x, t, h, g + 1 => by
    simp only [setC, getC]
    cases hm : Nat.mod k' 2 <;> simp
  | f + 1, k + 1, 0, x, t, h, g + 1 => by
    simp only [setC, getC]
    cases hm : Nat.mod k 2 <;> simp
  | f + 1, k + 1, k' + 1, x, t, h, g + 1 => by
    have h1 : Nat.div k 2 + 1 < 2 ^ f := by
      show k / 2 + 1 < 2 ^ f
      rw [Nat.pow_succ] at h; omega
    have ih := fun s => get_setC f (Nat.div k 2) (Nat.div k' 2) x s h1 g
    have hp : (k' + 1 + 1 < 2 ^ (g + 1)) ↔ (Nat.div k' 2 + 1 < 2 ^ g) := by
      show _ ↔ k' / 2 + 1 < 2 ^ g
      rw [Nat.pow_succ]; omega
    have hdm : ∀ a b : Nat, (Nat.div a 2 = Nat.div b 2 ∧ Nat.mod a 2 = Nat.mod b 2) ↔ a = b := by
      intro a b
      show (a / 2 = b / 2 ∧ a % 2 = b % 2) ↔ a = b
      omega
    simp only [setC, getC]
    cases hm : Nat.mod k 2 with
    | zero =>
      cases hm' : Nat.mod k' 2 with
      | zero =>
        simp only [left_node, ih, hp]
        have := hdm k' k
        simp only [hm, hm', and_true] at this
        simp only [this, Nat.add_right_cancel_iff]
      | succ m' =>
        have hne : k' ≠ k := by intro e; subst e; rw [hm] at hm'; cases hm'
        simp [hne]
    | succ m =>
      cases hm' : Nat.mod k' 2 with
      | zero =>
        have hne : k' ≠ k := by intro e; subst e; rw [hm] at hm'; cases hm'
        simp [hne]
      | succ m' =>
        have e1 : m = 0 := by have : k % 2 = m + 1 := hm; omega
        have e2 : m' = 0 := by have : k' % 2 = m' + 1 := hm'; omega
        subst e1; subst e2
        simp only [right_node, ih, hp]
        have := hdm k' k
        simp only [hm, hm', and_true] at this
        simp only [this, Nat.add_right_cancel_iff]

theorem fuel_ok (k : Nat) : k + 1 < 2 ^ fuel k := by
  unfold fuel
  have := Nat.lt_log2_self (n := k + 1)
  simpa [Nat.succ_eq_add_one] using this

theorem get_set (t : Tr α) (k k' : Nat) (x : Option α) : (t.set k x).get k' = if k' = k then x else t.get k' := by
  unfold get set
  rw [get_setC _ _ _ _ _ (fuel_ok k)]
  simp [fuel_ok]

@[simp] theorem get_nil (k : Nat) : (nil : Tr α).get k = none := getC_nil _ _
theorem get_set_same (t : Tr α) (k : Nat) (x : Option α) : (t.set k x).get k = x := by simp [get_set]
theorem get_set_other (t : Tr α) {k k' : Nat} (x : Option α) (h : k' ≠ k) : (t.set k x).get k' = t.get k' := by simp [get_set, h]
end Tr

/-! ## Environments: where a name lies, and how many elements a row with an open end has -/
structure Env where
  blk : Nat → Option Nat
  cap : Nat → Nat
  ok : ∀ x, cap x ≤ 9223372036854775807

def Env.Le (ρ ρ' : Env) : Prop := ∀ b c, ρ.blk b = some c → ρ'.blk b = some c ∧ ρ'.cap b = ρ.cap b
theorem Env.Le.refl (ρ : Env) : ρ.Le ρ := fun _ _ h => ⟨h, rfl⟩
theorem Env.Le.trans {ρ ρ' ρ'' : Env} (h : ρ.Le ρ') (k : ρ'.Le ρ'') : ρ.Le ρ'' := fun b c e =>
  let ⟨h1, h2⟩ := h b c e
  let ⟨k1, k2⟩ := k b c h1
  ⟨k1, k2.trans h2⟩

/-- a name is given a place -/
def Env.ext (ρ : Env) (b c n : Nat) : Env := ⟨fun x => if x = b then some c else ρ.blk x, fun x => if x = b then min n 9223372036854775807 else ρ.cap x, fun x => by
  by_cases h : x = b
  · simp only [if_pos h]; exact Nat.min_le_right _ _
  · simp only [if_neg h]; exact ρ.ok x⟩
theorem Env.le_ext (ρ : Env) (b c n : Nat) (h : ρ.blk b = none) : ρ.Le (ρ.ext b c n) := by
  intro x y e
  have hne : x ≠ b := by intro e'; subst e'; rw [h] at e; cases e
  simp [Env.ext, hne, e]
@[simp] theorem Env.ext_same (ρ : Env) (b c n : Nat) : (ρ.ext b c n).blk b = some c := by simp [Env.ext]
theorem Env.ext_cap (ρ : Env) (b c n : Nat) (h : n ≤ 9223372036854775807) : (ρ.ext b c n).cap b = n := by
  simp only [Env.ext, if_true]; exact Nat.min_eq_left h
theorem Env.ext_other (ρ : Env) {b x : Nat} (c n : Nat) (h : x ≠ b) : (ρ.ext b c n).blk x = ρ.blk x := by simp [Env.ext, h]

/-! ## Bytes -/
def bytesL (len n : Nat) : List UInt8 := (List.range len).map fun i => UInt8.ofNat (byteAt len n i)
@[simp] theorem bytesL_length (len n : Nat) : (bytesL len n).length = len := by simp [bytesL]

/-! ## What a value stands for -/
mutual
def AV.conc (ρ : Env) : AV → Option Value
  | .bool b => some (.bool b)
  | .int k n => some (.int k n)
  | .str len n => if n < pw len then some (.string ⟨(bytesL len n).toArray⟩) else none
  | .nilp => some (.pointer none)
  | .ptr b off => match ρ.blk b with
    | some c => some (.pointer (some ⟨c, off, none⟩))
    | none => none
  | .nils => some (.slice none 0 0)
  | .slice b off len cap => match ρ.blk b, cap with
    | some c, .exact n => if len ≤ n then some (.slice (some ⟨c, off, none⟩) len n) else none
    | some c, .rest k => if len + k ≤ ρ.cap b then some (.slice (some ⟨c, off, none⟩) len (ρ.cap b - k)) else none
    | none, _ => none
  | .send b off l size k => match ρ.blk b with
    | some c => if k + l ≤ ρ.cap b then some (.slice (some ⟨c, if ρ.cap b = k + l then off else off + l * size, none⟩) 0 (ρ.cap b - (k + l))) else none
    | none => none
  | .nilm => some (.map none)
  | .map b => match ρ.blk b with
    | some c => some (.map (some c))
    | none => none
  | .yield b => match ρ.blk b with
    | some c => some (.func (.yield c) #[] #[])
    | none => none
  | .func f a b => match AV.concL ρ a, AV.concL ρ b with
    | some x, some y => some (.func (.func f) x.toArray y.toArray)
    | _, _ => none
  | .nilf => some .nilFunc
  | .iface t v => match v.conc ρ with
    | some x => some (.iface t x)
    | none => none
  | .nili => some .nilIface
  | .agg l => match AV.concL ρ l with
    | some vs => if vs.all Value.oneCell' then some (.agg vs.toArray) else none
    | none => none
  | .tuple l => match AV.concL ρ l with
    | some vs => some (.tuple vs.toArray)
    | none => none
def AV.concL (ρ : Env) : List AV → Option (List Value)
  | [] => some []
  | v :: l => match v.conc ρ, AV.concL ρ l with
    | some x, some xs => some (x :: xs)
    | _, _ => none
end

mutual
theorem AV.conc_mono {ρ ρ' : Env} (h : ρ.Le ρ') : ∀ (v : AV) (c : Value), v.conc ρ = some c → v.conc ρ' = some c
  | .bool b, c, e => by simpa [AV.conc] using e
  | .int k n, c, e => by simpa [AV.conc] using e
  | .str l n, c, e => by simpa [AV.conc] using e
  | .nilp, c, e => by simpa [AV.conc] using e
  | .nils, c, e => by simpa [AV.conc] using e
  | .nilm, c, e => by simpa [AV.conc] using e
  | .nilf, c, e => by simpa [AV.conc] using e
  | .nili, c, e => by simpa [AV.conc] using e
  | .ptr b off, c, e => by
    simp only [AV.conc] at e ⊢
    cases hb : ρ.blk b with
    | none => simp [hb] at e
    | some x => simpa [hb, (h b x hb).1] using e
  | .map b, c, e => by
    simp only [AV.conc] at e ⊢
    cases hb : ρ.blk b with
    | none => simp [hb] at e
    | some x => simpa [hb, (h b x hb).1] using e
  | .yield b, c, e => by
    simp only [AV.conc] at e ⊢
    cases hb : ρ.blk b with
    | none => simp [hb] at e
    | some x => simpa [hb, (h b x hb).1] using e
  | .slice b off len cap, c, e => by
    simp only [AV.conc] at e ⊢
    cases hb : ρ.blk b with
    | none => simp [hb] at e
    | some x =>
      cases cap with
      | exact n => simpa [hb, (h b x hb).1] using e
      | rest k => simpa [hb, (h b x hb).1, (h b x hb).2] using e
  | .send b off l size k, c, e => by
    simp only [AV.conc] at e ⊢
    cases hb : ρ.blk b with
    | none => simp [hb] at e
    | some x => simpa [hb, (h b x hb).1, (h b x hb).2] using e
  | .func f a b, c, e => by
    simp only [AV.conc] at e ⊢
    cases ha : AV.concL ρ a with
    | none => simp [ha] at e
    | some x =>
      cases hb : AV.concL ρ b with
      | none => simp [ha, hb] at e
      | some y => simpa [ha, hb, AV.concL_mono h a x ha, AV.concL_mono h b y hb] using e
  | .iface t v, c, e => by
    simp only [AV.conc] at e ⊢
    cases hv : v.conc ρ with
    | none => simp [hv] at e
    | some x => simpa [hv, AV.conc_mono h v x hv] using e
  | .agg l, c, e => by
    simp only [AV.conc] at e ⊢
    cases hl : AV.concL ρ l with
    | none => simp [hl] at e
    | some x => simpa [hl, AV.concL_mono h l x hl] using e
  | .tuple l, c, e => by
    simp only [AV.conc] at e ⊢
    cases hl : AV.concL ρ l with
    | none => simp [hl] at e
    | some x => simpa [hl, AV.concL_mono h l x hl] using e
theorem AV.concL_mono {ρ ρ' : Env} (h : ρ.Le ρ') : ∀ (l : List AV) (c : List Value), AV.concL ρ l = some c → AV.concL ρ' l = some c
  | [], c, e => by simpa [AV.concL] using e
  | v :: l, c, e => by
    simp only [AV.concL] at e ⊢
    cases hv : v.conc ρ with
    | none => simp [hv] at e
    | some x =>
      cases hl : AV.concL ρ l with
      | none => simp [hv, hl] at e
      | some xs => simpa [hv, hl, AV.conc_mono h v x hv, AV.concL_mono h l xs hl] using e
end

end Go.Proofs.YtpmildboffolkaaGreat.Abs

namespace Go.Proofs.YtpmildboffolkaaGreat.Abs

/-! ## Bytes in one number -/
theorem pw_eq (k : Nat) : pw k = 2 ^ (8 * k) := rfl
theorem pw_pos (k : Nat) : 0 < pw k := Nat.two_pow_pos _
theorem pw_add (a b : Nat) : pw (a + b) = pw a * pw b := by simp only [pw_eq, Nat.mul_add, Nat.pow_add]
theorem pw_one : pw 1 = 256 := rfl
theorem pw_zero : pw 0 = 1 := rfl
theorem pw_succ (k : Nat) : pw (k + 1) = pw k * 256 := by rw [pw_add, pw_one]
theorem byteAt_eq (len n i : Nat) : byteAt len n i = n / pw (len - 1 - i) % 256 := rfl
theorem sub_eq' (len n i j : Nat) : sub len n i j = n / pw (len - j) % pw (j - i) := rfl
theorem cat_eq (n m lm : Nat) : cat n m lm = n * pw lm + m := rfl
theorem byteAt_lt (len n i : Nat) : byteAt len n i < 256 := Nat.mod_lt _ (by decide)
theorem dvd_pw {k : Nat} (h : 0 < k) : 256 ∣ pw k := by
  obtain ⟨j, rfl⟩ : ∃ j, k = j + 1 := ⟨k - 1, by omega⟩
  rw [pw_succ]; exact Nat.dvd_mul_left _ _

theorem sub_lt (len n i j : Nat) : sub len n i j < pw (j - i) := Nat.mod_lt _ (pw_pos _)
theorem cat_lt {n m ln lm : Nat} (hn : n < pw ln) (hm : m < pw lm) : cat n m lm < pw (ln + lm) := by
  rw [cat_eq, pw_add]
  have h1 : (n + 1) * pw lm ≤ pw ln * pw lm := Nat.mul_le_mul_right _ hn
  rw [Nat.add_mul, Nat.one_mul] at h1
  omega

theorem byteAt_sub {len n i j k : Nat} (hij : i ≤ j) (hj : j ≤ len) (hk : k < j - i) : byteAt (j - i) (sub len n i j) k = byteAt len n (i + k) := by
  rw [byteAt_eq, byteAt_eq, sub_eq']
  have e1 : pw (j - i) = pw (j - i - 1 - k) * pw (k + 1) := by rw [← pw_add]; congr 1; omega
  have e2 : pw (len - 1 - (i + k)) = pw (len - j) * pw (j - i - 1 - k) := by rw [← pw_add]; congr 1; omega
  rw [e1, Nat.mod_mul_right_div_self, Nat.mod_mod_of_dvd _ (dvd_pw (by omega)), e2, Nat.div_div_eq_div_mul]

theorem byteAt_cat_left {ln n lm m i : Nat} (hm : m < pw lm) (hi : i < ln) : byteAt (ln + lm) (cat n m lm) i = byteAt ln n i := by
  rw [byteAt_eq, byteAt_eq, cat_eq]
  have e : pw (ln + lm - 1 - i) = pw lm * pw (ln - 1 - i) := by rw [← pw_add]; congr 1; omega
  rw [e, ← Nat.div_div_eq_div_mul]
  congr 2
  rw [Nat.mul_comm, Nat.mul_add_div (pw_pos _), Nat.div_eq_of_lt hm, Nat.add_zero]

theorem byteAt_cat_right {ln n lm m i : Nat} (hi : i < lm) : byteAt (ln + lm) (cat n m lm) (ln + i) = byteAt lm m i := by
  rw [byteAt_eq, byteAt_eq, cat_eq]
  have e : ln + lm - 1 - (ln + i) = lm - 1 - i := by omega
  have e2 : pw lm = pw (lm - 1 - i) * pw (i + 1) := by rw [← pw_add]; congr 1; omega
  rw [e]
  generalize pw (lm - 1 - i) = D at *
  rw [e2]
  have hD : 0 < D ∨ D = 0 := by omega
  rcases hD with hD | hD
  · rw [show n * (D * pw (i + 1)) = D * (n * pw (i + 1)) from by rw [← Nat.mul_assoc, Nat.mul_comm n D, Nat.mul_assoc], Nat.mul_add_div hD]
    obtain ⟨q, hq⟩ := dvd_pw (k := i + 1) (by omega)
    rw [hq, show n * (256 * q) = 256 * (n * q) from by rw [← Nat.mul_assoc, Nat.mul_comm n 256, Nat.mul_assoc], Nat.mul_add_mod]
  · subst hD; simp

theorem bytesL_get (len n i : Nat) : (bytesL len n)[i]? = if i < len then some (UInt8.ofNat (byteAt len n i)) else none := by
  unfold bytesL
  rw [List.getElem?_map]
  by_cases h : i < len
  · simp [h]
  · simp [h]

theorem bytesL_sub {len n i j : Nat} (hij : i ≤ j) (hj : j ≤ len) : bytesL (j - i) (sub len n i j) = ((bytesL len n).drop i).take (j - i) := by
  apply List.ext_getElem?
  intro k
  rw [bytesL_get, List.getElem?_take, List.getElem?_drop, bytesL_get]
  by_cases hk : k < j - i
  · have : i + k < len := by omega
    simp [hk, this, byteAt_sub hij hj hk]
  · simp [hk]

theorem bytesL_cat {ln n lm m : Nat} (hm : m < pw lm) : bytesL (ln + lm) (cat n m lm) = bytesL ln n ++ bytesL lm m := by
  apply List.ext_getElem?
  intro k
  rw [bytesL_get, List.getElem?_append, bytesL_get, bytesL_get, bytesL_length]
  by_cases hk : k < ln
  · have : k < ln + lm := by omega
    simp [hk, this, byteAt_cat_left hm hk]
  · obtain ⟨i, rfl⟩ : ∃ i, k = ln + i := ⟨k - ln, by omega⟩
    by_cases hi : i < lm
    · have : ln + i < ln + lm := by omega
      simp only [this, hk, if_true, if_false, hi, byteAt_cat_right hi, Nat.add_sub_cancel_left]
    · have : ¬ ln + i < ln + lm := by omega
      simp [hi]

theorem setSub_eq' {len n i lm m : Nat} (hn : n < pw len) (h : i + lm ≤ len) :
    setSub len n i lm m = cat (cat (sub len n 0 i) m lm) (sub len n (i + lm) len) (len - (i + lm)) := by
  have e0 : setSub len n i lm m = n / pw (len - i) * pw (len - i) + (m * pw (len - i - lm) + n % pw (len - i - lm)) := rfl
  rw [e0, cat_eq, cat_eq, sub_eq', sub_eq']
  have e1 : n / pw (len - i) % pw (i - 0) = n / pw (len - i) := by
    apply Nat.mod_eq_of_lt
    rw [Nat.div_lt_iff_lt_mul (pw_pos _), Nat.sub_zero, ← pw_add, show i + (len - i) = len from by omega]
    exact hn
  have e2 : len - (i + lm) = len - i - lm := by omega
  rw [e1, Nat.sub_self, pw_zero, Nat.div_one, e2, Nat.add_mul, Nat.mul_assoc, ← pw_add, show lm + (len - i - lm) = len - i from by omega, Nat.add_assoc]

theorem bytesL_setSub {len n i lm m : Nat} (hn : n < pw len) (hm : m < pw lm) (h : i + lm ≤ len) :
    bytesL len (setSub len n i lm m) = (bytesL len n).take i ++ bytesL lm m ++ (bytesL len n).drop (i + lm) := by
  have hs : sub len n (i + lm) len < pw (len - (i + lm)) := sub_lt _ _ _ _
  have e := bytesL_cat (ln := i + lm) (n := cat (sub len n 0 i) m lm) (lm := len - (i + lm)) hs
  rw [show i + lm + (len - (i + lm)) = len from by omega, bytesL_cat hm] at e
  rw [setSub_eq' hn h, e]
  have e1 := bytesL_sub (len := len) (n := n) (i := 0) (j := i) (by omega) (by omega)
  have e2 := bytesL_sub (len := len) (n := n) (i := i + lm) (j := len) (by omega) (by omega)
  simp only [Nat.sub_zero, List.drop_zero] at e1
  rw [e1, e2]
  congr 1
  apply List.take_of_length_le
  simp

theorem setSub_lt {len n i lm m : Nat} (hn : n < pw len) (hm : m < pw lm) (h : i + lm ≤ len) : setSub len n i lm m < pw len := by
  rw [setSub_eq' hn h]
  have h1 : sub len n 0 i < pw i := by simpa using sub_lt len n 0 i
  have h2 := cat_lt (cat_lt h1 hm) (sub_lt len n (i + lm) len)
  rwa [show i + lm + (len - (i + lm)) = len from by omega] at h2

theorem bytesL_one (b : UInt8) : bytesL 1 b.toNat = [b] := by
  unfold bytesL
  have h : byteAt 1 b.toNat 0 = b.toNat := by
    rw [byteAt_eq, show (1 - 1 - 0 : Nat) = 0 from rfl, pw_zero, Nat.div_one]
    exact Nat.mod_eq_of_lt (by have := b.toNat_lt; omega)
  simp [List.range_succ, h]

theorem packL_lt : ∀ (l : List UInt8) (k acc : Nat), acc < pw k → packL l acc < pw (k + l.length)
  | [], k, acc, h => by simpa [packL] using h
  | b :: r, k, acc, h => by
    have hb : b.toNat < pw 1 := by rw [pw_one]; exact b.toNat_lt
    have h1 := cat_lt h hb
    have e : cat acc b.toNat 1 = Nat.add (Nat.mul acc 256) b.toNat := rfl
    rw [e] at h1
    have := packL_lt r (k + 1) _ h1
    simpa [packL, Nat.add_assoc, Nat.add_comm 1] using this

theorem bytesL_packL : ∀ (l : List UInt8) (k acc : Nat), acc < pw k → bytesL (k + l.length) (packL l acc) = bytesL k acc ++ l
  | [], k, acc, _ => by simp [packL]
  | b :: r, k, acc, h => by
    have hb : b.toNat < pw 1 := by rw [pw_one]; exact b.toNat_lt
    have h1 := cat_lt h hb
    have e : cat acc b.toNat 1 = Nat.add (Nat.mul acc 256) b.toNat := rfl
    have e1 := bytesL_cat (ln := k) (n := acc) (lm := 1) hb
    rw [e] at h1 e1
    have := bytesL_packL r (k + 1) _ h1
    rw [e1, bytesL_one] at this
    simpa [packL, Nat.add_assoc, Nat.add_comm 1] using this

theorem packL_append : ∀ (l r : List UInt8) (acc : Nat), packL (l ++ r) acc = packL r (packL l acc)
  | [], _, _ => rfl
  | b :: l, r, acc => by simp only [List.cons_append, packL, packL_append l r]

theorem bytesL_succ (len n : Nat) : bytesL (len + 1) n = bytesL len (n / 256) ++ [UInt8.ofNat (n % 256)] := by
  apply List.ext_getElem?
  intro k
  rw [bytesL_get, List.getElem?_append, bytesL_get, bytesL_length]
  by_cases hk : k < len
  · have h1 : k < len + 1 := by omega
    simp only [hk, h1, if_true, byteAt_eq]
    have e : pw (len + 1 - 1 - k) = 256 * pw (len - 1 - k) := by rw [Nat.mul_comm, ← pw_succ]; congr 1; omega
    rw [e, Nat.div_div_eq_div_mul]
  · by_cases hk2 : k = len
    · subst hk2
      simp [byteAt_eq, pw_zero]
    · have h1 : ¬ k < len + 1 := by omega
      have h2 : ¬ k - len < 1 := by omega
      simp [hk, h1]
      omega

theorem packL_bytesL : ∀ (len n : Nat), n < pw len → packL (bytesL len n) 0 = n
  | 0, n, h => by
    have : n = 0 := by rw [pw_zero] at h; omega
    subst this; rfl
  | len + 1, n, h => by
    rw [bytesL_succ, packL_append]
    have hd : n / 256 < pw len := by
      rw [Nat.div_lt_iff_lt_mul (by decide), ← pw_succ]; exact h
    rw [packL_bytesL len _ hd]
    have hm : n % 256 < 256 := Nat.mod_lt _ (by decide)
    show n / 256 * 256 + (UInt8.ofNat (n % 256)).toNat = n
    rw [UInt8.toNat_ofNat', Nat.mod_eq_of_lt (by simpa using hm)]
    omega

theorem bytesL_inj {len n len' n' : Nat} (h : n < pw len) (h' : n' < pw len') (e : bytesL len n = bytesL len' n') : len = len' ∧ n = n' := by
  have hl : len = len' := by simpa using congrArg List.length e
  subst hl
  refine ⟨rfl, ?_⟩
  rw [← packL_bytesL len n h, e, packL_bytesL len n' h']

/-! ## Rows -/
def u8V (b : UInt8) : Value := .int .u8 b.toNat

def concC (ρ : Env) : Chunk → Option (List Value)
  | .cells l => match AV.concL ρ l with
    | some vs => if vs.all Value.oneCell' then some vs else none
    | none => none
  | .bytes len n => if n < pw len then some ((bytesL len n).map u8V) else none

theorem concC_cells {ρ : Env} {l : List AV} {vs : List Value} : concC ρ (.cells l) = some vs ↔ AV.concL ρ l = some vs ∧ vs.all Value.oneCell' = true := by
  simp only [concC]
  cases h : AV.concL ρ l with
  | none => simp
  | some xs =>
    simp only []
    by_cases hx : xs.all Value.oneCell' = true
    · simp only [hx, if_true, Option.some.injEq]
      constructor
      · rintro rfl; exact ⟨rfl, hx⟩
      · exact fun h => h.1
    · simp only [hx]
      constructor
      · intro h; cases h
      · rintro ⟨h1, h2⟩
        cases h1
        exact absurd h2 hx

theorem concC_bytes {ρ : Env} {len n : Nat} {vs : List Value} : concC ρ (.bytes len n) = some vs ↔ n < pw len ∧ vs = (bytesL len n).map u8V := by
  simp only [concC]
  by_cases h : n < pw len
  · simp [h, eq_comm]
  · simp [h]

theorem concC_one {ρ : Env} {c : Chunk} {vs : List Value} (h : concC ρ c = some vs) : ∀ v ∈ vs, v.oneCell' = true := by
  cases c with
  | cells l => exact fun v hv => List.all_eq_true.1 (concC_cells.1 h).2 v hv
  | bytes len n =>
    obtain ⟨_, rfl⟩ := concC_bytes.1 h
    intro v hv
    obtain ⟨b, _, rfl⟩ := List.mem_map.1 hv
    rfl

theorem concC_mono {ρ ρ' : Env} (hρ : ρ.Le ρ') {c : Chunk} {vs : List Value} (h : concC ρ c = some vs) : concC ρ' c = some vs := by
  cases c with
  | cells l => exact concC_cells.2 ⟨AV.concL_mono hρ _ _ (concC_cells.1 h).1, (concC_cells.1 h).2⟩
  | bytes len n => exact concC_bytes.2 (concC_bytes.1 h)

theorem concL_length {ρ : Env} : ∀ {l : List AV} {vs : List Value}, AV.concL ρ l = some vs → vs.length = l.length
  | [], vs, h => by simp [AV.concL] at h; subst h; rfl
  | v :: l, vs, h => by
    simp only [AV.concL] at h
    split at h
    · rename_i x xs hx hxs
      cases h
      simp [concL_length hxs]
    · cases h

theorem concL_cons {ρ : Env} {v : AV} {l : List AV} {vs : List Value} : AV.concL ρ (v :: l) = some vs ↔ ∃ x xs, v.conc ρ = some x ∧ AV.concL ρ l = some xs ∧ vs = x :: xs := by
  simp only [AV.concL]
  cases hv : v.conc ρ with
  | none => simp
  | some x =>
    cases hl : AV.concL ρ l with
    | none => simp
    | some xs => simp [eq_comm]
theorem concL_nil {ρ : Env} {vs : List Value} : AV.concL ρ [] = some vs ↔ vs = [] := by simp [AV.concL, eq_comm]

theorem concL_append {ρ : Env} : ∀ {l r : List AV} {vs ws : List Value}, AV.concL ρ l = some vs → AV.concL ρ r = some ws → AV.concL ρ (l ++ r) = some (vs ++ ws)
  | [], r, vs, ws, h, k => by rw [concL_nil] at h; subst h; exact k
  | v :: l, r, vs, ws, h, k => by
    obtain ⟨x, xs, h1, h2, rfl⟩ := concL_cons.1 h
    exact concL_cons.2 ⟨x, xs ++ ws, h1, concL_append h2 k, rfl⟩

theorem concL_append_inv {ρ : Env} : ∀ {l r : List AV} {us : List Value}, AV.concL ρ (l ++ r) = some us → ∃ vs ws, AV.concL ρ l = some vs ∧ AV.concL ρ r = some ws ∧ us = vs ++ ws
  | [], r, us, h => ⟨[], us, rfl, h, rfl⟩
  | v :: l, r, us, h => by
    obtain ⟨x, xs, h1, h2, rfl⟩ := concL_cons.1 h
    obtain ⟨vs, ws, h3, h4, rfl⟩ := concL_append_inv h2
    exact ⟨x :: vs, ws, concL_cons.2 ⟨x, vs, h1, h3, rfl⟩, h4, rfl⟩

theorem concL_nth {ρ : Env} : ∀ {l : List AV} {vs : List Value} {i : Nat} {v : AV}, AV.concL ρ l = some vs → Chunk.nth l i = some v → ∃ x, vs[i]? = some x ∧ v.conc ρ = some x
  | [], _, _, _, _, h => by simp [Chunk.nth] at h
  | a :: l, vs, 0, v, h, k => by
    obtain ⟨x, xs, h1, h2, rfl⟩ := concL_cons.1 h
    simp [Chunk.nth] at k
    subst k
    exact ⟨x, rfl, h1⟩
  | a :: l, vs, i + 1, v, h, k => by
    obtain ⟨x, xs, h1, h2, rfl⟩ := concL_cons.1 h
    simp only [Chunk.nth] at k
    obtain ⟨y, h3, h4⟩ := concL_nth h2 k
    exact ⟨y, by simpa using h3, h4⟩

theorem takeL_eq : ∀ {l : List AV} {i n : Nat} {l' : List AV}, Chunk.takeL l i n = some l' → l' = (l.drop i).take n ∧ i + n ≤ l.length
  | [], 0, 0, l', h => by simp [Chunk.takeL] at h; subst h; simp
  | [], 0, n + 1, l', h => by simp [Chunk.takeL] at h
  | [], i + 1, n, l', h => by simp [Chunk.takeL] at h
  | x :: l, i + 1, n, l', h => by
    simp only [Chunk.takeL] at h
    obtain ⟨h1, h2⟩ := takeL_eq h
    exact ⟨by simpa using h1, by simp; omega⟩
  | x :: l, 0, 0, l', h => by simp [Chunk.takeL] at h; subst h; simp
  | x :: l, 0, m + 1, l', h => by
    simp only [Chunk.takeL] at h
    cases ht : Chunk.takeL l 0 m with
    | none => simp [ht] at h
    | some r =>
      simp only [ht, Option.some.injEq] at h
      obtain ⟨h1, h2⟩ := takeL_eq ht
      subst h; subst h1
      exact ⟨by simp, by simp; omega⟩

theorem concL_drop {ρ : Env} : ∀ {l : List AV} {vs : List Value} (i : Nat), AV.concL ρ l = some vs → AV.concL ρ (l.drop i) = some (vs.drop i)
  | l, vs, 0, h => by simpa using h
  | [], vs, i + 1, h => by rw [concL_nil] at h; subst h; rfl
  | v :: l, vs, i + 1, h => by
    obtain ⟨x, xs, h1, h2, rfl⟩ := concL_cons.1 h
    simpa using concL_drop i h2
theorem concL_take {ρ : Env} : ∀ {l : List AV} {vs : List Value} (n : Nat), AV.concL ρ l = some vs → AV.concL ρ (l.take n) = some (vs.take n)
  | l, vs, 0, h => by simp [AV.concL]
  | [], vs, n + 1, h => by rw [concL_nil] at h; subst h; rfl
  | v :: l, vs, n + 1, h => by
    obtain ⟨x, xs, h1, h2, rfl⟩ := concL_cons.1 h
    exact concL_cons.2 ⟨x, _, h1, concL_take n h2, by simp⟩

theorem setL_eq : ∀ {l : List AV} {i : Nat} {ys l' : List AV}, Chunk.setL l i ys = some l' → l' = l.take i ++ ys ++ l.drop (i + ys.length) ∧ i + ys.length ≤ l.length ∨ ys = [] ∧ l' = l
  | l, i, [], l', h => by
    right
    unfold Chunk.setL at h
    simp at h
    exact ⟨rfl, h.symm⟩
  | [], i, y :: ys, l', h => by
    unfold Chunk.setL at h
    simp at h
  | x :: l, 0, y :: ys, l', h => by
    left
    unfold Chunk.setL at h
    simp only [] at h
    cases hr : Chunk.setL l 0 ys with
    | none => simp [hr] at h
    | some r =>
      simp only [hr, Option.some.injEq] at h
      subst h
      rcases setL_eq hr with ⟨h1, h2⟩ | ⟨h1, h2⟩
      · subst h1
        exact ⟨by simp, by simp at h2 ⊢; omega⟩
      · subst h1; subst h2
        exact ⟨by simp, by simp⟩
  | x :: l, i + 1, y :: ys, l', h => by
    left
    unfold Chunk.setL at h
    simp only [] at h
    cases hr : Chunk.setL l i (y :: ys) with
    | none => simp [hr] at h
    | some r =>
      simp only [hr, Option.some.injEq] at h
      subst h
      rcases setL_eq hr with ⟨h1, h2⟩ | ⟨h1, _⟩
      · subst h1
        refine ⟨?_, by simp at h2 ⊢; omega⟩
        have e : i + 1 + (y :: ys).length = (i + (y :: ys).length) + 1 := by omega
        rw [e]
        simp
      · cases h1

theorem unpackF_eq : ∀ (k n : Nat) (acc : List AV), Chunk.unpackF k n acc = (bytesL k n).map (fun b => AV.int .u8 (.ofNat b.toNat)) ++ acc
  | 0, n, acc => by simp [Chunk.unpackF, bytesL]
  | k + 1, n, acc => by
    have ih := unpackF_eq k (Nat.div n 256) (.int .u8 (.ofNat (Nat.mod n 256)) :: acc)
    simp only [Chunk.unpackF, ih]
    rw [bytesL_succ]
    have hm : n % 256 < 256 := Nat.mod_lt _ (by decide)
    have e : (UInt8.ofNat (n % 256)).toNat = n % 256 := by rw [UInt8.toNat_ofNat']; exact Nat.mod_eq_of_lt (by simpa using hm)
    have e2 : Nat.mod n 256 = n % 256 := rfl
    have e3 : Nat.div n 256 = n / 256 := rfl
    simp [e, e2, e3]

theorem concL_bytes (ρ : Env) : ∀ (l : List UInt8), AV.concL ρ (l.map fun b => AV.int .u8 (.ofNat b.toNat)) = some (l.map u8V)
  | [] => rfl
  | b :: l => by
    simp only [List.map_cons]
    exact concL_cons.2 ⟨_, _, rfl, concL_bytes ρ l, rfl⟩

theorem Chunk.list_conc {ρ : Env} {c : Chunk} {vs : List Value} (h : concC ρ c = some vs) : AV.concL ρ c.list = some vs := by
  cases c with
  | cells l => exact (concC_cells.1 h).1
  | bytes len n =>
    obtain ⟨_, rfl⟩ := concC_bytes.1 h
    simp only [Chunk.list, unpackF_eq, List.append_nil]
    exact concL_bytes ρ _

theorem concC_of_list {ρ : Env} {l : List AV} {vs : List Value} (h : AV.concL ρ l = some vs) (h1 : ∀ v ∈ vs, v.oneCell' = true) : concC ρ (.cells l) = some vs :=
  concC_cells.2 ⟨h, List.all_eq_true.2 h1⟩

theorem Chunk.len_conc {ρ : Env} {c : Chunk} {vs : List Value} (h : concC ρ c = some vs) : c.len = vs.length := by
  cases c with
  | cells l => exact (concL_length (concC_cells.1 h).1).symm
  | bytes len n =>
    obtain ⟨_, rfl⟩ := concC_bytes.1 h
    simp [Chunk.len]

theorem Chunk.get_conc {ρ : Env} {c : Chunk} {vs : List Value} {i : Nat} {v : AV} (h : concC ρ c = some vs) (k : c.get i = some v) : ∃ x, vs[i]? = some x ∧ v.conc ρ = some x := by
  cases c with
  | cells l => exact concL_nth (concC_cells.1 h).1 k
  | bytes len n =>
    obtain ⟨_, rfl⟩ := concC_bytes.1 h
    simp only [Chunk.get] at k
    cases hb : Nat.blt i len with
    | false => simp [hb] at k
    | true =>
      have hlt : i < len := by simpa [Nat.blt_eq] using hb
      simp only [hb, Option.some.injEq] at k
      subst k
      refine ⟨_, by rw [List.getElem?_map, bytesL_get]; simp [hlt]; rfl, ?_⟩
      simp only [AV.conc, u8V]
      rw [UInt8.toNat_ofNat', Nat.mod_eq_of_lt (by simpa using byteAt_lt len n i)]
      rfl

theorem Chunk.part_conc {ρ : Env} {c c' : Chunk} {vs : List Value} {i n : Nat} (h : concC ρ c = some vs) (k : c.part i n = some c') :
    concC ρ c' = some ((vs.drop i).take n) ∧ i + n ≤ vs.length := by
  cases c with
  | cells l =>
    simp only [Chunk.part] at k
    cases ht : Chunk.takeL l i n with
    | none => simp [ht] at k
    | some r =>
      simp only [ht, Option.some.injEq] at k
      subst k
      obtain ⟨h1, h2⟩ := takeL_eq ht
      obtain ⟨h3, h4⟩ := concC_cells.1 h
      subst h1
      refine ⟨concC_of_list (concL_take n (concL_drop i h3)) ?_, by rw [concL_length h3]; exact h2⟩
      intro v hv
      exact List.all_eq_true.1 h4 v (List.mem_of_mem_drop (List.mem_of_mem_take hv))
  | bytes len m =>
    obtain ⟨hm, rfl⟩ := concC_bytes.1 h
    simp only [Chunk.part] at k
    cases hb : Nat.ble (Nat.add i n) len with
    | false => simp only [hb, reduceCtorEq] at k
    | true =>
      have hle : i + n ≤ len := Nat.le_of_ble_eq_true hb
      simp only [hb, Option.some.injEq] at k
      subst k
      have e := bytesL_sub (len := len) (n := m) (i := i) (j := i + n) (by omega) hle
      have e2 : i + n - i = n := by omega
      have hs := sub_lt len m i (i + n)
      rw [e2] at e hs
      refine ⟨concC_bytes.2 ⟨hs, ?_⟩, by simpa using hle⟩
      show _ = (bytesL n (sub len m i (i + n))).map u8V
      rw [e, List.map_take, List.map_drop]

theorem asByte_eq {v : AV} {m : Nat} (h : Chunk.asByte v = some m) : v = .int .u8 (.ofNat m) ∧ m < 256 := by
  unfold Chunk.asByte at h
  split at h
  · rename_i m'
    cases hb : Nat.blt m' 256 with
    | false => simp [hb] at h
    | true =>
      simp only [hb, Option.some.injEq] at h
      subst h
      exact ⟨rfl, by simpa [Nat.blt_eq] using hb⟩
  · cases h

theorem packF_eq : ∀ {l : List AV} {acc n : Nat}, Chunk.packF l acc = some n → ∃ bs : List UInt8, l = bs.map (fun b => AV.int .u8 (.ofNat b.toNat)) ∧ n = packL bs acc
  | [], acc, n, h => by
    simp [Chunk.packF] at h
    exact ⟨[], rfl, h.symm⟩
  | v :: r, acc, n, h => by
    simp only [Chunk.packF] at h
    cases hb : Chunk.asByte v with
    | none => simp [hb] at h
    | some m =>
      simp only [hb] at h
      obtain ⟨bs, h1, h2⟩ := packF_eq h
      obtain ⟨h3, h4⟩ := asByte_eq hb
      have e : (UInt8.ofNat m).toNat = m := by rw [UInt8.toNat_ofNat']; exact Nat.mod_eq_of_lt (by simpa using h4)
      refine ⟨UInt8.ofNat m :: bs, ?_, ?_⟩
      · simp only [List.map_cons, e, ← h1, h3]
      · simp only [packL, e, h2]

theorem packF_conc {ρ : Env} {l : List AV} {n : Nat} {vs : List Value} (h : Chunk.packF l 0 = some n) (k : AV.concL ρ l = some vs) : concC ρ (.bytes l.length n) = some vs := by
  obtain ⟨bs, rfl, rfl⟩ := packF_eq h
  rw [concL_bytes] at k
  cases k
  have h0 : (0 : Nat) < pw 0 := pw_pos 0
  refine concC_bytes.2 ⟨?_, ?_⟩
  · simpa using packL_lt bs 0 0 h0
  · have e := bytesL_packL bs 0 0 h0
    simp only [Nat.zero_add, bytesL, List.range_zero, List.map_nil, List.nil_append] at e
    simp only [List.length_map]
    rw [show bytesL bs.length (packL bs 0) = bs from e]

theorem Chunk.put_conc {ρ : Env} {c x c' : Chunk} {vs xs : List Value} {i : Nat} (h : concC ρ c = some vs) (hx : concC ρ x = some xs) (k : c.put i x = some c') :
    (concC ρ c' = some (vs.take i ++ xs ++ vs.drop (i + xs.length)) ∧ i + xs.length ≤ vs.length) ∨ (xs = [] ∧ c' = c) := by
  cases c with
  | cells l =>
    simp only [Chunk.put] at k
    cases hs : Chunk.setL l i x.list with
    | none => simp [hs] at k
    | some r =>
      simp only [hs, Option.some.injEq] at k
      subst k
      have hxl := Chunk.list_conc hx
      have hlen := concL_length hxl
      obtain ⟨h3, h4⟩ := concC_cells.1 h
      rcases setL_eq hs with ⟨h1, h2⟩ | ⟨h1, h2⟩
      · left
        subst h1
        rw [hlen]
        refine ⟨concC_of_list (concL_append (concL_append (concL_take i h3) hxl) (concL_drop _ h3)) ?_, by rw [concL_length h3]; exact h2⟩
        intro v hv
        rcases List.mem_append.1 hv with hv | hv
        · rcases List.mem_append.1 hv with hv | hv
          · exact List.all_eq_true.1 h4 v (List.mem_of_mem_take hv)
          · exact concC_one hx v hv
        · exact List.all_eq_true.1 h4 v (List.mem_of_mem_drop hv)
      · right
        rw [h1, concL_nil] at hxl
        exact ⟨hxl, by rw [h2]⟩
  | bytes len n =>
    obtain ⟨hn, rfl⟩ := concC_bytes.1 h
    have key : ∀ (lm m : Nat), concC ρ (.bytes lm m) = some xs → Chunk.putBytes len n i lm m = some c' →
        (concC ρ c' = some (((bytesL len n).map u8V).take i ++ xs ++ ((bytesL len n).map u8V).drop (i + xs.length)) ∧ i + xs.length ≤ ((bytesL len n).map u8V).length) := by
      intro lm m hm hp
      obtain ⟨hm1, rfl⟩ := concC_bytes.1 hm
      unfold Chunk.putBytes at hp
      cases hb : Nat.ble (Nat.add i lm) len with
      | false => simp only [hb, reduceCtorEq] at hp
      | true =>
        have hle : i + lm ≤ len := Nat.le_of_ble_eq_true hb
        simp only [hb, Option.some.injEq] at hp
        subst hp
        refine ⟨concC_bytes.2 ⟨setSub_lt hn hm1 hle, ?_⟩, by simpa using hle⟩
        rw [bytesL_setSub hn hm1 hle]
        simp
    cases x with
    | bytes lm m => exact .inl (key lm m hx k)
    | cells l =>
      simp only [Chunk.put] at k
      cases hp : Chunk.packF l 0 with
      | none => simp [hp] at k
      | some m =>
        simp only [hp] at k
        exact .inl (key l.length m (packF_conc hp (concC_cells.1 hx).1) k)

theorem Chunk.cat_conc {ρ : Env} {c x : Chunk} {vs xs : List Value} (h : concC ρ c = some vs) (hx : concC ρ x = some xs) : concC ρ (c.cat x) = some (vs ++ xs) := by
  have gen : ∀ l r : List AV, AV.concL ρ l = some vs → AV.concL ρ r = some xs → concC ρ (.cells (l ++ r)) = some (vs ++ xs) := by
    intro l r h1 h2
    refine concC_of_list (concL_append h1 h2) ?_
    intro v hv
    rcases List.mem_append.1 hv with hv | hv
    · exact concC_one h v hv
    · exact concC_one hx v hv
  cases c with
  | cells l => exact gen l x.list (concC_cells.1 h).1 (Chunk.list_conc hx)
  | bytes la a =>
    cases x with
    | cells l => exact gen _ l (Chunk.list_conc h) (concC_cells.1 hx).1
    | bytes lb b =>
      obtain ⟨ha, rfl⟩ := concC_bytes.1 h
      obtain ⟨hb, rfl⟩ := concC_bytes.1 hx
      refine concC_bytes.2 ⟨cat_lt ha hb, ?_⟩
      show _ = (bytesL (la + lb) (Abs.cat a b lb)).map u8V
      rw [bytesL_cat hb, List.map_append]

def Chunk.isBytes : Chunk → Bool
  | .bytes _ _ => true
  | .cells _ => false

theorem Chunk.asRow_conc {ρ : Env} {c r : Chunk} {b : Bool} {vs : List Value} (h : concC ρ c = some vs) (k : c.asRow b = some r) : concC ρ r = some vs ∧ r.isBytes = b := by
  cases b with
  | false =>
    simp only [Chunk.asRow, Option.some.injEq] at k
    subst k
    exact ⟨concC_of_list (Chunk.list_conc h) (concC_one h), rfl⟩
  | true =>
    cases c with
    | bytes l n =>
      simp only [Chunk.asRow, Option.some.injEq] at k
      subst k
      exact ⟨h, rfl⟩
    | cells l =>
      simp only [Chunk.asRow] at k
      cases hp : Chunk.packF l 0 with
      | none => simp [hp] at k
      | some n =>
        simp only [hp, Option.some.injEq] at k
        subst k
        exact ⟨packF_conc hp (concC_cells.1 h).1, rfl⟩

theorem Chunk.put_isBytes {c x c' : Chunk} {i : Nat} (k : c.put i x = some c') : c'.isBytes = c.isBytes := by
  cases c with
  | cells l =>
    simp only [Chunk.put] at k
    split at k
    · cases k; rfl
    · cases k
  | bytes len n =>
    have key : ∀ lm m, Chunk.putBytes len n i lm m = some c' → c'.isBytes = true := by
      intro lm m h
      unfold Chunk.putBytes at h
      split at h
      · cases h; rfl
      · cases h
    cases x with
    | bytes lm m => exact key _ _ k
    | cells l =>
      simp only [Chunk.put] at k
      split at k
      · exact key _ _ k
      · cases k
theorem Chunk.part_isBytes {c c' : Chunk} {i n : Nat} (k : c.part i n = some c') : c'.isBytes = c.isBytes := by
  cases c with
  | cells l =>
    simp only [Chunk.part] at k
    split at k
    · cases k; rfl
    · cases k
  | bytes len m =>
    simp only [Chunk.part] at k
    split at k
    · cases k; rfl
    · cases k

end Go.Proofs.YtpmildboffolkaaGreat.Abs

namespace Go.Proofs.YtpmildboffolkaaGreat.Abs

/-! ## Numbers -/
theorem wrapU_eq (m : Nat) (hm : 0 < m) (n : Int) : wrapU m n = n % (m : Int) := by
  cases n with
  | ofNat n => rfl
  | negSucc n =>
    show Int.ofNat (m - 1 - n % m) = _
    have h := Nat.mod_lt n hm
    rw [Int.negSucc_emod n (by omega : (0 : Int) < (m : Int))]
    have : ((n : Int) % (m : Int)) = ((n % m : Nat) : Int) := by simp
    rw [this]
    simp only [Int.ofNat_eq_natCast]
    omega

theorem wrapS_eq (n : Int) : wrapS .i64 n = IntKind.i64.wrap n := by
  cases n with
  | ofNat m =>
    simp only [wrapS]
    cases hb : Nat.blt m 9223372036854775808 with
    | false => rfl
    | true =>
      have hlt : m < 9223372036854775808 := by simpa [Nat.blt_eq] using hb
      simp only [IntKind.wrap, IntKind.bits, IntKind.signed, Int.ofNat_eq_natCast]
      simp
      omega
  | negSucc m =>
    simp only [wrapS]
    cases hb : Nat.blt m 9223372036854775808 with
    | false => rfl
    | true =>
      have hlt : m < 9223372036854775808 := by simpa [Nat.blt_eq] using hb
      simp only [IntKind.wrap, IntKind.bits, IntKind.signed]
      simp
      omega

theorem wrap_eq (k : IntKind) (n : Int) : wrap k n = k.wrap n := by
  cases k with
  | i64 => exact wrapS_eq n
  | u8 => show wrapU 256 n = _; rw [wrapU_eq _ (by decide)]; simp [IntKind.wrap, IntKind.bits, IntKind.signed]
  | u16 => show wrapU 65536 n = _; rw [wrapU_eq _ (by decide)]; simp [IntKind.wrap, IntKind.bits, IntKind.signed]
  | u32 => show wrapU 4294967296 n = _; rw [wrapU_eq _ (by decide)]; simp [IntKind.wrap, IntKind.bits, IntKind.signed]
  | u64 => show wrapU 18446744073709551616 n = _; rw [wrapU_eq _ (by decide)]; simp [IntKind.wrap, IntKind.bits, IntKind.signed]
  | i8 => rfl
  | i16 => rfl
  | i32 => rfl

theorem ble_eq (x y : Int) : ble x y = decide (x ≤ y) := by
  cases x <;> cases y <;> simp only [ble]
  · rename_i a b
    rw [Bool.eq_iff_iff, Nat.ble_eq]
    simp
  · simp
    omega
  · simp
    omega
  · rename_i a b
    rw [Bool.eq_iff_iff, Nat.ble_eq]
    simp
    omega

theorem beqI_eq (x y : Int) : beqI x y = (x == y) := by
  cases x <;> cases y <;> simp only [beqI]
  · rename_i a b
    rw [Bool.eq_iff_iff, Nat.beq_eq]
    simp
    omega
  · rename_i a b
    rw [Bool.eq_iff_iff]
    simp
  · rename_i a b
    rw [Bool.eq_iff_iff]
    simp
  · rename_i a b
    rw [Bool.eq_iff_iff, Nat.beq_eq]
    simp

theorem beqK_eq {a b : IntKind} (h : beqK a b = true) : a = b := by
  cases a <;> cases b <;> first | rfl | (exfalso; revert h; decide)

theorem minN_eq (a b : Nat) : minN a b = min a b := by
  unfold minN
  cases h : Nat.ble a b with
  | true => have := Nat.le_of_ble_eq_true h; simp only []; omega
  | false =>
    have : ¬ a ≤ b := by intro h'; rw [Nat.ble_eq_true_of_le h'] at h; cases h
    simp only []; omega

theorem wrap_mod (k : IntKind) (n : Nat) : k.wrap ((n % 2 ^ k.bits : Nat) : Int) = k.wrap (n : Int) := by
  have e : (((n % 2 ^ k.bits : Nat) : Int) % (2 ^ k.bits : Int)) = ((n : Int) % (2 ^ k.bits : Int)) := by
    have : (2 ^ k.bits : Int) = ((2 ^ k.bits : Nat) : Int) := by simp
    rw [this]
    simp
  simp only [IntKind.wrap, e]

section
variable {P : Program} {w : World} {ρ : Env}

theorem bits_and (k : IntKind) (a b : Nat) : (Op.intBits .and k (.ofNat a) (.ofNat b)).run P w = .ok (.int k (k.wrap ((a &&& b : Nat) : Int))) w := by
  simp only [Op.intBits, Sem.run_pure]
  congr 2
  rw [← wrap_mod k (a &&& b), BitVec.toNat_and, Int.ofNat_eq_natCast, Int.ofNat_eq_natCast, BitVec.ofInt_natCast, BitVec.ofInt_natCast, BitVec.toNat_ofNat, BitVec.toNat_ofNat, Nat.and_mod_two_pow]
theorem bits_or (k : IntKind) (a b : Nat) : (Op.intBits .or k (.ofNat a) (.ofNat b)).run P w = .ok (.int k (k.wrap ((a ||| b : Nat) : Int))) w := by
  simp only [Op.intBits, Sem.run_pure]
  congr 2
  rw [← wrap_mod k (a ||| b), BitVec.toNat_or, Int.ofNat_eq_natCast, Int.ofNat_eq_natCast, BitVec.ofInt_natCast, BitVec.ofInt_natCast, BitVec.toNat_ofNat, BitVec.toNat_ofNat, Nat.or_mod_two_pow]
theorem bits_xor (k : IntKind) (a b : Nat) : (Op.intBits .xor k (.ofNat a) (.ofNat b)).run P w = .ok (.int k (k.wrap ((a ^^^ b : Nat) : Int))) w := by
  simp only [Op.intBits, Sem.run_pure]
  congr 2
  rw [← wrap_mod k (a ^^^ b), BitVec.toNat_xor, Int.ofNat_eq_natCast, Int.ofNat_eq_natCast, BitVec.ofInt_natCast, BitVec.ofInt_natCast, BitVec.toNat_ofNat, BitVec.toNat_ofNat, Nat.xor_mod_two_pow]

/-- what two integers of one kind come to -/
theorem intOp_sound {op : BinOp} {t : TypeId} {k : IntKind} {x y : Int} {v : AV} (hs : op ≠ .shl) (hs' : op ≠ .shr) (h : (intOpC op).run k x y = some v) :
    ∃ c, v.conc ρ = some c ∧ (binOp op t (.int k x) (.int k y)).run P w = .ok c w := by
  cases op <;> simp only [intOpC] at h <;> first | exact absurd rfl hs | exact absurd rfl hs' | skip
  case add =>
    cases h
    exact ⟨_, rfl, by simp [binOp, Op.intArith, wrap_eq]⟩
  case sub =>
    cases h
    exact ⟨_, rfl, by simp [binOp, Op.intArith, wrap_eq]; rfl⟩
  case mul =>
    cases h
    exact ⟨_, rfl, by simp [binOp, Op.intArith, wrap_eq]⟩
  case quo =>
    rw [beqI_eq] at h
    cases hy : (y == 0) with
    | true => simp [hy] at h
    | false =>
      simp only [hy, Option.some.injEq] at h
      subst h
      have hy' : y ≠ 0 := by simpa using hy
      exact ⟨_, rfl, by simp [binOp, Op.intDiv, wrap_eq, hy']⟩
  case rem =>
    rw [beqI_eq] at h
    cases hy : (y == 0) with
    | true => simp [hy] at h
    | false =>
      simp only [hy, Option.some.injEq] at h
      subst h
      have hy' : y ≠ 0 := by simpa using hy
      exact ⟨_, rfl, by simp [binOp, Op.intDiv, hy']⟩
  case and =>
    cases x <;> cases y <;> simp only [nat2, reduceCtorEq] at h
    cases h
    rename_i a b
    refine ⟨_, rfl, ?_⟩
    have e : binOp .and t (.int k (.ofNat a)) (.int k (.ofNat b)) = Op.intBits .and k (.ofNat a) (.ofNat b) := by simp [binOp]
    rw [e, bits_and, wrap_eq]; rfl
  case or =>
    cases x <;> cases y <;> simp only [nat2, reduceCtorEq] at h
    cases h
    rename_i a b
    refine ⟨_, rfl, ?_⟩
    have e : binOp .or t (.int k (.ofNat a)) (.int k (.ofNat b)) = Op.intBits .or k (.ofNat a) (.ofNat b) := by simp [binOp]
    rw [e, bits_or, wrap_eq]; rfl
  case xor =>
    cases x <;> cases y <;> simp only [nat2, reduceCtorEq] at h
    cases h
    rename_i a b
    refine ⟨_, rfl, ?_⟩
    have e : binOp .xor t (.int k (.ofNat a)) (.int k (.ofNat b)) = Op.intBits .xor k (.ofNat a) (.ofNat b) := by simp [binOp]
    rw [e, bits_xor, wrap_eq]; rfl
  case andNot => cases h
  case eql =>
    cases h
    exact ⟨_, rfl, by simp [binOp, Op.intCmp, beqI_eq]⟩
  case neq =>
    cases h
    exact ⟨_, rfl, by simp [binOp, Op.intCmp, beqI_eq, bne]⟩
  case lss =>
    cases h
    refine ⟨_, rfl, ?_⟩
    simp only [binOp, Op.intCmp, ble_eq, ne_eq, not_true_eq_false, if_false, Sem.run_pure]
    congr 2
    rw [Bool.eq_iff_iff]; simp
  case leq =>
    cases h
    exact ⟨_, rfl, by simp [binOp, Op.intCmp, ble_eq]⟩
  case gtr =>
    cases h
    refine ⟨_, rfl, ?_⟩
    simp only [binOp, Op.intCmp, ble_eq, ne_eq, not_true_eq_false, if_false, Sem.run_pure]
    congr 2
    rw [Bool.eq_iff_iff]; simp
  case geq =>
    cases h
    exact ⟨_, rfl, by simp [binOp, Op.intCmp, ble_eq]⟩

theorem shl_sound {t : TypeId} {k yk : IntKind} {x y : Int} {v : AV} (h : (shiftC true).run k x y = some v) :
    ∃ c, v.conc ρ = some c ∧ (binOp .shl t (.int k x) (.int yk y)).run P w = .ok c w := by
  cases y with
  | negSucc n => simp [shiftC] at h
  | ofNat n =>
    simp only [shiftC, Option.some.injEq] at h
    subst h
    refine ⟨_, rfl, ?_⟩
    have h0 : ¬ (Int.ofNat n < 0) := by simp
    show (Op.shift .shl k x yk (Int.ofNat n)).run P w = _
    unfold Op.shift
    rw [if_neg h0]
    simp only [Sem.run_pure, wrap_eq, minN_eq, Int.ofNat_eq_natCast, Int.toNat_natCast]
    have e : Int.mul x ((Nat.pow 2 (min n k.bits) : Nat) : Int) = x * 2 ^ min n k.bits := by
      show x * ((2 ^ min n k.bits : Nat) : Int) = _
      simp
    rw [e]

theorem shr_sound {t : TypeId} {k yk : IntKind} {x y : Int} {v : AV} (h : (shiftC false).run k x y = some v) :
    ∃ c, v.conc ρ = some c ∧ (binOp .shr t (.int k x) (.int yk y)).run P w = .ok c w := by
  cases y with
  | negSucc n => simp [shiftC] at h
  | ofNat n =>
    cases x with
    | negSucc a => simp [shiftC] at h
    | ofNat a =>
      simp only [shiftC, Option.some.injEq] at h
      subst h
      refine ⟨_, rfl, ?_⟩
      have h0 : ¬ (Int.ofNat n < 0) := by simp
      show (Op.shift .shr k (Int.ofNat a) yk (Int.ofNat n)).run P w = _
      unfold Op.shift
      rw [if_neg h0]
      simp only [Sem.run_pure, minN_eq, Int.ofNat_eq_natCast, Int.toNat_natCast]
      have e : ((2 : Int) ^ min n k.bits) = ((2 ^ min n k.bits : Nat) : Int) := by simp
      rw [e, Int.fdiv_eq_ediv_of_nonneg _ (Int.natCast_nonneg _)]
      rfl
end

end Go.Proofs.YtpmildboffolkaaGreat.Abs

namespace Go.Proofs.YtpmildboffolkaaGreat.Abs

/-! ## Strings -/
theorem bytesL_cons {m n : Nat} (h : n < pw (m + 1)) : bytesL (m + 1) n = UInt8.ofNat (n / pw m) :: bytesL m (n % pw m) := by
  have hq : n / pw m < pw 1 := by
    rw [Nat.div_lt_iff_lt_mul (pw_pos _), ← pw_add, Nat.add_comm]; exact h
  have hr : n % pw m < pw m := Nat.mod_lt _ (pw_pos _)
  have e := bytesL_cat (ln := 1) (n := n / pw m) (lm := m) hr
  have e1 : cat (n / pw m) (n % pw m) m = n := by
    rw [cat_eq, Nat.mul_comm]; exact Nat.div_add_mod _ _
  rw [e1, Nat.add_comm 1 m] at e
  rw [e]
  have hq' : n / pw m < 256 := by rw [pw_one] at hq; exact hq
  have h2 : (UInt8.ofNat (n / pw m)).toNat = n / pw m := by rw [UInt8.toNat_ofNat']; exact Nat.mod_eq_of_lt (by simpa using hq')
  have := bytesL_one (UInt8.ofNat (n / pw m))
  rw [h2] at this
  rw [this]; rfl

theorem less_same : ∀ (m x y : Nat), x < pw m → y < pw m → Op.bytesLess (bytesL m x) (bytesL m y) = decide (x < y)
  | 0, x, y, hx, hy => by
    rw [pw_zero] at hx hy
    have : x = 0 := by omega
    have : y = 0 := by omega
    subst_vars
    simp [bytesL, Op.bytesLess]
  | m + 1, x, y, hx, hy => by
    rw [bytesL_cons hx, bytesL_cons hy, Op.bytesLess]
    have hrx : x % pw m < pw m := Nat.mod_lt _ (pw_pos _)
    have hry : y % pw m < pw m := Nat.mod_lt _ (pw_pos _)
    rw [less_same m _ _ hrx hry]
    have hqx : x / pw m < 256 := by
      have : x / pw m < pw 1 := by rw [Nat.div_lt_iff_lt_mul (pw_pos _), ← pw_add, Nat.add_comm]; exact hx
      rwa [pw_one] at this
    have hqy : y / pw m < 256 := by
      have : y / pw m < pw 1 := by rw [Nat.div_lt_iff_lt_mul (pw_pos _), ← pw_add, Nat.add_comm]; exact hy
      rwa [pw_one] at this
    have dx := Nat.div_add_mod x (pw m)
    have dy := Nat.div_add_mod y (pw m)
    generalize x / pw m = q at *
    generalize y / pw m = q' at *
    generalize x % pw m = r at *
    generalize y % pw m = r' at *
    generalize pw m = M at *
    have e1 : (UInt8.ofNat q < UInt8.ofNat q') ↔ q < q' := by
      rw [UInt8.lt_iff_toNat_lt, UInt8.toNat_ofNat', UInt8.toNat_ofNat', Nat.mod_eq_of_lt (by simpa using hqx), Nat.mod_eq_of_lt (by simpa using hqy)]
    have e2 : (UInt8.ofNat q = UInt8.ofNat q') ↔ q = q' := by
      rw [← UInt8.toNat_inj, UInt8.toNat_ofNat', UInt8.toNat_ofNat', Nat.mod_eq_of_lt (by simpa using hqx), Nat.mod_eq_of_lt (by simpa using hqy)]
    rw [Bool.eq_iff_iff]
    simp only [Bool.or_eq_true, decide_eq_true_eq, Bool.and_eq_true, beq_iff_eq, e1, e2]
    subst dx; subst dy
    constructor
    · rintro (h | ⟨h, h'⟩)
      · have : M * (q + 1) ≤ M * q' := Nat.mul_le_mul_left _ h
        rw [Nat.mul_add, Nat.mul_one] at this
        omega
      · subst h; omega
    · intro h
      by_cases hq : q < q'
      · exact .inl hq
      · right
        have hle : q' ≤ q := by omega
        rcases Nat.lt_or_ge q' q with h1 | h1
        · have : M * (q' + 1) ≤ M * q := Nat.mul_le_mul_left _ h1
          rw [Nat.mul_add, Nat.mul_one] at this
          omega
        · have : q = q' := by omega
          subst this
          exact ⟨rfl, by omega⟩

theorem less_append : ∀ (u v s t : List UInt8), u.length = v.length → Op.bytesLess (u ++ s) (v ++ t) = (Op.bytesLess u v || (u == v && Op.bytesLess s t))
  | [], [], s, t, _ => by simp [Op.bytesLess]
  | [], _ :: _, _, _, h => by simp at h
  | _ :: _, [], _, _, h => by simp at h
  | a :: u, b :: v, s, t, h => by
    have ih := less_append u v s t (by simpa using h)
    simp only [List.cons_append, Op.bytesLess, ih]
    by_cases hab : a = b
    · subst hab; simp
    · by_cases hlt : a < b
      · simp [hlt]
      · have hb : (a == b) = false := by simpa using hab
        have hl : ((a :: u) == (b :: v)) = false := by simp [hab]
        simp [hlt, hb, hl]

theorem take_eq_div {la a m : Nat} (ha : a < pw la) (hm : m ≤ la) : (bytesL la a).take m = bytesL m (a / pw (la - m)) ∧ a / pw (la - m) < pw m := by
  have e := bytesL_sub (len := la) (n := a) (i := 0) (j := m) (by omega) hm
  have hlt : a / pw (la - m) < pw m := by
    rw [Nat.div_lt_iff_lt_mul (pw_pos _), ← pw_add, show m + (la - m) = la from by omega]; exact ha
  have e2 : sub la a 0 m = a / pw (la - m) := by rw [sub_eq', Nat.sub_zero, Nat.mod_eq_of_lt hlt]
  rw [e2] at e
  simp only [Nat.sub_zero, List.drop_zero] at e
  exact ⟨e.symm, hlt⟩

theorem less_strCmp {la a lb b : Nat} (ha : a < pw la) (hb : b < pw lb) : Op.bytesLess (bytesL la a) (bytesL lb b) = isLt (strCmp la a lb b) ∧
    Op.bytesLess (bytesL lb b) (bytesL la a) = isGt (strCmp la a lb b) := by
  obtain ⟨m, hm⟩ : ∃ m, m = min la lb := ⟨_, rfl⟩
  obtain ⟨e1, l1⟩ := take_eq_div ha (m := m) (by omega)
  obtain ⟨e2, l2⟩ := take_eq_div hb (m := m) (by omega)
  have hX : bytesL la a = bytesL m (a / pw (la - m)) ++ (bytesL la a).drop m := by rw [← e1, List.take_append_drop]
  have hY : bytesL lb b = bytesL m (b / pw (lb - m)) ++ (bytesL lb b).drop m := by rw [← e2, List.take_append_drop]
  have hA := less_append (bytesL m (a / pw (la - m))) (bytesL m (b / pw (lb - m))) ((bytesL la a).drop m) ((bytesL lb b).drop m) (by simp)
  have hB := less_append (bytesL m (b / pw (lb - m))) (bytesL m (a / pw (la - m))) ((bytesL lb b).drop m) ((bytesL la a).drop m) (by simp)
  rw [← hX, ← hY] at hA hB
  rw [hA, hB, less_same m _ _ l1 l2, less_same m _ _ l2 l1]
  have hcmp : strCmp la a lb b = (match Nat.blt (a / pw (la - m)) (b / pw (lb - m)) with
    | true => .lt
    | false => match Nat.blt (b / pw (lb - m)) (a / pw (la - m)) with
      | true => .gt
      | false => match Nat.blt la lb with
        | true => .lt
        | false => match Nat.blt lb la with
          | true => .gt
          | false => .eq) := by
    unfold strCmp
    simp only [minN_eq, ← hm]
    rfl
  rw [hcmp]
  have blt : ∀ i j : Nat, Nat.blt i j = decide (i < j) := by
    intro i j; rw [Bool.eq_iff_iff, Nat.blt_eq]; simp
  have hne : ∀ i j : Nat, i < pw m → j < pw m → ((bytesL m i == bytesL m j) = decide (i = j)) := by
    intro i j hi hj
    rw [Bool.eq_iff_iff]
    simp only [beq_iff_eq, decide_eq_true_eq]
    exact ⟨fun h => (bytesL_inj hi hj h).2, fun h => by rw [h]⟩
  rw [hne _ _ l1 l2, hne _ _ l2 l1, blt, blt, blt, blt]
  generalize a / pw (la - m) = x at *
  generalize b / pw (lb - m) = y at *
  have hdl : ((bytesL la a).drop m).length = la - m := by simp
  have hdr : ((bytesL lb b).drop m).length = lb - m := by simp
  rcases Nat.lt_trichotomy x y with h | h | h
  · have h1 : ¬ y < x := by omega
    have h2 : ¬ x = y := by omega
    have h3 : ¬ y = x := by omega
    simp [h, h1, h3, isLt, isGt]
  · subst h
    simp only [Nat.lt_irrefl, decide_false, decide_true, Bool.false_or, Bool.true_and]
    rcases Nat.lt_trichotomy la lb with g | g | g
    · have hma : m = la := by omega
      have hs : (bytesL la a).drop m = [] := List.eq_nil_of_length_eq_zero (by rw [hdl]; omega)
      have ht : ∃ z zs, (bytesL lb b).drop m = z :: zs := by
        cases hq : (bytesL lb b).drop m with
        | nil => rw [hq] at hdr; simp at hdr; omega
        | cons z zs => exact ⟨z, zs, rfl⟩
      obtain ⟨z, zs, ht⟩ := ht
      have g' : ¬ lb < la := by omega
      rw [hs, ht]
      simp [Op.bytesLess, g, isLt, isGt]
    · subst g
      have hs : (bytesL la a).drop m = [] := List.eq_nil_of_length_eq_zero (by rw [hdl]; omega)
      have ht : (bytesL la b).drop m = [] := List.eq_nil_of_length_eq_zero (by rw [hdr]; omega)
      rw [hs, ht]
      simp [Op.bytesLess, isLt, isGt]
    · have ht : (bytesL lb b).drop m = [] := List.eq_nil_of_length_eq_zero (by rw [hdr]; omega)
      have hs : ∃ z zs, (bytesL la a).drop m = z :: zs := by
        cases hq : (bytesL la a).drop m with
        | nil => rw [hq] at hdl; simp at hdl; omega
        | cons z zs => exact ⟨z, zs, rfl⟩
      obtain ⟨z, zs, hs⟩ := hs
      have g' : ¬ la < lb := by omega
      rw [hs, ht]
      simp [Op.bytesLess, g, g', isLt, isGt]
  · have h1 : ¬ x < y := by omega
    have h2 : ¬ x = y := by omega
    have h3 : ¬ y = x := by omega
    simp [h, h1, h2, isLt, isGt]

theorem strEq_eq {la a lb b : Nat} (ha : a < pw la) (hb : b < pw lb) : strEq la a lb b = (bytesL la a == bytesL lb b) := by
  rw [Bool.eq_iff_iff]
  simp only [strEq, Bool.and_eq_true, Nat.beq_eq, beq_iff_eq]
  exact ⟨fun h => by rw [h.1, h.2], fun h => bytesL_inj ha hb h⟩

def strV (l n : Nat) : Value := .string ⟨(bytesL l n).toArray⟩
theorem conc_str {ρ : Env} {l n : Nat} {c : Value} : (AV.str l n).conc ρ = some c ↔ n < pw l ∧ c = strV l n := by
  simp only [AV.conc, strV]
  by_cases h : n < pw l
  · simp [h, eq_comm]
  · simp [h]

theorem toList_strV (l n : Nat) : (⟨(bytesL l n).toArray⟩ : ByteArray).toList = bytesL l n := by
  rw [ByteArray.toList_eq]

theorem strOp_sound {P : Program} {w : World} {ρ : Env} {op : BinOp} {t : TypeId} {la a lb b : Nat} {v : AV} (ha : a < pw la) (hb : b < pw lb) (h : (strOpC op).run la a lb b = some v) :
    ∃ c, v.conc ρ = some c ∧ (binOp op t (strV la a) (strV lb b)).run P w = .ok c w := by
  obtain ⟨h1, h2⟩ := less_strCmp ha hb
  have h3 := strEq_eq ha hb
  have key : (Op.bytesLess (bytesL la a) (bytesL lb b) || bytesL la a == bytesL lb b) = !isGt (strCmp la a lb b) := by
    rw [h1, ← h3]
    have : strEq la a lb b = (match strCmp la a lb b with | .eq => true | _ => false) := by
      rw [h3, Bool.eq_iff_iff, beq_iff_eq]
      constructor
      · intro e
        have e1 : Op.bytesLess (bytesL la a) (bytesL lb b) = false := by
          rw [e]
          have := less_same lb b b hb hb
          simpa using this
        have e2 : Op.bytesLess (bytesL lb b) (bytesL la a) = false := by
          rw [← e]
          have := less_same la a a ha ha
          simpa using this
        rw [e1] at h1; rw [e2] at h2
        cases hc : strCmp la a lb b with
        | lt => simp [hc, isLt] at h1
        | gt => simp [hc, isGt] at h2
        | eq => rfl
      · intro e
        have hc : strCmp la a lb b = .eq := by
          cases hc : strCmp la a lb b <;> simp [hc] at e ⊢
        have : la = lb ∧ a = b := by
          unfold strCmp at hc
          simp only [minN_eq] at hc
          split at hc
          · cases hc
          · rename_i e1
            split at hc
            · cases hc
            · rename_i e2
              split at hc
              · cases hc
              · rename_i e3
                split at hc
                · cases hc
                · rename_i e4
                  have blt : ∀ i j : Nat, Nat.blt i j = false → ¬ i < j := by
                    intro i j hij hlt
                    have : Nat.blt i j = true := by rw [Nat.blt_eq]; exact hlt
                    rw [this] at hij; cases hij
                  have f3 := blt _ _ e3
                  have f4 := blt _ _ e4
                  have hl : la = lb := by omega
                  subst hl
                  have f1 := blt _ _ e1
                  have f2 := blt _ _ e2
                  simp only [Nat.min_self, Nat.sub_eq, Nat.sub_self, pw_zero] at f1 f2
                  refine ⟨rfl, ?_⟩
                  have g1 : ∀ n : Nat, Nat.div n 1 = n := fun n => Nat.div_one n
                  rw [g1, g1] at f1 f2
                  omega
        rw [this.1, this.2]
    rw [this]
    cases strCmp la a lb b <;> rfl
  cases op <;> simp only [strOpC] at h
  case add =>
    cases hlt : Nat.blt (Nat.add la lb) 1000000000 with
    | false => rw [hlt] at h; cases h
    | true =>
      rw [hlt] at h
      cases h
      have hlt' : la + lb < 1000000000 := by
        rw [Nat.blt_eq] at hlt
        exact hlt
      refine ⟨strV (la + lb) (cat a b lb), conc_str.2 ⟨cat_lt ha hb, rfl⟩, ?_⟩
      have hsz : ∀ l n : Nat, (⟨(bytesL l n).toArray⟩ : ByteArray).size = l := by
        intro l n; show (bytesL l n).toArray.size = l; simp
      simp only [strV, binOp, Op.stringOp, hsz]
      have hmx : ¬ (((la + lb : Nat) : Int) > IntKind.i64.max) := by
        simp only [IntKind.max, IntKind.signed, IntKind.bits]
        simp
        omega
      rw [if_neg hmx]
      simp only [Sem.run_pure]
      congr 2
      rw [bytesL_cat hb]
      apply ByteArray.ext
      simp
  case eql =>
    cases h
    refine ⟨_, rfl, ?_⟩
    simp [strV, binOp, Op.stringOp, h3]
  case neq =>
    cases h
    refine ⟨_, rfl, ?_⟩
    simp [strV, binOp, Op.stringOp, h3]
  case lss =>
    cases h
    refine ⟨_, rfl, ?_⟩
    simp [strV, binOp, Op.stringOp, h1]
  case leq =>
    cases h
    refine ⟨_, rfl, ?_⟩
    simp [strV, binOp, Op.stringOp, key]
  case gtr =>
    cases h
    refine ⟨_, rfl, ?_⟩
    simp only [strV, binOp, Op.stringOp, toList_strV, key, Sem.run_pure, Bool.not_not]
  case geq =>
    cases h
    refine ⟨_, rfl, ?_⟩
    simp [strV, binOp, Op.stringOp, h1]
  all_goals cases h

end Go.Proofs.YtpmildboffolkaaGreat.Abs

namespace Go.Proofs.YtpmildboffolkaaGreat.Abs

/-! ## The heap -/
def concE (ρ : Env) : List (AV × AV × Nat) → Option (List MapEntry)
  | [] => some []
  | (k, v, n) :: es => match k.conc ρ, v.conc ρ, concE ρ es with
    | some a, some b, some l => some ({ key := a, val := b, born := n } :: l)
    | _, _, _ => none

theorem concE_mono {ρ ρ' : Env} (h : ρ.Le ρ') : ∀ (es : List (AV × AV × Nat)) (l : List MapEntry), concE ρ es = some l → concE ρ' es = some l
  | [], l, e => e
  | (k, v, n) :: es, l, e => by
    simp only [concE] at e ⊢
    split at e
    · rename_i a b r ha hb hr
      rw [AV.conc_mono h k a ha, AV.conc_mono h v b hb, concE_mono h es r hr]
      exact e
    · cases e
theorem concE_cons {ρ : Env} {k v : AV} {n : Nat} {es : List (AV × AV × Nat)} {l : List MapEntry} : concE ρ ((k, v, n) :: es) = some l ↔
    ∃ a b r, k.conc ρ = some a ∧ v.conc ρ = some b ∧ concE ρ es = some r ∧ l = { key := a, val := b, born := n } :: r := by
  simp only [concE]
  constructor
  · intro h
    split at h
    · rename_i a b r ha hb hr
      cases h
      exact ⟨a, b, r, ha, hb, hr, rfl⟩
    · cases h
  · rintro ⟨a, b, r, ha, hb, hr, rfl⟩
    rw [ha, hb, hr]

/-- a frame's slots -/
def TRel (ρ : Env) (kept nt : Nat) (T : Tr AV) (tmps : Array Value) : Prop :=
  tmps.size = nt ∧ ∀ t x, T.get t = some x → Nat.testBit kept t = true ∧ ∃ v, x.conc ρ = some v ∧ tmps[t]? = some v

theorem TRel.mono {ρ ρ' : Env} (h : ρ.Le ρ') {kept nt : Nat} {T : Tr AV} {tmps : Array Value} (k : TRel ρ kept nt T tmps) : TRel ρ' kept nt T tmps :=
  ⟨k.1, fun t x e => let ⟨a, v, b, c⟩ := k.2 t x e; ⟨a, v, AV.conc_mono h x v b, c⟩⟩

variable (P : Program)

/-- a row of cells, its end open or not -/
structure RowRel (ρ : Env) (b : Nat) (c : Chunk) (elem : Nat) (opn : Bool) (arr : Array Value) (fz : Nat × Nat) : Prop where
  cells : ∃ vs, concC ρ c = some vs ∧ (opn = false → arr.toList = vs) ∧ (opn = true → ∃ r, arr.toList = vs ++ r)
  size : opn = true → ∃ z, sizeT P elem = some (z + 1) ∧ arr.size = ρ.cap b * (z + 1)
  kind : c.isBytes = byteT P elem
  plain : byteT P elem = false → fz = (0, 0)
  free : ∀ off, off < arr.size → ¬ (fz.1 ≤ off ∧ off < fz.2)
  ord : fz.1 ≤ fz.2

def ORel (ρ : Env) (b : Nat) (o : AObj) (obj : Obj) : Prop :=
  match o with
  | .row c elem opn => ∃ arr fz, obj = .cells arr elem fz ∧ RowRel P ρ b c elem opn arr fz
  | .map es clock => ∃ l, concE ρ es = some l ∧ obj = .map l.toArray clock
  | .mapIter none s seen c => obj = .mapIter none s seen.toArray c
  | .mapIter (some m) s seen c => ∃ cm, ρ.blk m = some cm ∧ obj = .mapIter (some cm) s seen.toArray c
  | .loop st pd q => ∃ fn tm df, obj = .loop { state := st, pending := pd, fn := fn, tmps := tm, params := q.params.toArray, assign := q.assign, body := q.body, defers := df } ∧
      ρ.blk q.defers = some df ∧ TRel ρ q.kept q.nt q.tmps tm
  | .deferred => obj = .deferred (some [])

theorem ORel.mono {ρ ρ' : Env} (h : ρ.Le ρ') {b : Nat} {o : AObj} {obj : Obj} {c : Nat} (hb : ρ.blk b = some c) (k : ORel P ρ b o obj) : ORel P ρ' b o obj := by
  unfold ORel at k ⊢
  split at k
  · obtain ⟨arr, fz, rfl, hr⟩ := k
    refine ⟨arr, fz, rfl, ?_, ?_, hr.kind, hr.plain, hr.free, hr.ord⟩
    · obtain ⟨vs, h1, h2, h3⟩ := hr.cells
      exact ⟨vs, concC_mono h h1, h2, h3⟩
    · intro ho
      obtain ⟨z, h1, h2⟩ := hr.size ho
      exact ⟨z, h1, by rw [(h b c hb).2]; exact h2⟩
  · obtain ⟨l, h1, h2⟩ := k
    exact ⟨l, concE_mono h _ _ h1, h2⟩
  · exact k
  · obtain ⟨cm, h1, h2⟩ := k
    exact ⟨cm, (h _ _ h1).1, h2⟩
  · obtain ⟨fn, tm, df, h1, h2, h3⟩ := k
    exact ⟨fn, tm, df, h1, (h _ _ h2).1, h3.mono h⟩
  · exact k

structure HRel (ρ : Env) (H : AHeap) (w : World) : Prop where
  obj : ∀ b e, H.get b = some e → ∃ c o, ρ.blk b = some c ∧ w.heap[c]? = some o ∧ ORel P ρ b e.obj o
  sep : ∀ b b' e e' c, H.get b = some e → H.get b' = some e' → ρ.blk b = some c → ρ.blk b' = some c → b = b' ∨ (e.lk = some b' ∧ e'.lk = some b)
  fresh : ∀ b c, ρ.blk b = some c → b < H.next

structure Same (w w' : World) : Prop where
  os : w'.os = w.os
  output : w'.output = w.output
  tape : w'.tape = w.tape
theorem Same.refl (w : World) : Same w w := ⟨rfl, rfl, rfl⟩
theorem Same.trans {a b c : World} (h : Same a b) (k : Same b c) : Same a c := ⟨k.os.trans h.os, k.output.trans h.output, k.tape.trans h.tape⟩

/-- from one heap to another -/
structure Step (ρ : Env) (H : AHeap) (w : World) (ρ' : Env) (H' : AHeap) (w' : World) : Prop where
  le : ρ.Le ρ'
  rel : HRel P ρ' H' w'
  next : H.next ≤ H'.next
  news : ∀ b c, ρ'.blk b = some c → ρ.blk b = some c ∨ H.next ≤ b
  size : w.heap.size ≤ w'.heap.size
  frame : ∀ r, r < w.heap.size → (∀ b e, H.get b = some e → ρ.blk b ≠ some r) → w'.heap[r]? = w.heap[r]?
  img : ∀ b e r, H'.get b = some e → ρ'.blk b = some r → r < w.heap.size → ∃ b0 e0, H.get b0 = some e0 ∧ ρ.blk b0 = some r
  same : Same w w'

variable {P}
theorem Step.refl {ρ : Env} {H : AHeap} {w : World} (h : HRel P ρ H w) : Step P ρ H w ρ H w :=
  ⟨.refl ρ, h, Nat.le_refl _, fun _ _ e => .inl e, Nat.le_refl _, fun _ _ _ => rfl, fun b e _ hb hr _ => ⟨b, e, hb, hr⟩, .refl w⟩

theorem Step.trans {ρ ρ1 ρ2 : Env} {H H1 H2 : AHeap} {w w1 w2 : World} (h : Step P ρ H w ρ1 H1 w1) (k : Step P ρ1 H1 w1 ρ2 H2 w2) : Step P ρ H w ρ2 H2 w2 where
  le := h.le.trans k.le
  rel := k.rel
  next := Nat.le_trans h.next k.next
  news := fun b c e => by
    rcases k.news b c e with e1 | e1
    · exact h.news b c e1
    · exact .inr (Nat.le_trans h.next e1)
  size := Nat.le_trans h.size k.size
  frame := fun r hr hn => by
    rw [k.frame r (Nat.lt_of_lt_of_le hr h.size) ?_, h.frame r hr hn]
    intro b e hb he
    obtain ⟨b0, e0, h0, h1⟩ := h.img b e r hb he hr
    exact hn b0 e0 h0 h1
  img := fun b e r hb he hr => by
    obtain ⟨b1, e1, h1, h2⟩ := k.img b e r hb he (Nat.lt_of_lt_of_le hr h.size)
    exact h.img b1 e1 r h1 h2 hr
  same := h.same.trans k.same

theorem Step.conc {ρ ρ' : Env} {H H' : AHeap} {w w' : World} (h : Step P ρ H w ρ' H' w') {v : AV} {c : Value} (e : v.conc ρ = some c) : v.conc ρ' = some c := AV.conc_mono h.le v c e

/-- a draw changes nothing that is looked at -/
theorem HRel.heap_eq {ρ : Env} {H : AHeap} {w w' : World} (h : HRel P ρ H w) (e : w'.heap = w.heap) : HRel P ρ H w' :=
  ⟨fun b x hb => by rw [e]; exact h.obj b x hb, h.sep, h.fresh⟩
theorem Step.heap_eq {ρ : Env} {H : AHeap} {w w' : World} (h : HRel P ρ H w) (e : w'.heap = w.heap) (s : Same w w') : Step P ρ H w ρ H w' :=
  ⟨.refl ρ, h.heap_eq e, Nat.le_refl _, fun _ _ x => .inl x, by rw [e]; exact Nat.le_refl _, fun r _ _ => by rw [e], fun b e _ hb hr _ => ⟨b, e, hb, hr⟩, s⟩

theorem HRel.lt {ρ : Env} {H : AHeap} {w : World} (h : HRel P ρ H w) {b c : Nat} {e : AEnt} (hb : H.get b = some e) (hc : ρ.blk b = some c) : c < w.heap.size := by
  obtain ⟨c', o, h1, h2, _⟩ := h.obj b e hb
  rw [hc] at h1
  cases h1
  exact (Array.getElem?_eq_some_iff.1 h2).1

/-! ### A block more -/
/-- one block is laid, under whatever free name -/
theorem lay_step {ρ : Env} {H : AHeap} {w w' : World} {b n nx : Nat} {o : AObj} {obj : Obj} (h : HRel P ρ H w) (hw : w'.heap = w.heap.push obj) (hs : Same w w')
    (hb : ρ.blk b = none) (hnx : H.next ≤ nx) (hbn : b < nx) (ho : ORel P (ρ.ext b w.heap.size n) b o obj) :
    HRel P (ρ.ext b w.heap.size n) ⟨nx, H.tr.set b (some ⟨o, none⟩)⟩ w' ∧ ρ.Le (ρ.ext b w.heap.size n) := by
  have hle := ρ.le_ext b w.heap.size n hb
  have hbH : H.get b = none := by
    cases hg : H.get b with
    | none => rfl
    | some e => obtain ⟨c, _, h1, _⟩ := h.obj b e hg; rw [hb] at h1; cases h1
  have hget : ∀ x, (⟨nx, H.tr.set b (some ⟨o, none⟩)⟩ : AHeap).get x = if x = b then some ⟨o, none⟩ else H.get x := fun x => Tr.get_set _ _ _ _
  have old : ∀ x e, (⟨nx, H.tr.set b (some ⟨o, none⟩)⟩ : AHeap).get x = some e → x = b ∧ e = ⟨o, none⟩ ∨ x ≠ b ∧ H.get x = some e := by
    intro x e hx
    rw [hget] at hx
    by_cases hxb : x = b
    · rw [if_pos hxb] at hx; cases hx; exact .inl ⟨hxb, rfl⟩
    · rw [if_neg hxb] at hx; exact .inr ⟨hxb, hx⟩
  refine ⟨⟨?_, ?_, ?_⟩, hle⟩
  · intro x e hx
    rcases old x e hx with ⟨rfl, rfl⟩ | ⟨hxb, hx⟩
    · exact ⟨w.heap.size, obj, by simp, by rw [hw]; simp, ho⟩
    · obtain ⟨c, o', h1, h2, h3⟩ := h.obj x e hx
      have hlt := (Array.getElem?_eq_some_iff.1 h2).1
      refine ⟨c, o', (hle x c h1).1, ?_, h3.mono P hle h1⟩
      rw [hw, Array.getElem?_push, if_neg (Nat.ne_of_lt hlt)]
      exact h2
  · intro x y e e' c hx hy hcx hcy
    rcases old x e hx with ⟨rfl, rfl⟩ | ⟨hxb, hx'⟩ <;> rcases old y e' hy with ⟨rfl, rfl⟩ | ⟨hyb, hy'⟩
    · exact .inl rfl
    · simp at hcx
      rw [Env.ext_other _ _ _ hyb] at hcy
      have := h.lt hy' hcy
      omega
    · simp at hcy
      rw [Env.ext_other _ _ _ hxb] at hcx
      have := h.lt hx' hcx
      omega
    · rw [Env.ext_other _ _ _ hxb] at hcx
      rw [Env.ext_other _ _ _ hyb] at hcy
      exact h.sep x y e e' c hx' hy' hcx hcy
  · intro x c hx
    by_cases hxb : x = b
    · subst hxb; exact hbn
    · rw [Env.ext_other _ _ _ hxb] at hx
      exact Nat.lt_of_lt_of_le (h.fresh x c hx) hnx

theorem new_step {ρ : Env} {H : AHeap} {w w' : World} {n : Nat} {o : AObj} {obj : Obj} (h : HRel P ρ H w) (hw : w'.heap = w.heap.push obj) (hs : Same w w')
    (ho : ORel P (ρ.ext H.next w.heap.size n) H.next o obj) : Step P ρ H w (ρ.ext H.next w.heap.size n) (H.new o) w' := by
  have hb : ρ.blk H.next = none := by
    cases hg : ρ.blk H.next with
    | none => rfl
    | some c => exact absurd (h.fresh _ _ hg) (Nat.lt_irrefl _)
  obtain ⟨h1, h2⟩ := lay_step (nx := H.next + 1) h hw hs hb (Nat.le_succ _) (Nat.lt_succ_self _) ho
  refine ⟨h2, h1, Nat.le_succ _, ?_, by rw [hw]; simp, ?_, ?_, hs⟩
  · intro b c hbc
    by_cases e : b = H.next
    · exact .inr (by omega)
    · rw [Env.ext_other _ _ _ e] at hbc; exact .inl hbc
  · intro r hr _
    rw [hw, Array.getElem?_push, if_neg (Nat.ne_of_lt hr)]
  · intro b e r hbe hbr hr
    by_cases eb : b = H.next
    · subst eb; simp at hbr; omega
    · rw [Env.ext_other _ _ _ eb] at hbr
      have : (H.new o).get b = H.get b := Tr.get_set_other _ _ eb
      rw [this] at hbe
      exact ⟨b, e, hbe, hbr⟩

/-! ### A block is changed -/
theorem put_get (H : AHeap) (b : Nat) (lk : Option Nat) (o : AObj) (x : Nat) : (H.put b lk o).get x = if x = b then some ⟨o, none⟩ else if lk = some x then none else H.get x := by
  cases lk with
  | none => simp [AHeap.put, AHeap.get, Tr.get_set]
  | some p =>
    simp only [AHeap.put, AHeap.get, Tr.get_set]
    by_cases h1 : x = b
    · simp [h1]
    · by_cases h2 : x = p
      · subst h2; simp [h1]
      · have : p ≠ x := fun e => h2 e.symm
        simp [h1, h2, this]

theorem put_step {ρ : Env} {H : AHeap} {w w' : World} {b cb : Nat} {o0 o : AObj} {lk : Option Nat} {obj : Obj} (h : HRel P ρ H w) (hb : H.get b = some ⟨o0, lk⟩) (hcb : ρ.blk b = some cb)
    (hz : w'.heap.size = w.heap.size) (hat : w'.heap[cb]? = some obj) (hot : ∀ r, r ≠ cb → w'.heap[r]? = w.heap[r]?) (hs : Same w w')
    (ho : ORel P ρ b o obj) : Step P ρ H w ρ (H.put b lk o) w' := by
  have old : ∀ x e, (H.put b lk o).get x = some e → x = b ∧ e = ⟨o, none⟩ ∨ x ≠ b ∧ lk ≠ some x ∧ H.get x = some e := by
    intro x e hx
    rw [put_get] at hx
    by_cases h1 : x = b
    · rw [if_pos h1] at hx; cases hx; exact .inl ⟨h1, rfl⟩
    · rw [if_neg h1] at hx
      by_cases h2 : lk = some x
      · rw [if_pos h2] at hx; cases hx
      · rw [if_neg h2] at hx; exact .inr ⟨h1, h2, hx⟩
  have away : ∀ x e c, x ≠ b → lk ≠ some x → H.get x = some e → ρ.blk x = some c → c ≠ cb := by
    intro x e c h1 h2 h3 h4 h5
    subst h5
    rcases h.sep b x _ e c hb h3 hcb h4 with h6 | ⟨h6, _⟩
    · exact h1 h6.symm
    · exact h2 h6
  have hn : (H.put b lk o).next = H.next := by cases lk <;> rfl
  refine ⟨.refl ρ, ⟨?_, ?_, ?_⟩, by rw [hn]; exact Nat.le_refl _, fun _ _ e => .inl e, by rw [hz]; exact Nat.le_refl _, ?_, ?_, hs⟩
  · intro x e hx
    rcases old x e hx with ⟨rfl, rfl⟩ | ⟨h1, h2, h3⟩
    · exact ⟨cb, obj, hcb, hat, ho⟩
    · obtain ⟨c, o', h4, h5, h6⟩ := h.obj x e h3
      exact ⟨c, o', h4, by rw [hot c (away x e c h1 h2 h3 h4)]; exact h5, h6⟩
  · intro x y e e' c hx hy hcx hcy
    rcases old x e hx with ⟨rfl, rfl⟩ | ⟨h1, h2, h3⟩ <;> rcases old y e' hy with ⟨rfl, rfl⟩ | ⟨k1, k2, k3⟩
    · exact .inl rfl
    · rw [hcb] at hcx; cases hcx
      exact absurd rfl (away y e' cb k1 k2 k3 hcy)
    · rw [hcb] at hcy; cases hcy
      exact absurd rfl (away x e cb h1 h2 h3 hcx)
    · exact h.sep x y e e' c h3 k3 hcx hcy
  · intro x c hx; rw [hn]; exact h.fresh x c hx
  · intro r _ hn'
    refine hot r ?_
    rintro rfl
    exact hn' b _ hb hcb
  · intro x e r hx hr _
    rcases old x e hx with ⟨rfl, rfl⟩ | ⟨_, _, h3⟩
    · exact ⟨x, _, hb, hr⟩
    · exact ⟨x, e, h3, hr⟩

/-! ### Rows: reading -/
theorem asRow_eq {e : Option AEnt} {c : Chunk} {el : Nat} {op : Bool} {lk : Option Nat} (h : asRow e = some (c, el, op, lk)) : e = some ⟨.row c el op, lk⟩ := by
  unfold asRow at h
  split at h
  · cases h; rfl
  · cases h

theorem HRel.row {ρ : Env} {H : AHeap} {w : World} (h : HRel P ρ H w) {b : Nat} {c : Chunk} {el : Nat} {op : Bool} {lk : Option Nat} (hr : asRow (H.get b) = some (c, el, op, lk)) :
    ∃ cb arr fz vs r, H.get b = some ⟨.row c el op, lk⟩ ∧ ρ.blk b = some cb ∧ w.heap[cb]? = some (.cells arr el fz) ∧ RowRel P ρ b c el op arr fz ∧ concC ρ c = some vs ∧ arr.toList = vs ++ r ∧ (op = false → r = []) := by
  have hg := asRow_eq hr
  obtain ⟨cb, o, h1, h2, h3⟩ := h.obj b _ hg
  obtain ⟨arr, fz, rfl, h4⟩ := h3
  obtain ⟨vs, h5, h6, h7⟩ := h4.cells
  cases op with
  | false => exact ⟨cb, arr, fz, vs, [], hg, h1, h2, h4, h5, by simpa using h6 rfl, fun _ => rfl⟩
  | true =>
    obtain ⟨r, h8⟩ := h7 rfl
    exact ⟨cb, arr, fz, vs, r, hg, h1, h2, h4, h5, h8, fun e => by cases e⟩

theorem cell_of (w : World) {cb : Nat} {arr : Array Value} {el : Nat} {fz : Nat × Nat} (h : w.heap[cb]? = some (.cells arr el fz)) (off : Nat) : w.cell? ⟨cb, off, none⟩ = arr.toList[off]? := by
  rw [cell_of_row w cb off arr el fz h]
  simp

theorem readPart_sound {ρ : Env} {H : AHeap} {w : World} (h : HRel P ρ H w) {b off n : Nat} {x : Chunk} (hp : readPart H b off n = some x) :
    ∃ cb xs, ρ.blk b = some cb ∧ concC ρ x = some xs ∧ xs.length = n ∧ ∀ j v, xs[j]? = some v → w.cell? ⟨cb, off + j, none⟩ = some v := by
  unfold readPart at hp
  split at hp
  · rename_i c el op lk hr
    obtain ⟨cb, arr, fz, vs, r, hg, h1, h2, h3, h4, h5, _⟩ := h.row hr
    obtain ⟨h6, h7⟩ := Chunk.part_conc h4 hp
    refine ⟨cb, _, h1, h6, by rw [List.length_take, List.length_drop]; omega, ?_⟩
    intro j v hj
    rw [cell_of w h2, h5]
    rw [List.getElem?_take, List.getElem?_drop] at hj
    split at hj
    · have hlt : off + j < vs.length := by
        rcases Nat.lt_or_ge (off + j) vs.length with h8 | h8
        · exact h8
        · rw [List.getElem?_eq_none h8] at hj; cases hj
      rw [List.getElem?_append_left hlt]
      exact hj
    · cases hj
  · cases hp

theorem readCell_sound {ρ : Env} {H : AHeap} {w : World} (h : HRel P ρ H w) {b off : Nat} {x : AV} (hp : readCell H b off = some x) :
    ∃ cb v, ρ.blk b = some cb ∧ x.conc ρ = some v ∧ w.cell? ⟨cb, off, none⟩ = some v := by
  unfold readCell at hp
  split at hp
  · rename_i c el op lk hr
    obtain ⟨cb, arr, fz, vs, r, hg, h1, h2, h3, h4, h5, _⟩ := h.row hr
    obtain ⟨v, h6, h7⟩ := Chunk.get_conc h4 hp
    refine ⟨cb, v, h1, h7, ?_⟩
    rw [cell_of w h2, h5]
    have hlt : off < vs.length := (List.getElem?_eq_some_iff.1 h6).1
    rw [List.getElem?_append_left hlt]
    exact h6
  · cases hp

theorem addr_add (cb off j : Nat) : (⟨cb, off, none⟩ : Addr).add j = ⟨cb, off + j, none⟩ := by
  unfold Addr.add
  split
  · rename_i h; subst h; rfl
  · rfl

theorem run_load_part {w : World} {cb off : Nat} {xs : List Value} (h : ∀ j v, xs[j]? = some v → w.cell? ⟨cb, off + j, none⟩ = some v) : (loadCells ⟨cb, off, none⟩ xs.length).run P w = .ok xs.toArray w :=
  run_loadCells_list w _ xs (fun j v hj => by rw [addr_add]; exact h j v hj)

/-! ### Rows: writing -/
theorem run_store_row {g o : Nat} {t : TypeId} {fz : Nat × Nat} : ∀ (vs : List Value) (i : Nat) (cur : Array Value) (w : World), w.heap[g]? = some (.cells cur t fz) → o + i + vs.length ≤ cur.size → (∀ v ∈ vs, v.oneCell' = true) →
    (∀ off, off < cur.size → ¬ (fz.1 ≤ off ∧ off < fz.2)) →
    (storeCells ⟨g, o, none⟩ vs i).run P w = .ok () (w.setRow g (cur.toList.take (o + i) ++ vs ++ cur.toList.drop (o + i + vs.length)).toArray)
  | [], i, cur, w, hg, _, _, _ => by
    simp only [storeCells, List.append_nil, List.length_nil, Nat.add_zero, List.take_append_drop, Array.toArray_toList]
    rw [setRow_self w g cur t fz hg]
    rfl
  | v :: rest, i, cur, w, hg, hl, h1, hf => by
    have hi : o + i < cur.size := by simp at hl; omega
    have hcell : w.cell? ⟨g, o + i, none⟩ = some cur[o + i] := by simp [World.cell?, hg, hi]
    have hfro : w.frozen? ⟨g, o + i, none⟩ = false := by
      have := hf _ hi
      simp only [World.frozen?, hg, Bool.and_eq_false_iff, decide_eq_false_iff_not]
      omega
    have hst : (store ((⟨g, o, none⟩ : Addr).add i) v).run P w = .ok () (w.setRow g (cur.setIfInBounds (o + i) v)) := by
      rw [addr_add, run_store P w _ v _ (h1 v (by simp)), hcell]
      simp [hfro, setCell_eq_setRow w g (o + i) cur t fz v hg]
    have ih := run_store_row (o := o) rest (i + 1) (cur.setIfInBounds (o + i) v) (w.setRow g (cur.setIfInBounds (o + i) v)) (setRow_heap w g cur _ t _ hg) (by simp at hl ⊢; omega) (fun x hx => h1 x (by simp [hx])) (by simpa using hf)
    simp only [storeCells, Sem.run_bind, hst, Result.andThen_ok, ih, setRow_setRow]
    congr 3
    have e := list_seg_step cur.toList (o + i) v rest (by simp at hl ⊢; omega)
    simpa [Array.toList_setIfInBounds, Nat.add_assoc] using e

theorem Same.setRow (w : World) (g : Nat) (cs : Array Value) : Same w (w.setRow g cs) := ⟨rfl, rfl, rfl⟩

theorem writePart_sound {ρ : Env} {H H' : AHeap} {w : World} (h : HRel P ρ H w) {b off : Nat} {x : Chunk} {xs : List Value} (hx : concC ρ x = some xs) (hp : writePart H b off x = some H') :
    ∃ cb w', ρ.blk b = some cb ∧ (storeCells ⟨cb, off, none⟩ xs).run P w = .ok () w' ∧ Step P ρ H w ρ H' w' := by
  unfold writePart at hp
  split at hp
  · rename_i c el op lk hr
    obtain ⟨cb, arr, fz, vs, r, hg, h1, h2, h3, h4, h5, h6⟩ := h.row hr
    cases hc : c.put off x with
    | none => rw [hc] at hp; cases hp
    | some c' =>
      rw [hc] at hp
      cases hp
      have hlt : cb < w.heap.size := (Array.getElem?_eq_some_iff.1 h2).1
      rcases Chunk.put_conc h4 hx hc with ⟨h7, h8⟩ | ⟨h7, h8⟩
      · have hsz : arr.size = vs.length + r.length := by rw [← Array.length_toList, h5, List.length_append]
        have hst := run_store_row (P := P) (o := off) xs 0 arr w h2 (by omega) (concC_one hx) h3.free
        simp only [Nat.add_zero] at hst
        refine ⟨cb, _, h1, hst, ?_⟩
        have hlist : arr.toList.take off ++ xs ++ arr.toList.drop (off + xs.length) = (vs.take off ++ xs ++ vs.drop (off + xs.length)) ++ r := by
          rw [h5, List.take_append_of_le_length (by omega), List.drop_append_of_le_length (by omega)]
          simp
        refine put_step h hg h1 (by simp) (setRow_heap w cb arr _ el fz h2) (fun r' hr' => setRow_other w cb r' _ hr') (.setRow w cb _) ?_
        refine ⟨_, fz, rfl, ?_, ?_, ?_, h3.plain, ?_, h3.ord⟩
        · refine ⟨_, h7, ?_, ?_⟩
          · intro ho
            rw [h6 ho, List.append_nil] at hlist
            simpa using hlist
          · intro _
            exact ⟨r, by simpa using hlist⟩
        · intro ho
          obtain ⟨z, hz1, hz2⟩ := h3.size ho
          refine ⟨z, hz1, ?_⟩
          rw [← hz2, hsz, List.size_toArray, hlist]
          simp
          omega
        · rw [Chunk.put_isBytes hc]; exact h3.kind
        · intro o' ho'
          apply h3.free
          rw [List.size_toArray, hlist] at ho'
          simp at ho'
          omega
      · subst h7; subst h8
        refine ⟨cb, w, h1, rfl, ?_⟩
        exact put_step h hg h1 rfl h2 (fun _ _ => rfl) (.refl w) ⟨arr, fz, rfl, h3⟩
  · cases hp

end Go.Proofs.YtpmildboffolkaaGreat.Abs

namespace Go.Proofs.YtpmildboffolkaaGreat.Abs
variable {P : Program} {ρ : Env} {H : AHeap} {w : World}

/-! ## Types -/
theorem run_sizeT {t n : Nat} (h : sizeT P t = some n) (w : World) : (sizeOf t).run P w = .ok n w := by
  unfold sizeT at h
  split at h
  · rename_i i hi
    cases h
    simp [sizeOf, typeInfo, hi]
  · cases h
theorem sizeT_info {t n : Nat} (h : sizeT P t = some n) : ∃ i, P.info? t = some i ∧ i.size = n := by
  unfold sizeT at h
  split at h
  · rename_i i hi; cases h; exact ⟨i, hi, rfl⟩
  · cases h
theorem isAggT_desc {t : Nat} {b : Bool} (h : isAggT P t = some b) : ∃ d, P.underlying t = some d ∧ aggD d = b := by
  unfold isAggT at h
  split at h
  · rename_i d hd; cases h; exact ⟨d, hd, rfl⟩
  · cases h
theorem run_isAggT {t : Nat} {b : Bool} (h : isAggT P t = some b) (w : World) : (isAgg t).run P w = .ok b w := by
  obtain ⟨d, hd, rfl⟩ := isAggT_desc h
  unfold isAgg
  rw [Sem.run_bind, run_underlying hd w]
  cases d <;> rfl

theorem arrD_eq {d : TypeDesc} {n e : Nat} (h : arrD d = some (n, e)) : d = .array n e := by
  unfold arrD at h; split at h <;> cases h; rfl
theorem sliD_eq {d : TypeDesc} {e : Nat} (h : sliD d = some e) : d = .slice e := by
  unfold sliD at h; split at h <;> cases h; rfl
theorem strD_eq {d : TypeDesc} (h : strD d = true) : d = .string := by
  unfold strD at h; split at h <;> first | rfl | cases h
theorem intD_eq {d : TypeDesc} {k : IntKind} (h : intD d = some k) : d = .int k := by
  unfold intD at h; split at h <;> cases h; rfl
theorem fieldsD_eq {d : TypeDesc} {fs : Array Field} (h : fieldsD d = some fs) : d = .struct fs := by
  unfold fieldsD at h; split at h <;> cases h; rfl
theorem mapD_eq {d : TypeDesc} {k e : Nat} (h : mapD d = some (k, e)) : d = .map k e := by
  unfold mapD at h; split at h <;> cases h; rfl
theorem u8D_eq {d : TypeDesc} (h : u8D d = true) : d = .int .u8 := by
  unfold u8D at h; split at h <;> first | rfl | cases h
theorem sliT_eq {t e : Nat} (h : sliT P t = some e) : P.underlying t = some (.slice e) := by
  unfold sliT at h
  split at h
  · rename_i d hd; rw [hd, sliD_eq h]
  · cases h
theorem u8T_eq {t : Nat} (h : u8T P t = true) : P.underlying t = some (.int .u8) := by
  unfold u8T at h
  split at h
  · rename_i d hd; rw [hd, u8D_eq h]
  · cases h

/-! ## What a value is -/
theorem asBool_eq {x : AV} {b : Bool} (h : x.asBool = some b) : x = .bool b := by
  unfold AV.asBool at h; split at h <;> cases h; rfl
theorem asInt_eq {x : AV} {k : IntKind} {n : Int} (h : x.asInt = some (k, n)) : x = .int k n := by
  unfold AV.asInt at h; split at h <;> cases h; rfl
theorem asNat_eq {x : AV} {n : Nat} (h : x.asNat = some n) : ∃ k, x = .int k (.ofNat n) := by
  unfold AV.asNat at h; split at h <;> cases h; exact ⟨_, rfl⟩
theorem asStr_eq {x : AV} {l n : Nat} (h : x.asStr = some (l, n)) : x = .str l n := by
  unfold AV.asStr at h; split at h <;> cases h; rfl
theorem asPtr_eq {x : AV} {b o : Nat} (h : x.asPtr = some (b, o)) : x = .ptr b o := by
  unfold AV.asPtr at h; split at h <;> cases h; rfl
theorem asSlice_eq {x : AV} {b o l : Nat} {c : ACap} (h : x.asSlice = some (b, o, l, c)) : x = .slice b o l c := by
  unfold AV.asSlice at h; split at h <;> cases h; rfl
theorem isNils_eq {x : AV} (h : x.isNils = true) : x = .nils := by
  unfold AV.isNils at h; split at h <;> first | rfl | cases h
theorem isEnd_eq {x : AV} (h : x.isEnd = true) : ∃ b o l z k, x = .send b o l z k := by
  unfold AV.isEnd at h; split at h <;> first | exact ⟨_, _, _, _, _, rfl⟩ | cases h
theorem asMap_eq {x : AV} {r : Nat} (h : x.asMap = some r) : x = .map r := by
  unfold AV.asMap at h; split at h <;> cases h; rfl
theorem isNilm_eq {x : AV} (h : x.isNilm = true) : x = .nilm := by
  unfold AV.isNilm at h; split at h <;> first | rfl | cases h
theorem asAgg_eq {x : AV} {l : List AV} (h : x.asAgg = some l) : x = .agg l := by
  unfold AV.asAgg at h; split at h <;> cases h; rfl
theorem asTuple_eq {x : AV} {l : List AV} (h : x.asTuple = some l) : x = .tuple l := by
  unfold AV.asTuple at h; split at h <;> cases h; rfl
theorem asIface_eq {x : AV} {t : Nat} {v : AV} (h : x.asIface = some (t, v)) : x = .iface t v := by
  unfold AV.asIface at h; split at h <;> cases h; rfl

theorem conc_ptr {b o : Nat} {c : Value} : (AV.ptr b o).conc ρ = some c ↔ ∃ cb, ρ.blk b = some cb ∧ c = .pointer (some ⟨cb, o, none⟩) := by
  simp only [AV.conc]
  cases ρ.blk b <;> simp [eq_comm]
theorem conc_map {b : Nat} {c : Value} : (AV.map b).conc ρ = some c ↔ ∃ cb, ρ.blk b = some cb ∧ c = .map (some cb) := by
  simp only [AV.conc]
  cases ρ.blk b <;> simp [eq_comm]
theorem conc_agg {l : List AV} {c : Value} : (AV.agg l).conc ρ = some c ↔ ∃ vs, AV.concL ρ l = some vs ∧ vs.all Value.oneCell' = true ∧ c = .agg vs.toArray := by
  simp only [AV.conc]
  cases AV.concL ρ l with
  | none => simp
  | some vs =>
    simp only [Option.some.injEq]
    by_cases h : vs.all Value.oneCell' = true
    · rw [if_pos h]
      constructor
      · intro e; cases e; exact ⟨vs, rfl, h, rfl⟩
      · rintro ⟨_, rfl, _, rfl⟩; rfl
    · rw [if_neg h]
      constructor
      · intro e; cases e
      · rintro ⟨_, rfl, h', _⟩; exact absurd h' h
theorem conc_tuple {l : List AV} {c : Value} : (AV.tuple l).conc ρ = some c ↔ ∃ vs, AV.concL ρ l = some vs ∧ c = .tuple vs.toArray := by
  simp only [AV.conc]
  cases AV.concL ρ l <;> simp [eq_comm]
theorem conc_iface {t : Nat} {v : AV} {c : Value} : (AV.iface t v).conc ρ = some c ↔ ∃ x, v.conc ρ = some x ∧ c = .iface t x := by
  simp only [AV.conc]
  cases v.conc ρ <;> simp [eq_comm]
/-- what a capacity stands for -/
def CapOk (ρ : Env) (b len n : Nat) : ACap → Prop
  | .exact k => n = k
  | .rest k => len + k ≤ ρ.cap b ∧ n = ρ.cap b - k
/-- a slice: where it lies, its length within its capacity -/
theorem conc_slice {b o l : Nat} {cap : ACap} {c : Value} (h : (AV.slice b o l cap).conc ρ = some c) : ∃ cb n, ρ.blk b = some cb ∧ c = .slice (some ⟨cb, o, none⟩) l n ∧ l ≤ n ∧ CapOk ρ b l n cap := by
  simp only [AV.conc] at h
  cases hb : ρ.blk b with
  | none => rw [hb] at h; cases h
  | some cb =>
    rw [hb] at h
    cases cap with
    | exact m =>
      simp only [] at h
      split at h
      · rename_i hl; cases h; exact ⟨cb, m, rfl, rfl, hl, rfl⟩
      · cases h
    | rest k =>
      simp only [] at h
      split at h
      · rename_i hl; cases h; exact ⟨cb, _, rfl, rfl, by omega, hl, rfl⟩
      · cases h
theorem conc_send {b o l z k : Nat} {c : Value} (h : (AV.send b o l z k).conc ρ = some c) : ∃ cb, ρ.blk b = some cb ∧ k + l ≤ ρ.cap b ∧
    c = .slice (some ⟨cb, if ρ.cap b = k + l then o else o + l * z, none⟩) 0 (ρ.cap b - (k + l)) := by
  simp only [AV.conc] at h
  cases hb : ρ.blk b with
  | none => rw [hb] at h; cases h
  | some cb =>
    rw [hb] at h
    simp only [] at h
    split at h
    · rename_i hl; cases h; exact ⟨cb, rfl, hl, rfl⟩
    · cases h

/-! ## Loads -/
theorem loadC_sound (hH : HRel P ρ H w) {t : Nat} {x v : AV} {cx : Value} (hx : x.conc ρ = some cx) (h : (loadC P t).run H x = some v) :
    ∃ c, v.conc ρ = some c ∧ (Instr.loadAt t cx).run P w = .ok c w := by
  unfold loadC at h
  split at h
  · rename_i ha
    simp only [] at h
    split at h
    · rename_i b off hp
      rw [asPtr_eq hp] at hx
      obtain ⟨cb, v', h1, h2, h3⟩ := readCell_sound hH h
      obtain ⟨cb', h4, rfl⟩ := conc_ptr.1 hx
      rw [h1] at h4; cases h4
      refine ⟨v', h2, ?_⟩
      simp [Instr.loadAt, Instr.sureAddr, loadVar, run_isAggT ha, h3]
    · cases h
  · rename_i ha
    split at h
    · rename_i n hn
      simp only [] at h
      split at h
      · rename_i b off hp
        rw [asPtr_eq hp] at hx
        split at h
        · rename_i c hc
          cases h
          obtain ⟨cb, xs, h1, h2, h3, h4⟩ := readPart_sound hH hc
          obtain ⟨cb', h5, rfl⟩ := conc_ptr.1 hx
          rw [h1] at h5; cases h5
          refine ⟨.agg xs.toArray, conc_agg.2 ⟨xs, Chunk.list_conc h2, List.all_eq_true.2 (concC_one h2), rfl⟩, ?_⟩
          have hl := run_load_part (P := P) (w := w) h4
          rw [h3] at hl
          simp [Instr.loadAt, Instr.sureAddr, loadVar, run_isAggT ha, run_sizeT hn, hl]
        · cases h
      · cases h
    · cases h
  · cases h

/-! ## Equality -/
theorem beq_strV (l n l' n' : Nat) : ((⟨(bytesL l n).toArray⟩ : ByteArray) == ⟨(bytesL l' n').toArray⟩) = (bytesL l n == bytesL l' n') := by
  rw [beq_toListBytes, toList_strV, toList_strV]

theorem nilEq_eq {a b : Option Bool} {r : Bool} (h : nilEq a b = some r) : (a = some true ∧ b = some r) ∨ (a = some false ∧ b = some true ∧ r = false) := by
  unfold nilEq at h
  split at h
  · exact .inl ⟨rfl, h⟩
  · cases h; exact .inr ⟨rfl, rfl, rfl⟩
  · cases h

theorem plainRow_sound (hH : HRel P ρ H w) {b : Nat} {lk : Option Nat} (h : plainRow (H.get b) = some lk) : ∃ cb arr el, ρ.blk b = some cb ∧ w.heap[cb]? = some (.cells arr el (0, 0)) ∧ ∃ o, H.get b = some ⟨o, lk⟩ := by
  unfold plainRow at h
  split at h
  · rename_i x l el op lk' hg
    cases h
    obtain ⟨cb, o, h1, h2, h3⟩ := hH.obj b _ hg
    obtain ⟨arr, fz, rfl, h4⟩ := h3
    have : fz = (0, 0) := h4.plain h4.kind.symm
    subst this
    exact ⟨cb, arr, el, h1, h2, _, hg⟩
  · cases h

theorem eqPtr_sound (hH : HRel P ρ H w) {b o b' o' : Nat} {r : Bool} {cb cb' : Nat} (hb : ρ.blk b = some cb) (hb' : ρ.blk b' = some cb') (h : eqPtr H b o b' o' = some r) :
    (sameAddr ⟨cb, o, none⟩ ⟨cb', o', none⟩).run P w = .ok r w := by
  unfold eqPtr at h
  split at h
  · rename_i lk hl
    split at h
    · rename_i lk' hl'
      obtain ⟨c1, a1, e1, h1, h2, x1, hg1⟩ := plainRow_sound hH hl
      obtain ⟨c2, a2, e2, h3, h4, x2, hg2⟩ := plainRow_sound hH hl'
      rw [hb] at h1; cases h1
      rw [hb'] at h3; cases h3
      split at h
      · rename_i hbb
        have : b = b' := Nat.eq_of_beq_eq_true hbb
        subst this
        rw [hb] at hb'; cases hb'
        cases h
        by_cases ho : o = o'
        · subst ho
          rw [run_sameAddr_same]
          simp
        · have hne : (⟨cb, o, none⟩ : Addr) ≠ ⟨cb, o', none⟩ := by simpa using ho
          rw [run_sameAddr_other w hne h2 h4]
          congr 1
          symm
          rw [Bool.eq_false_iff]
          intro e
          exact ho (Nat.eq_of_beq_eq_true e)
      · rename_i hbb
        split at h
        · cases h
          have hne' : b ≠ b' := by
            rintro rfl
            simp at hbb
          have hne : cb ≠ cb' := by
            rintro rfl
            rcases hH.sep b b' _ _ cb hg1 hg2 hb hb' with h5 | ⟨h5, _⟩
            · exact hne' h5
            · cases h5
          have hne2 : (⟨cb, o, none⟩ : Addr) ≠ ⟨cb', o', none⟩ := by
            intro e; cases e; exact hne rfl
          exact run_sameAddr_other w hne2 h2 h4
        · cases h
    · cases h
  · cases h

theorem part_cell {t off : Nat} {cs : List Value} {x : Value} (ha : isAggT P t = some false) (hx : cs[off]? = some x) : (part t cs.toArray off).run P w = .ok x w := by
  simp [part, run_isAggT ha, hx]
theorem part_agg {t off n : Nat} {cs : List Value} (ha : isAggT P t = some true) (hn : sizeT P t = some n) : (part t cs.toArray off).run P w = .ok (.agg ((cs.drop off).take n).toArray) w := by
  simp only [part, Sem.run_bind, run_isAggT ha, Result.andThen_ok, if_true, run_sizeT hn, Sem.run_pure]
  congr 2
  apply Array.ext'
  simp

theorem takeL_conc {l l' : List AV} {vs : List Value} {i n : Nat} (h : AV.concL ρ l = some vs) (h1 : vs.all Value.oneCell' = true) (k : Chunk.takeL l i n = some l') :
    (AV.agg l').conc ρ = some (.agg ((vs.drop i).take n).toArray) := by
  obtain ⟨rfl, _⟩ := takeL_eq k
  refine conc_agg.2 ⟨_, concL_take n (concL_drop i h), ?_, rfl⟩
  rw [List.all_eq_true] at h1 ⊢
  exact fun v hv => h1 v (List.mem_of_mem_drop (List.mem_of_mem_take hv))

/-- 'rec' tells what the model's equality gives -/
def EqOk (P : Program) (ρ : Env) (w : World) (d : Nat) (rec : Nat → AV → AV → Option Bool) : Prop :=
  ∀ t x y cx cy b, x.conc ρ = some cx → y.conc ρ = some cy → rec t x y = some b → ∀ D, d ≤ D → (Op.equalIn D t cx cy).run P w = .ok b w

theorem eqFields_sound {d D : Nat} {rec : Nat → AV → AV → Option Bool} (hr : EqOk P ρ w d rec) (hD : d ≤ D) {xs ys : List AV} {vx vy : List Value} (hx : AV.concL ρ xs = some vx) (hy : AV.concL ρ ys = some vy)
    (hx1 : vx.all Value.oneCell' = true) (hy1 : vy.all Value.oneCell' = true) : ∀ (fs : List Field) {b : Bool}, eqFields P rec fs xs ys = some b → (Op.eqFields D vx.toArray vy.toArray fs).run P w = .ok b w
  | [], b, h => by simp [eqFields] at h; subst h; simp [Op.eqFields]
  | f :: fs, b, h => by
    unfold eqFields at h
    unfold Op.eqFields
    split at h
    · rename_i hn
      have hn' : ¬ (f.name ≠ "_") := by simpa using hn
      rw [if_neg hn']
      exact eqFields_sound hr hD hx hy hx1 hy1 fs h
    · rename_i hn
      have hn' : f.name ≠ "_" := by
        intro e; rw [e] at hn; simp at hn
      rw [if_pos hn']
      have fin : ∀ (cx cy : Value) (x y : AV), x.conc ρ = some cx → y.conc ρ = some cy → (part f.type vx.toArray f.offset).run P w = .ok cx w → (part f.type vy.toArray f.offset).run P w = .ok cy w →
          (match rec f.type x y with | some true => eqFields P rec fs xs ys | r => r) = some b →
          (do let a ← part f.type vx.toArray f.offset
              let b ← part f.type vy.toArray f.offset
              let r ← Op.equalIn D f.type a b
              if (!r) = true then pure false else Op.eqFields D vx.toArray vy.toArray fs : Sem Bool).run P w = .ok b w := by
        intro cx cy x y e1 e2 e3 e4 e5
        cases hre : rec f.type x y with
        | none => rw [hre] at e5; cases e5
        | some r =>
          have := hr f.type x y cx cy r e1 e2 hre D hD
          simp only [Sem.run_bind, e3, e4, this, Result.andThen_ok]
          cases r with
          | false =>
            rw [hre] at e5
            cases e5
            simp
          | true =>
            rw [hre] at e5
            simp only [Bool.not_true, Bool.false_eq_true, if_false]
            exact eqFields_sound hr hD hx hy hx1 hy1 fs e5
      split at h
      · rename_i ha
        split at h
        · rename_i n hsz
          split at h
          · rename_i lx ly htx hty
            exact fin _ _ _ _ (takeL_conc hx hx1 htx) (takeL_conc hy hy1 hty) (part_agg ha hsz) (part_agg ha hsz) h
          · cases h
        · cases h
      · rename_i ha
        split at h
        · rename_i x y hnx hny
          obtain ⟨cx, e1, e2⟩ := concL_nth hx hnx
          obtain ⟨cy, e3, e4⟩ := concL_nth hy hny
          exact fin _ _ _ _ e2 e4 (part_cell ha e1) (part_cell ha e3) h
        · cases h
      · cases h

theorem eqCells_sound {d D e : Nat} {rec : AV → AV → Option Bool} (hr : ∀ x y cx cy b, x.conc ρ = some cx → y.conc ρ = some cy → rec x y = some b → (Op.equalIn D e cx cy).run P w = .ok b w)
    (ha : isAggT P e = some false) {vx vy : List Value} : ∀ (n i : Nat) (xs ys : List AV) {b : Bool}, AV.concL ρ xs = some (vx.drop i) → AV.concL ρ ys = some (vy.drop i) →
    eqCells rec n xs ys = some b → (Op.eqItems D e 1 vx.toArray vy.toArray (List.range' i n)).run P w = .ok b w
  | 0, i, xs, ys, b, _, _, h => by simp [eqCells] at h; subst h; simp [Op.eqItems]
  | n + 1, i, [], ys, b, _, _, h => by simp [eqCells] at h
  | n + 1, i, x :: xs, [], b, _, _, h => by simp [eqCells] at h
  | n + 1, i, x :: xs, y :: ys, b, hx, hy, h => by
    simp only [eqCells] at h
    obtain ⟨cx, rx, e1, e2, e3⟩ := concL_cons.1 hx
    obtain ⟨cy, ry, e4, e5, e6⟩ := concL_cons.1 hy
    have g1 : vx[i]? = some cx := by
      have := congrArg (fun l => l[0]?) e3
      simpa using this
    have g2 : vy[i]? = some cy := by
      have := congrArg (fun l => l[0]?) e6
      simpa using this
    have t1 : vx.drop (i + 1) = rx := by
      have := congrArg List.tail e3
      simpa using this
    have t2 : vy.drop (i + 1) = ry := by
      have := congrArg List.tail e6
      simpa using this
    have p1 := part_cell (P := P) (w := w) (t := e) (off := i * 1) ha (by simpa using g1)
    have p2 := part_cell (P := P) (w := w) (t := e) (off := i * 1) ha (by simpa using g2)
    rw [List.range'_succ]
    unfold Op.eqItems
    cases hre : rec x y with
    | none => rw [hre] at h; cases h
    | some r =>
      have := hr x y cx cy r e1 e4 hre
      simp only [Sem.run_bind, p1, p2, this, Result.andThen_ok]
      cases r with
      | false => rw [hre] at h; cases h; simp
      | true =>
        rw [hre] at h
        simp only [Bool.not_true, Bool.false_eq_true, if_false]
        exact eqCells_sound (d := d) hr ha n (i + 1) xs ys (by rw [t1]; exact e2) (by rw [t2]; exact e5) h

theorem eqV_sound (hH : HRel P ρ H w) : ∀ d, EqOk P ρ w d (eqV P H d)
  | 0 => fun t x y cx cy b _ _ h => by simp [eqV] at h
  | d + 1 => by
    intro t x y cx cy b hx hy h D hD
    have ih := eqV_sound hH d
    obtain ⟨D, rfl⟩ : ∃ D', D = D' + 1 := ⟨D - 1, by omega⟩
    have hD' : d ≤ D := by omega
    unfold eqV at h
    split at h
    · rename_i hu
      split at h
      · rename_i a b' ha hb
        cases h
        rw [asBool_eq ha] at hx; rw [asBool_eq hb] at hy
        cases hx; cases hy
        simp [Op.equalIn, run_underlying hu]
      · cases h
    · rename_i hu
      split at h
      · rename_i k a k' a' ha hb
        rw [asInt_eq ha] at hx; rw [asInt_eq hb] at hy
        cases hx; cases hy
        split at h
        · rename_i hk
          have := beqK_eq hk
          subst this
          cases h
          simp [Op.equalIn, run_underlying hu, beqI_eq]
        · cases h
      · cases h
    · rename_i hu
      split at h
      · rename_i l n l' n' ha hb
        cases h
        rw [asStr_eq ha] at hx; rw [asStr_eq hb] at hy
        obtain ⟨h1, rfl⟩ := conc_str.1 hx
        obtain ⟨h2, rfl⟩ := conc_str.1 hy
        simp [Op.equalIn, run_underlying hu, strV, strEq_eq h1 h2, beq_strV]
      · cases h
    · rename_i e hu
      split at h
      · rename_i bx ox by' oy ha hb
        rw [asPtr_eq ha] at hx; rw [asPtr_eq hb] at hy
        obtain ⟨c1, h1, rfl⟩ := conc_ptr.1 hx
        obtain ⟨c2, h2, rfl⟩ := conc_ptr.1 hy
        split at h
        · rename_i z hz
          have h3 := eqPtr_sound hH h1 h2 h
          simp [Op.equalIn, run_underlying hu, run_sizeT hz, h3]
        · cases h
      · rename_i hno
        rcases nilEq_eq h with ⟨h1, h2⟩ | ⟨h1, h2, rfl⟩
        · unfold AV.nilPtr at h1 h2
          split at h1 <;> cases h1
          cases hx
          split at h2 <;> cases h2
          · cases hy; simp [Op.equalIn, run_underlying hu]
          · obtain ⟨c2, h3, rfl⟩ := conc_ptr.1 hy
            simp [Op.equalIn, run_underlying hu]
        · unfold AV.nilPtr at h1 h2
          split at h1 <;> cases h1
          obtain ⟨c1, h3, rfl⟩ := conc_ptr.1 hx
          split at h2 <;> cases h2
          cases hy
          simp [Op.equalIn, run_underlying hu]
    · rename_i ms hu
      rcases nilEq_eq h with ⟨h1, h2⟩ | ⟨h1, h2, rfl⟩
      · unfold AV.nilIfc at h1 h2
        split at h1 <;> cases h1
        cases hx
        split at h2 <;> cases h2
        · cases hy; simp [Op.equalIn, run_underlying hu]
        · obtain ⟨c2, h3, rfl⟩ := conc_iface.1 hy
          simp [Op.equalIn, run_underlying hu]
      · unfold AV.nilIfc at h1 h2
        split at h1 <;> cases h1
        obtain ⟨c1, h3, rfl⟩ := conc_iface.1 hx
        split at h2 <;> cases h2
        cases hy
        simp [Op.equalIn, run_underlying hu]
    · rename_i e hu
      have some_ : ∀ {z : AV} {cz : Value}, z.conc ρ = some cz → z.nilSlice = some false → ∃ a l n, cz = .slice (some a) l n := by
        intro z cz hz hn
        unfold AV.nilSlice at hn
        split at hn <;> cases hn
        · obtain ⟨cb, n, _, rfl, _⟩ := conc_slice hz; exact ⟨_, _, _, rfl⟩
        · obtain ⟨cb, _, _, rfl⟩ := conc_send hz; exact ⟨_, _, _, rfl⟩
      have none_ : ∀ {z : AV} {cz : Value}, z.conc ρ = some cz → z.nilSlice = some true → cz = .slice none 0 0 := by
        intro z cz hz hn
        unfold AV.nilSlice at hn
        split at hn <;> cases hn
        cases hz; rfl
      rcases nilEq_eq h with ⟨h1, h2⟩ | ⟨h1, h2, rfl⟩
      · have := none_ hx h1
        subst this
        cases b with
        | true =>
          have := none_ hy h2
          subst this
          simp [Op.equalIn, run_underlying hu]
        | false =>
          obtain ⟨a, l, n, rfl⟩ := some_ hy h2
          simp [Op.equalIn, run_underlying hu]
      · obtain ⟨a, l, n, rfl⟩ := some_ hx h1
        have := none_ hy h2
        subst this
        simp [Op.equalIn, run_underlying hu]
    · rename_i k e hu
      rcases nilEq_eq h with ⟨h1, h2⟩ | ⟨h1, h2, rfl⟩
      · unfold AV.nilMap at h1 h2
        split at h1 <;> cases h1
        cases hx
        split at h2 <;> cases h2
        · cases hy; simp [Op.equalIn, run_underlying hu]
        · obtain ⟨c2, h3, rfl⟩ := conc_map.1 hy
          simp [Op.equalIn, run_underlying hu]
      · unfold AV.nilMap at h1 h2
        split at h1 <;> cases h1
        obtain ⟨c1, h3, rfl⟩ := conc_map.1 hx
        split at h2 <;> cases h2
        cases hy
        simp [Op.equalIn, run_underlying hu]
    · rename_i p r v hu
      have some_ : ∀ {z : AV} {cz : Value}, z.conc ρ = some cz → z.nilFun = some false → ∃ a l n, cz = .func a l n := by
        intro z cz hz hn
        unfold AV.nilFun at hn
        split at hn <;> cases hn
        · simp only [AV.conc] at hz
          split at hz <;> cases hz
          exact ⟨_, _, _, rfl⟩
        · simp only [AV.conc] at hz
          split at hz <;> cases hz
          exact ⟨_, _, _, rfl⟩
      have none_ : ∀ {z : AV} {cz : Value}, z.conc ρ = some cz → z.nilFun = some true → cz = .nilFunc := by
        intro z cz hz hn
        unfold AV.nilFun at hn
        split at hn <;> cases hn
        cases hz; rfl
      rcases nilEq_eq h with ⟨h1, h2⟩ | ⟨h1, h2, rfl⟩
      · have := none_ hx h1
        subst this
        cases b with
        | true =>
          have := none_ hy h2
          subst this
          simp [Op.equalIn, run_underlying hu]
        | false =>
          obtain ⟨a, l, n, rfl⟩ := some_ hy h2
          simp [Op.equalIn, run_underlying hu]
      · obtain ⟨a, l, n, rfl⟩ := some_ hx h1
        have := none_ hy h2
        subst this
        simp [Op.equalIn, run_underlying hu]
    · rename_i fs hu
      split at h
      · rename_i xs ys ha hb
        rw [asAgg_eq ha] at hx; rw [asAgg_eq hb] at hy
        obtain ⟨vx, h1, h2, rfl⟩ := conc_agg.1 hx
        obtain ⟨vy, h3, h4, rfl⟩ := conc_agg.1 hy
        split at h
        · cases h
        · rename_i hs
          have hf : P.fieldsOf t = fs := by simp [Program.fieldsOf, hu]
          rw [run_equalIn_struct w D t vx.toArray vy.toArray (by rw [hf]; exact hu) hs, hf]
          exact eqFields_sound ih hD' h1 h3 h2 h4 fs.toList h
      · cases h
    · rename_i n e hu
      split at h
      · rename_i xs ys ha hb
        rw [asAgg_eq ha] at hx; rw [asAgg_eq hb] at hy
        obtain ⟨vx, h1, h2, rfl⟩ := conc_agg.1 hx
        obtain ⟨vy, h3, h4, rfl⟩ := conc_agg.1 hy
        split at h
        · rename_i hag
          split at h
          · rename_i hsz
            obtain ⟨i, hi, hi1⟩ := sizeT_info hsz
            have hc : P.cellsOf e = 1 := by simp [Program.cellsOf, hi, hi1]
            rw [run_equalIn_array w D vx.toArray vy.toArray hu hi, hc, List.range_eq_range']
            exact eqCells_sound (d := d) (fun x y cx cy b e1 e2 e3 => ih e x y cx cy b e1 e2 e3 D hD') hag n 0 xs ys (by simpa using h1) (by simpa using h3) h
          · cases h
        · cases h
      · cases h
    · cases h

end Go.Proofs.YtpmildboffolkaaGreat.Abs

namespace Go.Proofs.YtpmildboffolkaaGreat.Abs
variable {P : Program} {ρ : Env} {H : AHeap} {w : World}

/-! ## Operators -/
theorem eqGuard_rest (op : BinOp) (t : TypeId) (X Y : Operand) {cx cy : Value} (h1 : cx = .nilIface → cy = .nilIface → False) (h2 : ∀ a b, cx = .agg a → cy = .agg b → False) :
    (eqGuard op t X Y cx cy).run P w = .ok () w := by
  cases op <;> first
    | (simp [eqGuard]; done)
    | (simp only [eqGuard, Bool.not_true, Bool.false_eq_true, if_false]
       split
       · exact (h1 rfl rfl).elim
       · exact (h2 _ _ rfl rfl).elim
       · rfl)

theorem run_eql (t : TypeId) {cx cy : Value} {b : Bool} (hk : ∀ k k' a a', cx = .int k a → cy = .int k' a' → False) (hs : ∀ a a', cx = .string a → cy = .string a' → False)
    (hf : ∀ k a, cx ≠ .float k a) (hc : ∀ k a a', cx ≠ .complex k a a')
    (h : (Op.equalIn 10000 t cx cy).run P w = .ok b w) : (binOp .eql t cx cy).run P w = .ok (.bool b) w ∧ (binOp .neq t cx cy).run P w = .ok (.bool (!b)) w := by
  have e : (Op.equal t cx cy).run P w = .ok b w := by simpa [Op.equal, Op.maxDepth] using h
  constructor
  · cases cx <;> first | exact absurd rfl (hf _ _) | exact absurd rfl (hc _ _ _) | skip
    case int k n =>
      cases cy <;> first | exact (hk _ _ _ _ rfl rfl).elim | (simp [binOp, e])
    case string s =>
      cases cy <;> first | exact (hs _ _ rfl rfl).elim | (simp [binOp, e])
    all_goals simp [binOp, e]
  · cases cx <;> first | exact absurd rfl (hf _ _) | exact absurd rfl (hc _ _ _) | skip
    case int k n =>
      cases cy <;> first | exact (hk _ _ _ _ rfl rfl).elim | (simp [binOp, e])
    case string s =>
      cases cy <;> first | exact (hs _ _ rfl rfl).elim | (simp [binOp, e])
    all_goals simp [binOp, e]

/-- the kinds of values that equality at a type that is no integer's and no string's is asked of -/
theorem eqV_kinds {d t : Nat} {x y : AV} {cx cy : Value} {b : Bool} (hx : x.conc ρ = some cx) (hy : y.conc ρ = some cy) (h : eqV P H d t x y = some b) (hk : opKind P t = 2) :
    (∀ k a, cx ≠ .int k a) ∧ (∀ a, cx ≠ .string a) ∧ (∀ k a, cx ≠ .float k a) ∧ (∀ k a a', cx ≠ .complex k a a') ∧
    (cx = .nilIface → cy = .nilIface → ∃ ms, P.underlying t = some (.interface ms)) ∧
    (∀ a b, cx = .agg a → cy = .agg b → ∃ d, P.underlying t = some d ∧ aggD d = true) := by
  cases d with
  | zero => simp [eqV] at h
  | succ d =>
    unfold eqV at h
    split at h
    · split at h
      · rename_i a b' ha hb
        rw [asBool_eq ha] at hx
        cases hx
        simp
      · cases h
    · rename_i k hu
      simp [opKind, hu, intD] at hk
    · rename_i hu
      simp [opKind, hu, intD, strD] at hk
    · rename_i e hu
      have : ∃ a, cx = .pointer a := by
        split at h
        · rename_i bx ox by' oy ha hb
          rw [asPtr_eq ha] at hx
          obtain ⟨c1, h1, rfl⟩ := conc_ptr.1 hx
          exact ⟨_, rfl⟩
        · have : x.nilPtr ≠ none := by
            intro e'; rw [e'] at h; unfold nilEq at h; simp at h
          unfold AV.nilPtr at this
          split at this
          · cases hx; exact ⟨_, rfl⟩
          · obtain ⟨c1, h1, rfl⟩ := conc_ptr.1 hx; exact ⟨_, rfl⟩
          · exact absurd rfl this
      obtain ⟨a, rfl⟩ := this
      simp
    · rename_i ms hu
      have : x.nilIfc ≠ none := by
        intro e'; rw [e'] at h; unfold nilEq at h; simp at h
      unfold AV.nilIfc at this
      split at this
      · cases hx
        refine ⟨by simp, by simp, by simp, by simp, fun _ _ => ⟨ms, hu⟩, by simp⟩
      · obtain ⟨c1, h1, rfl⟩ := conc_iface.1 hx
        simp
      · exact absurd rfl this
    · rename_i e hu
      have : x.nilSlice ≠ none := by
        intro e'; rw [e'] at h; unfold nilEq at h; simp at h
      unfold AV.nilSlice at this
      split at this
      · cases hx; simp
      · obtain ⟨c1, n, h1, rfl, _⟩ := conc_slice hx; simp
      · obtain ⟨c1, h1, _, rfl⟩ := conc_send hx; simp
      · exact absurd rfl this
    · rename_i k e hu
      have : x.nilMap ≠ none := by
        intro e'; rw [e'] at h; unfold nilEq at h; simp at h
      unfold AV.nilMap at this
      split at this
      · cases hx; simp
      · obtain ⟨c1, h1, rfl⟩ := conc_map.1 hx; simp
      · exact absurd rfl this
    · rename_i p r v hu
      have : x.nilFun ≠ none := by
        intro e'; rw [e'] at h; unfold nilEq at h; simp at h
      unfold AV.nilFun at this
      split at this
      · cases hx; simp
      · simp only [AV.conc] at hx
        split at hx <;> cases hx
        simp
      · simp only [AV.conc] at hx
        split at hx <;> cases hx
        simp
      · exact absurd rfl this
    · rename_i fs hu
      split at h
      · rename_i xs ys ha hb
        rw [asAgg_eq ha] at hx
        obtain ⟨vx, h1, h2, rfl⟩ := conc_agg.1 hx
        refine ⟨by simp, by simp, by simp, by simp, by simp, fun _ _ _ _ => ⟨_, hu, rfl⟩⟩
      · cases h
    · rename_i n e hu
      split at h
      · rename_i xs ys ha hb
        rw [asAgg_eq ha] at hx
        obtain ⟨vx, h1, h2, rfl⟩ := conc_agg.1 hx
        refine ⟨by simp, by simp, by simp, by simp, by simp, fun _ _ _ _ => ⟨_, hu, rfl⟩⟩
      · cases h
    · cases h

theorem guard_ok (op : BinOp) {t : Nat} {cst : Bool} {X Y : Operand} (hg : guardT P t cst = true) (hc : cst = true → (∃ v, X = .const v) ∨ (∃ v, Y = .const v)) {cx cy : Value}
    (h1 : cx = .nilIface → cy = .nilIface → ∃ ms, P.underlying t = some (.interface ms))
    (h2 : ∀ a b, cx = .agg a → cy = .agg b → ∃ d, P.underlying t = some d ∧ aggD d = true) : (eqGuard op t X Y cx cy).run P w = .ok () w := by
  by_cases hn : cx = .nilIface ∧ cy = .nilIface
  · obtain ⟨rfl, rfl⟩ := hn
    obtain ⟨ms, hu⟩ := h1 rfl rfl
    simp only [guardT, hu] at hg
    rcases hc hg with ⟨v, rfl⟩ | ⟨v, rfl⟩ <;> cases op <;> simp [eqGuard]
  · by_cases ha : ∃ a b, cx = .agg a ∧ cy = .agg b
    · obtain ⟨a, b, rfl, rfl⟩ := ha
      obtain ⟨d, hu, hd⟩ := h2 a b rfl rfl
      have : P.eqGuardType P.depth t = false := by
        unfold guardT at hg
        rw [hu] at hg
        cases d <;> simp [aggD] at hd <;> simpa using hg
      exact run_eqGuard_agg w op t X Y a b this
    · exact eqGuard_rest op t X Y (fun e1 e2 => hn ⟨e1, e2⟩) (fun a b e1 e2 => ha ⟨a, b, e1, e2⟩)

theorem binOpC_sound (hH : HRel P ρ H w) {op : BinOp} {t : Nat} {cst : Bool} {X Y : Operand} (hc : cst = true → (∃ v, X = .const v) ∨ (∃ v, Y = .const v)) {x y v : AV} {cx cy : Value}
    (hx : x.conc ρ = some cx) (hy : y.conc ρ = some cy) (h : (binOpC P op t cst).run H x y = some v) :
    ∃ c, v.conc ρ = some c ∧ (do eqGuard op t X Y cx cy; binOp op t cx cy : Sem Value).run P w = .ok c w := by
  have gi : ∀ (k : IntKind) (n : Int) (c : Value), (eqGuard op t X Y (.int k n) c).run P w = .ok () w := fun k n c => eqGuard_rest op t X Y (fun e => by cases e) (fun a b e => by cases e)
  have gs : ∀ (s : ByteArray) (c : Value), (eqGuard op t X Y (.string s) c).run P w = .ok () w := fun s c => eqGuard_rest op t X Y (fun e => by cases e) (fun a b e => by cases e)
  unfold binOpC at h
  split at h
  · -- integers
    split at h
    · simp only [] at h
      split at h
      · rename_i k a ha
        split at h
        · rename_i k' b hb
          rw [asInt_eq ha] at hx; rw [asInt_eq hb] at hy
          cases hx; cases hy
          obtain ⟨c, h1, h2⟩ := shl_sound (P := P) (w := w) (ρ := ρ) (t := t) (yk := k') h
          exact ⟨c, h1, by simp only [Sem.run_bind, gi, Result.andThen_ok, h2]⟩
        · cases h
      · cases h
    · simp only [] at h
      split at h
      · rename_i k a ha
        split at h
        · rename_i k' b hb
          rw [asInt_eq ha] at hx; rw [asInt_eq hb] at hy
          cases hx; cases hy
          obtain ⟨c, h1, h2⟩ := shr_sound (P := P) (w := w) (ρ := ρ) (t := t) (yk := k') h
          exact ⟨c, h1, by simp only [Sem.run_bind, gi, Result.andThen_ok, h2]⟩
        · cases h
      · cases h
    · rename_i hs1 hs2
      simp only [] at h
      split at h
      · rename_i k a ha
        split at h
        · rename_i k' b hb
          rw [asInt_eq ha] at hx; rw [asInt_eq hb] at hy
          cases hx; cases hy
          split at h
          · rename_i hk
            have := beqK_eq hk
            subst this
            obtain ⟨c, h1, h2⟩ := intOp_sound (P := P) (w := w) (ρ := ρ) (t := t) (fun e => hs1 e) (fun e => hs2 e) h
            exact ⟨c, h1, by simp only [Sem.run_bind, gi, Result.andThen_ok, h2]⟩
          · cases h
        · cases h
      · cases h
  · -- strings
    simp only [] at h
    split at h
    · rename_i la a ha
      split at h
      · rename_i lb b hb
        rw [asStr_eq ha] at hx; rw [asStr_eq hb] at hy
        obtain ⟨h1, rfl⟩ := conc_str.1 hx
        obtain ⟨h2, rfl⟩ := conc_str.1 hy
        obtain ⟨c, h3, h4⟩ := strOp_sound (P := P) (w := w) (ρ := ρ) (t := t) h1 h2 h
        refine ⟨c, h3, ?_⟩
        have hg : (eqGuard op t X Y (strV la a) (strV lb b)).run P w = .ok () w := gs _ _
        simp only [Sem.run_bind, hg, Result.andThen_ok, h4]
      · cases h
    · cases h
  · rename_i hk0 hk1
    unfold otherC at h
    split at h
    · cases h
    · rename_i hg
      have hk : opKind P t = 2 := by
        unfold opKind at hk0 hk1 ⊢
        split
        · rename_i d hd
          simp only [hd] at hk0 hk1
          cases hi : intD d with
          | some k => simp [hi] at hk0
          | none =>
            cases hst : strD d with
            | true => simp [hi, hst] at hk1
            | false => simp
        · rfl
      have fin : ∀ b, eqV P H 8 t x y = some b → (eqGuard op t X Y cx cy).run P w = .ok () w ∧ (binOp .eql t cx cy).run P w = .ok (.bool b) w ∧ (binOp .neq t cx cy).run P w = .ok (.bool (!b)) w := by
        intro b hb
        obtain ⟨k1, k2, k3, k4, k5, k6⟩ := eqV_kinds hx hy hb hk
        have := eqV_sound hH 8 t x y cx cy b hx hy hb 10000 (by decide)
        obtain ⟨e1, e2⟩ := run_eql t (fun k k' a a' e _ => k1 k a e) (fun a a' e _ => k2 a e) k3 k4 this
        exact ⟨guard_ok op hg hc k5 k6, e1, e2⟩
      split at h
      · simp only [] at h
        cases hb : eqV P H 8 t x y with
        | none => rw [hb] at h; cases h
        | some b =>
          rw [hb] at h
          cases h
          obtain ⟨e1, e2, e3⟩ := fin b hb
          exact ⟨_, rfl, by simp only [Sem.run_bind, e1, Result.andThen_ok, e2]⟩
      · simp only [] at h
        cases hb : eqV P H 8 t x y with
        | none => rw [hb] at h; cases h
        | some b =>
          rw [hb] at h
          cases h
          obtain ⟨e1, e2, e3⟩ := fin b hb
          exact ⟨_, rfl, by simp only [Sem.run_bind, e1, Result.andThen_ok, e3]⟩
      · cases h

theorem unOpC_sound {op : UnOp} {x v : AV} {cx : Value} (hx : x.conc ρ = some cx) (h : (unOpC op).run x = some v) : ∃ c, v.conc ρ = some c ∧ (Op.unary op cx).run P w = .ok c w := by
  cases op <;> simp only [unOpC] at h
  case neg =>
    split at h
    · rename_i k n hk
      rw [asInt_eq hk] at hx
      cases hx; cases h
      refine ⟨_, rfl, ?_⟩
      simp only [Op.unary, Op.intArith, Sem.run_pure, wrap_eq]
      rfl
    · cases h
  case xor =>
    split at h
    · rename_i k n hk
      rw [asInt_eq hk] at hx
      cases hx
      split at h
      · rename_i hs
        cases n with
        | negSucc n => simp only [nat2, reduceCtorEq] at h
        | ofNat n =>
          simp only [nat2, Option.some.injEq] at h
          subst h
          refine ⟨_, rfl, ?_⟩
          have hm : (if k.signed then (-1 : Int) else k.max) = Int.ofNat (Nat.sub (pow2 k) 1) := by
            cases k <;> first | (simp [IntKind.signed] at hs; done) | rfl
          simp only [Op.unary, hm]
          rw [bits_xor, wrap_eq]
          rfl
      · cases h
    · cases h
  case not =>
    split at h
    · rename_i b hk
      rw [asBool_eq hk] at hx
      cases hx; cases h
      exact ⟨_, rfl, by simp [Op.unary]⟩
    · cases h
  all_goals cases h

end Go.Proofs.YtpmildboffolkaaGreat.Abs

namespace Go.Proofs.YtpmildboffolkaaGreat.Abs
variable {P : Program} {ρ : Env} {H : AHeap} {w : World}

/-! ## Parts of values -/
theorem fieldOf_eq {t i : Nat} {f : Field} (h : fieldOf P t i = some f) : ∃ fs, P.underlying t = some (.struct fs) ∧ fs[i]? = some f := by
  unfold fieldOf at h
  split at h
  · rename_i d hd
    split at h
    · rename_i fs hf
      exact ⟨fs, by rw [hd, fieldsD_eq hf], h⟩
    · cases h
  · cases h

theorem partC_sound {t off : Nat} {cs : List AV} {vs : List Value} {v : AV} (hc : AV.concL ρ cs = some vs) (h1 : vs.all Value.oneCell' = true) (h : (partC P t off).run cs = some v) :
    ∃ c, v.conc ρ = some c ∧ (part t vs.toArray off).run P w = .ok c w := by
  unfold partC at h
  split at h
  · rename_i ha
    split at h
    · rename_i n hn
      simp only [] at h
      split at h
      · rename_i l hl
        cases h
        exact ⟨_, takeL_conc hc h1 hl, part_agg ha hn⟩
      · cases h
    · cases h
  · rename_i ha
    obtain ⟨c, e1, e2⟩ := concL_nth hc h
    exact ⟨c, e2, part_cell ha e1⟩
  · cases h

theorem fieldC_sound {t i : Nat} {x v : AV} {cx : Value} (hx : x.conc ρ = some cx) (h : (fieldC P t i).run x = some v) : ∃ c, v.conc ρ = some c ∧ (Instr.field t cx i).run P w = .ok c w := by
  unfold fieldC at h
  split at h
  · rename_i f hf
    obtain ⟨fs, hu, hfs⟩ := fieldOf_eq hf
    simp only [] at h
    split at h
    · rename_i cs ha
      rw [asAgg_eq ha] at hx
      obtain ⟨vs, e1, e2, rfl⟩ := conc_agg.1 hx
      obtain ⟨c, e3, e4⟩ := partC_sound (w := w) e1 e2 h
      exact ⟨c, e3, by simp [Instr.field, run_underlying hu, hfs, asAgg, e4]⟩
    · cases h
  · cases h

theorem addOff_sound {off : Nat} {x v : AV} {cx : Value} (hx : x.conc ρ = some cx) (h : addOff off x = some v) : ∃ cb o, cx = .pointer (some ⟨cb, o, none⟩) ∧ v.conc ρ = some (.pointer (some ⟨cb, o + off, none⟩)) := by
  unfold addOff at h
  split at h
  · rename_i b o hp
    rw [asPtr_eq hp] at hx
    obtain ⟨cb, e1, rfl⟩ := conc_ptr.1 hx
    cases h
    exact ⟨cb, o, rfl, conc_ptr.2 ⟨cb, e1, rfl⟩⟩
  · cases h

theorem fieldAddrC_sound {t i : Nat} {x v : AV} {cx : Value} (hx : x.conc ρ = some cx) (h : (fieldAddrC P t i).run x = some v) : ∃ c, v.conc ρ = some c ∧ (Instr.fieldAt t cx i).run P w = .ok c w := by
  unfold fieldAddrC at h
  split at h
  · rename_i f hf
    obtain ⟨fs, hu, hfs⟩ := fieldOf_eq hf
    split at h
    · rename_i z hz
      obtain ⟨cb, o, rfl, e1⟩ := addOff_sound hx h
      refine ⟨_, e1, ?_⟩
      simp [Instr.fieldAt, run_underlying hu, hfs, Instr.sureAddr, fieldPlace, run_sizeT hz, addr_add]
    · cases h
  · cases h

theorem indexAddrC_sound {t : Nat} {x y v : AV} {cx cy : Value} (hx : x.conc ρ = some cx) (hy : y.conc ρ = some cy) (h : (indexAddrC P t).run x y = some v) :
    ∃ c, v.conc ρ = some c ∧ (Instr.indexAt t cx cy).run P w = .ok c w := by
  unfold indexAddrC at h
  split at h
  · rename_i d hd
    split at h
    · rename_i len e ha
      have hu : P.underlying t = some (.array len e) := by rw [hd, arrD_eq ha]
      split at h
      · rename_i n hn
        simp only [] at h
        split at h
        · rename_i i hi
          obtain ⟨k, rfl⟩ := asNat_eq hi
          cases hy
          split at h
          · rename_i hlt
            rw [Nat.blt_eq] at hlt
            obtain ⟨cb, o, rfl, e1⟩ := addOff_sound hx h
            refine ⟨_, e1, ?_⟩
            have h0 : (i : Int) < (len : Int) := by omega
            simp [Instr.indexAt, asIntOf, run_underlying hu, Instr.sureAddr, run_sizeT hn, addr_add, hlt]
          · cases h
        · cases h
      · cases h
    · split at h
      · rename_i e hs
        have hu : P.underlying t = some (.slice e) := by rw [hd, sliD_eq hs]
        split at h
        · rename_i n hn
          simp only [] at h
          split at h
          · rename_i i hi
            obtain ⟨k, rfl⟩ := asNat_eq hi
            cases hy
            split at h
            · rename_i b off len cap hsl
              rw [asSlice_eq hsl] at hx
              obtain ⟨cb, m, e1, rfl, _⟩ := conc_slice hx
              split at h
              · rename_i hlt
                rw [Nat.blt_eq] at hlt
                cases h
                refine ⟨_, conc_ptr.2 ⟨cb, e1, rfl⟩, ?_⟩
                simp [Instr.indexAt, asIntOf, run_underlying hu, run_sizeT hn, addr_add, hlt]
              · cases h
            · cases h
          · cases h
        · cases h
      · cases h
  · cases h

theorem indexC_sound {t : Nat} {x y v : AV} {cx cy : Value} (hx : x.conc ρ = some cx) (hy : y.conc ρ = some cy) (h : (indexC P t).run x y = some v) :
    ∃ c, v.conc ρ = some c ∧ (Instr.index t cx cy).run P w = .ok c w := by
  unfold indexC at h
  split at h
  · rename_i d hd
    split at h
    · rename_i hs
      have hu : P.underlying t = some .string := by rw [hd, strD_eq hs]
      simp only [] at h
      split at h
      · rename_i i hi
        obtain ⟨k, rfl⟩ := asNat_eq hi
        cases hy
        split at h
        · rename_i len n ha
          rw [asStr_eq ha] at hx
          obtain ⟨e1, rfl⟩ := conc_str.1 hx
          split at h
          · rename_i hlt
            rw [Nat.blt_eq] at hlt
            cases h
            refine ⟨_, rfl, ?_⟩
            have hsz : (⟨(bytesL len n).toArray⟩ : ByteArray).size = len := by show (bytesL len n).toArray.size = len; simp
            have hg : (⟨(bytesL len n).toArray⟩ : ByteArray)[i]? = some (UInt8.ofNat (byteAt len n i)) := by
              have e : (⟨(bytesL len n).toArray⟩ : ByteArray)[i]? = (bytesL len n)[i]? := by
                show (if h : i < (bytesL len n).toArray.size then some ((bytesL len n).toArray[i]) else none) = _
                simp [hlt]
              rw [e, bytesL_get, if_pos hlt]
            simp only [Instr.index, asIntOf, Sem.run_bind, Sem.run_pure, Result.andThen_ok, run_underlying hu, strV]
            have h0 : (0 : Int) ≤ Int.ofNat i := Int.natCast_nonneg i
            have ht : (Int.ofNat i).toNat = i := rfl
            rw [if_pos h0, ht, hg]
            simp only [Sem.run_pure]
            rw [UInt8.toNat_ofNat', Nat.mod_eq_of_lt (by simpa using byteAt_lt len n i)]
            rfl
          · cases h
        · cases h
      · cases h
    · split at h
      · rename_i len e ha
        have hu : P.underlying t = some (.array len e) := by rw [hd, arrD_eq ha]
        split at h
        · rename_i hag
          split at h
          · rename_i hz
            simp only [] at h
            split at h
            · rename_i i hi
              obtain ⟨k, rfl⟩ := asNat_eq hi
              cases hy
              split at h
              · rename_i cs hcs
                rw [asAgg_eq hcs] at hx
                obtain ⟨vs, e1, e2, rfl⟩ := conc_agg.1 hx
                split at h
                · rename_i hlt
                  rw [Nat.blt_eq] at hlt
                  obtain ⟨c, e3, e4⟩ := concL_nth e1 h
                  have hp := part_cell (P := P) (w := w) (t := e) (off := i * 1) hag (by simpa using e3)
                  rw [Nat.mul_one] at hp
                  refine ⟨c, e4, ?_⟩
                  simp [Instr.index, asIntOf, run_underlying hu, run_sizeT hz, hlt, hp]
                · cases h
              · cases h
            · cases h
          · cases h
        · cases h
      · cases h
  · cases h

/-! ## Cuts -/
/-- the upper bounds of a cut -/
def CutB (n h : Nat) : Option Nat → Prop
  | none => h ≤ n
  | some m => h ≤ m ∧ m ≤ n
/-- an operand that may lack -/
def ConcO (ρ : Env) : Option AV → Option Value → Prop
  | none, none => True
  | some v, some c => v.conc ρ = some c
  | _, _ => False

theorem run_bound {v : AV} {c : Value} {n y : Nat} {code : BoundsCode} (hv : v.conc ρ = some c) (hn : v.asNat = some n) (hle : n ≤ y) : (Instr.sliceBound c y code).run P w = .ok n w := by
  obtain ⟨k, rfl⟩ := asNat_eq hn
  cases hv
  simp [Instr.sliceBound, asIntOf, hle]

theorem run_bounds {isS : Bool} {len cap l h : Nat} {m : Option Nat} {lo hi mx : Option AV} {clo chi cmx : Option Value} (hlo : ConcO ρ lo clo) (hhi : ConcO ρ hi chi) (hmx : ConcO ρ mx cmx)
    (el : boundV 0 lo = some l) (eh : hiV len hi mx = some h) (em : optNat mx = some m) (hlh : l ≤ h) (hc : CutB cap h m) :
    (Instr.sliceBounds isS len cap clo chi cmx).run P w = .ok (l, h, m.getD cap) w := by
  have low : ∀ (code : BoundsCode), match clo with
      | some v => (Instr.sliceBound v h code).run P w = .ok l w
      | none => l = 0 := by
    intro code
    cases lo <;> cases clo <;> simp only [ConcO] at hlo
    · simp only [boundV, Option.some.injEq] at el; exact el.symm
    · simp only [boundV] at el
      exact run_bound hlo el hlh
  cases mx <;> cases cmx <;> simp only [ConcO] at hmx
  · simp only [optNat, Option.some.injEq] at em
    subst em
    simp only [CutB] at hc
    have high : ∀ (code : BoundsCode), match chi with
        | some v => (Instr.sliceBound v cap code).run P w = .ok h w
        | none => h = len := by
      intro code
      cases hi <;> cases chi <;> simp only [ConcO] at hhi
      · simp only [hiV, Option.some.injEq] at eh; exact eh.symm
      · simp only [hiV] at eh
        exact run_bound hhi eh hc
    have l1 := low .sliceB
    have h1 := high (if isS then .sliceAcap else .sliceAlen)
    cases clo <;> cases chi <;> simp only [] at l1 h1
    · subst l1; subst h1; simp [Instr.sliceBounds]
    · subst l1; simp [Instr.sliceBounds, h1]
    · subst h1; simp [Instr.sliceBounds, l1]
    · simp [Instr.sliceBounds, l1, h1]
  · rename_i v c
    simp only [optNat] at em
    split at em
    · rename_i n hn
      cases em
      simp only [CutB] at hc
      have hmax : (Instr.sliceBound c cap (if isS then .slice3Acap else .slice3Alen)).run P w = .ok n w := run_bound hmx hn hc.2
      have l1 := low .slice3C
      cases hi <;> cases chi <;> simp only [ConcO] at hhi
      · simp [hiV] at eh
      · rename_i v2 c2
        simp only [hiV] at eh
        have h1 : (Instr.sliceBound c2 n .slice3B).run P w = .ok h w := run_bound hhi eh hc.1
        cases clo <;> simp only [] at l1
        · subst l1; simp [Instr.sliceBounds, hmax, h1]
        · simp [Instr.sliceBounds, hmax, h1, l1]
    · cases em

theorem cutSlice_sound {b off len size : Nat} {cap : ACap} {l h : Nat} {m : Option Nat} {v : AV} {cb n : Nat} (hb : ρ.blk b = some cb) (hln : len ≤ n)
    (hn : CapOk ρ b len n cap) (e : cutSlice b off len size cap l h m = some v) :
    l ≤ h ∧ CutB n h m ∧
    v.conc ρ = some (.slice (if m.getD n = l then some ⟨cb, off, none⟩ else some ⟨cb, off + l * size, none⟩) (h - l) (m.getD n - l)) := by
  unfold cutSlice at e
  split at e
  · cases e
  · rename_i hcond
    rw [Bool.and_eq_true] at hcond
    obtain ⟨c1, c2⟩ := hcond
    have hlh : l ≤ h := Nat.le_of_ble_eq_true c1
    have hcl : capLen len cap ≤ n := by
      cases cap with
      | exact k => simp only [CapOk] at hn; subst hn; exact Nat.le_refl _
      | rest k => exact hln
    have hm : CutB n h m := by
      cases m with
      | none => simp only [CutB] at c2 ⊢; exact Nat.le_trans (Nat.le_of_ble_eq_true c2) hcl
      | some m =>
        simp only [Bool.and_eq_true] at c2
        exact ⟨Nat.le_of_ble_eq_true c2.1, Nat.le_trans (Nat.le_of_ble_eq_true c2.2) hcl⟩
    refine ⟨hlh, hm, ?_⟩
    have hoff : ∀ o, some o = (if (l * size : Nat) = 0 then some off else some (off + l * size)) → o = off + l * size := by
      intro o ho; split at ho <;> cases ho <;> omega
    split at e
    · -- at the very end
      rename_i hc3
      cases cap with
      | exact k => simp at e
      | rest k =>
        simp only [Option.some.injEq] at e
        subst e
        cases m with
        | some m => simp at hc3
        | none =>
          simp only [Bool.or_eq_false_iff] at hc3
          simp only [CapOk, CutB] at hn hm
          have h1 : ¬ l < h := by
            intro hl
            have : Nat.blt l h = true := by rw [Nat.blt_eq]; exact hl
            rw [this] at hc3; cases hc3.1
          have h2 : l = h := by omega
          subst h2
          simp only [Option.getD_none, AV.conc, hb, Nat.sub_self]
          have h3 : k + l ≤ ρ.cap b := by omega
          rw [if_pos h3]
          have h4 : (n = l) ↔ (ρ.cap b = k + l) := by omega
          have h5 : ρ.cap b - (k + l) = n - l := by omega
          rw [h5]
          by_cases h6 : n = l
          · rw [if_pos h6, if_pos (h4.1 h6)]
          · rw [if_neg h6, if_neg (fun e => h6 (h4.2 e))]
    · rename_i hc3
      split at e
      · rename_i o ho
        cases e
        cases m with
        | some m =>
          simp only [CutB] at hm
          have hcap : capCut l (some m) cap = .exact (m - l) := by cases cap <;> rfl
          rw [hcap] at ho ⊢
          simp only [AV.conc, hb, Option.getD_some]
          have h1 : h - l ≤ m - l := by omega
          have h1' : Nat.sub h l ≤ m - l := h1
          rw [if_pos h1']
          by_cases h2 : m = l
          · subst h2
            rw [Nat.sub_self] at ho ⊢
            simp only [offCut, Option.some.injEq] at ho
            subst ho
            simp only [if_true]
            rfl
          · rw [if_neg h2]
            obtain ⟨q, hq⟩ : ∃ q, m - l = q + 1 := ⟨m - l - 1, by omega⟩
            rw [hq] at ho ⊢
            simp only [offCut, Option.some.injEq] at ho
            subst ho
            rfl
        | none =>
          simp only [CutB] at hm
          simp only [Option.getD_none]
          cases cap with
          | exact k =>
            simp only [CapOk] at hn
            subst hn
            simp only [capCut] at ho ⊢
            simp only [AV.conc, hb]
            have h1 : Nat.sub h l ≤ Nat.sub n l := Nat.sub_le_sub_right hm l
            rw [if_pos h1]
            by_cases h2 : n = l
            · subst h2
              have h3 : Nat.sub n n = 0 := Nat.sub_self n
              rw [h3] at ho ⊢
              simp only [offCut, Option.some.injEq] at ho
              subst ho
              simp
            · rw [if_neg h2]
              obtain ⟨q, hq⟩ : ∃ q, Nat.sub n l = q + 1 := ⟨n - l - 1, by have : Nat.sub n l = n - l := rfl; omega⟩
              have hq' : n - l = q + 1 := hq
              rw [hq] at ho ⊢
              simp only [offCut, Option.some.injEq] at ho
              subst ho
              rw [hq']
              rfl
          | rest k =>
            simp only [CapOk] at hn
            simp only [capCut, offCut, Option.some.injEq] at ho ⊢
            subst ho
            simp only [AV.conc, hb]
            have hlen : h ≤ len := Nat.le_of_ble_eq_true c2
            have h1 : Nat.sub h l + Nat.add k l ≤ ρ.cap b := by show (h - l) + (k + l) ≤ _; omega
            rw [if_pos h1]
            have h2 : ρ.cap b - Nat.add k l = n - l := by show ρ.cap b - (k + l) = _; omega
            rw [h2]
            simp only [Bool.or_eq_true, Nat.blt_eq] at hc3
            by_cases h3 : n = l
            · have h4 : l = 0 := by
                rcases hc3 with h5 | h5
                · omega
                · exact Nat.eq_of_beq_eq_true h5
              rw [if_pos h3]
              subst h4
              simp
            · rw [if_neg h3]
              rfl
      · cases e

theorem map_add (cb off l size : Nat) : (some (⟨cb, off, none⟩ : Addr)).map (·.add (l * size)) = some ⟨cb, off + l * size, none⟩ := by
  simp [addr_add]

theorem sliceC_sound {t : Nat} {x v : AV} {lo hi mx : Option AV} {cx : Value} {clo chi cmx : Option Value} (hx : x.conc ρ = some cx) (hlo : ConcO ρ lo clo) (hhi : ConcO ρ hi chi) (hmx : ConcO ρ mx cmx)
    (h : (sliceC P t).run x lo hi mx = some v) : ∃ c, v.conc ρ = some c ∧ (Instr.sliceAt t cx clo chi cmx).run P w = .ok c w := by
  unfold sliceC at h
  split at h
  · rename_i d hd
    split at h
    · rename_i hs
      have hu : P.underlying t = some .string := by rw [hd, strD_eq hs]
      simp only [] at h
      split at h
      · rename_i len n ha
        rw [asStr_eq ha] at hx
        obtain ⟨e1, rfl⟩ := conc_str.1 hx
        split at h
        · rename_i l hh el eh
          split at h
          · rename_i hc
            rw [Bool.and_eq_true] at hc
            have h1 := Nat.le_of_ble_eq_true hc.1
            have h2 := Nat.le_of_ble_eq_true hc.2
            cases h
            cases cmx with
            | some c => simp [ConcO] at hmx
            | none =>
              have hsz : (⟨(bytesL len n).toArray⟩ : ByteArray).size = len := by show (bytesL len n).toArray.size = len; simp
              have hb := run_bounds (P := P) (w := w) (ρ := ρ) (isS := false) (len := len) (cap := len) (l := l) (h := hh) (m := none) hlo hhi (mx := none) (cmx := none) trivial el
                (by clear hhi; cases hi <;> exact eh) rfl h1 h2
              refine ⟨strV (hh - l) (sub len n l hh), conc_str.2 ⟨sub_lt len n l hh, rfl⟩, ?_⟩
              simp only [Instr.sliceAt, Instr.slice, Sem.run_bind, run_underlying hu, Result.andThen_ok, strV, Option.isSome_none, Bool.false_eq_true, if_false, Sem.run_pure, hsz, hb]
              congr 2
              rw [bytesL_sub h1 h2]
              apply ByteArray.ext
              apply Array.ext'
              simp [ByteArray.data_extract]
          · cases h
        · cases h
      · cases h
    · split at h
      · rename_i e hs
        have hu : P.underlying t = some (.slice e) := by rw [hd, sliD_eq hs]
        split at h
        · rename_i size hz
          simp only [] at h
          split at h
          · rename_i b off len cap hsl
            rw [asSlice_eq hsl] at hx
            obtain ⟨cb, n, e1, rfl, e2, e3⟩ := conc_slice hx
            split at h
            · rename_i l hh m el eh em
              obtain ⟨g1, g2, g3⟩ := cutSlice_sound e1 e2 e3 h
              have hb := run_bounds (P := P) (w := w) (isS := true) (len := len) (cap := n) hlo hhi hmx el eh em g1 g2
              refine ⟨_, g3, ?_⟩
              simp only [Instr.sliceAt, Instr.slice, Sem.run_bind, run_underlying hu, Result.andThen_ok, hb, run_sizeT hz, Sem.run_pure, map_add]
            · cases h
          · split at h
            · rename_i hn
              rw [isNils_eq hn] at hx
              cases hx
              split at h
              · rename_i el eh em
                cases h
                refine ⟨_, rfl, ?_⟩
                have em' : ∃ m', optNat mx = some m' ∧ m'.getD 0 = 0 ∧ CutB 0 0 m' := by
                  clear hmx eh
                  cases mx with
                  | none => exact ⟨none, rfl, rfl, Nat.le_refl _⟩
                  | some v =>
                    simp only [boundV] at em
                    exact ⟨some 0, by simp only [optNat, em], rfl, Nat.le_refl _, Nat.le_refl _⟩
                obtain ⟨m', em1, hm0, hm1⟩ := em'
                have hb := run_bounds (P := P) (w := w) (isS := true) (len := 0) (cap := 0) hlo hhi hmx el eh em1 (Nat.le_refl _) hm1
                rw [hm0] at hb
                simp only [Instr.sliceAt, Instr.slice, Sem.run_bind, run_underlying hu, Result.andThen_ok, hb, run_sizeT hz, Sem.run_pure, if_true, Nat.sub_self]
              · cases h
            · split at h
              · rename_i he
                obtain ⟨b, o, l0, z0, k0, rfl⟩ := isEnd_eq he
                split at h
                · rename_i el eh
                  cases h
                  cases cmx with
                  | some c => simp [ConcO] at hmx
                  | none =>
                    obtain ⟨cb, e1, e2, rfl⟩ := conc_send hx
                    refine ⟨_, hx, ?_⟩
                    have eh' : hiV 0 hi none = some 0 := by clear hhi; cases hi <;> exact eh
                    have hb := run_bounds (P := P) (w := w) (ρ := ρ) (isS := true) (len := 0) (cap := ρ.cap b - (k0 + l0)) (l := 0) (h := 0) (m := none) hlo hhi (mx := none) (cmx := none) trivial el eh' rfl (Nat.le_refl _) (Nat.zero_le _)
                    simp only [Option.getD_none] at hb
                    simp only [Instr.sliceAt, Instr.slice, Sem.run_bind, run_underlying hu, Result.andThen_ok, hb, run_sizeT hz, Sem.run_pure, Nat.zero_mul, Nat.sub_zero]
                    congr 2
                    split
                    · rfl
                    · simp [addr_add]
                · cases h
              · cases h
        · cases h
      · split at h
        · rename_i n e ha
          have hu : P.underlying t = some (.array n e) := by rw [hd, arrD_eq ha]
          split at h
          · rename_i size hz
            simp only [] at h
            split at h
            · rename_i b off hp
              rw [asPtr_eq hp] at hx
              obtain ⟨cb, e1, rfl⟩ := conc_ptr.1 hx
              split at h
              · rename_i l hh m el eh em
                have em' : ∃ m', optNat mx = some m' ∧ m'.getD n = m := by
                  clear hmx eh
                  cases mx with
                  | none => simp only [boundV, Option.some.injEq] at em; exact ⟨none, rfl, em⟩
                  | some v =>
                    simp only [boundV] at em
                    exact ⟨some m, by simp only [optNat, em], rfl⟩
                obtain ⟨m', em1, em2⟩ := em'
                obtain ⟨g1, g2, g3⟩ := cutSlice_sound (ρ := ρ) (cb := cb) (n := n) e1 (Nat.le_refl n) (show CapOk ρ b n n (.exact n) from rfl) h
                simp only [Option.getD_some, CutB] at g2 g3
                have hb := run_bounds (P := P) (w := w) (isS := false) (len := n) (cap := n) hlo hhi hmx el eh em1 g1 (by
                  cases m' with
                  | none => simp only [Option.getD_none] at em2; subst em2; exact g2.1
                  | some m' => simp only [Option.getD_some] at em2; subst em2; exact g2)
                rw [em2] at hb
                refine ⟨_, g3, ?_⟩
                simp only [Instr.sliceAt, Sem.run_bind, run_underlying hu, Result.andThen_ok, Instr.sureAddr, Sem.run_pure, hb, run_sizeT hz, addr_add]
                congr 2
                split <;> rfl
              · cases h
            · cases h
          · cases h
        · cases h
  · cases h

end Go.Proofs.YtpmildboffolkaaGreat.Abs
