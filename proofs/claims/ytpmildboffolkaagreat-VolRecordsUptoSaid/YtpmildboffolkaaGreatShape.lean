/-
  The functions Raw and shape of codec return what their theorems say.
-/
import Derived.Test.YtpmildboffolkaaGreatReader
import Derived.Test.YtpmildboffolkaaGreatNumbers
set_option linter.unusedVariables false
set_option linter.unusedSimpArgs false
namespace Go.Proofs.YtpmildboffolkaaGreat
open Go.RowKit Go.Proofs.YtpmildboffolkaaGreat.VRec

set_option maxRecDepth 100000 in
theorem raw_ok (b n : Nat) (s : ByteArray) (w : World) (_hs : s.size ≤ 9223372036854775807) (hn : n ≤ s.size) (h0 : w.cell? ⟨b, 0, none⟩ = some (.string s)) (h1 : w.cell? ⟨b, 1, none⟩ = some (.int .i64 0)) (f0 : w.frozen? ⟨b, 0, none⟩ = false) :
    Calls Tryz.prog 33 #[.pointer (some ⟨b, 0, none⟩), .int .i64 n] w fun e w' => e = .returned (.string (s.extract 0 n)) ∧ w' = w.setCell ⟨b, 0, none⟩ (.string (s.extract n s.size)) := by
  have a1 : ¬ ((n : Int) < 0) := by omega
  have a2 : ¬ ((s.size : Int) < (n : Int)) := by omega
  go_enter Tryz.func33, Tryz.ntmps33
  go_wp2
  go_ret
  exact ⟨rfl, rfl⟩

theorem or_val (k X : Nat) (x : UInt8) (hX : X < 128 ^ k) (hk : k ≤ 9) (h9 : k = 9 → x.toNat % 128 ≤ 1) :
    bits .or .u64 (X : Int) (IntKind.u64.wrap (IntKind.u64.wrap (bits .and .u8 (x.toNat : Int) 127) * 2 ^ (7 * k))) = ((X + 128 ^ k * (x.toNat % 128) : Nat) : Int) := by
  have hx : x.toNat < 256 := x.toNat_lt
  have h1 : bits .and .u8 (x.toNat : Int) 127 = ((x.toNat % 128 : Nat) : Int) := by
    have h := u8_and_nat x.toNat 127 hx (by decide)
    rw [show (127 : Nat) = 2 ^ 7 - 1 from rfl, Nat.and_two_pow_sub_one_eq_mod] at h
    exact h
  have hm : x.toNat % 128 < 128 := Nat.mod_lt _ (by decide)
  generalize x.toNat % 128 = m at h1 h9 hm ⊢
  rw [h1, IntWalk.u64_in (m : Int) ⟨by omega, by omega⟩]
  have hp : (128 : Nat) ^ k = 2 ^ (7 * k) := by rw [Nat.pow_mul]
  have hb : m * 2 ^ (7 * k) < 18446744073709551616 := by
    by_cases e : k = 9
    · subst e
      have := h9 rfl
      have e2 : (2 : Nat) ^ (7 * 9) = 9223372036854775808 := by decide
      rw [e2]; omega
    · have h8 : (2 : Nat) ^ (7 * k) ≤ 2 ^ 56 := Nat.pow_le_pow_right (by decide) (by omega)
      have e2 : (2 : Nat) ^ 56 = 72057594037927936 := by decide
      rw [e2] at h8
      have : m * 2 ^ (7 * k) ≤ 127 * 72057594037927936 := Nat.mul_le_mul (by omega) h8
      omega
  have hc : (m : Int) * 2 ^ (7 * k) = ((m * 2 ^ (7 * k) : Nat) : Int) := by
    rw [Int.natCast_mul, Int.natCast_pow]; rfl
  rw [hc, IntWalk.u64_in _ ⟨by omega, by omega⟩]
  have hX2 : X < 18446744073709551616 := by
    have := pow_le hk
    omega
  rw [u64_or_nat X (m * 2 ^ (7 * k)) hX2 hb]
  congr 1
  rw [hp] at hX ⊢
  rw [Nat.or_comm, Nat.mul_comm m, ← Nat.two_pow_add_eq_or_of_lt hX m, Nat.add_comm]

/-- what shape answers -/
def Shaped : Option (Nat × Nat) → Ending → Prop
  | some (n, k), e => e = .returned (.tuple #[.int .u64 n, .int .i64 k, .int .i64 0])
  | none, e => ∃ x : Int, x ≠ 0 ∧ e = .returned (.tuple #[.int .u64 0, .int .i64 0, .int .i64 x])
theorem shaped_some {r : Option (Nat × Nat)} {n k : Nat} {a b : Int} (h : r = some (n, k)) (ha : a = n) (hb : b = k) : Shaped r (.returned (.tuple #[.int .u64 a, .int .i64 b, .int .i64 0])) := by
  subst h; subst ha; subst hb; rfl
theorem shaped_none {r : Option (Nat × Nat)} {x : Int} (h : r = none) (hx : x ≠ 0) : Shaped r (.returned (.tuple #[.int .u64 0, .int .i64 0, .int .i64 x])) := by
  subst h; exact ⟨x, hx, rfl⟩

set_option maxHeartbeats 4000000 in
set_option maxRecDepth 100000 in
theorem shape_any (s : ByteArray) (w : World) :
    Calls Tryz.prog 75 #[.string s] w fun e w' => Shaped (rv 0 s.data.toList) e ∧ w' = w := by
  go_enter Tryz.func75, Tryz.ntmps75
  go_wp2
  go_loopg [2, 9] s.size (fun g s2 s9 wx => w = wx ∧ ∃ (k X : Nat), k + g = s.size ∧ s9 = .int .i64 k ∧ s2 = .int .u64 X ∧ X < 128 ^ k ∧ k ≤ 9 ∧ Aside (Front s.data.toList k X))
  case atStart => exact ⟨rfl, 0, 0, by omega, rfl, rfl, by decide, by omega, front_zero _⟩
  case round =>
    obtain ⟨rfl, k, X, hkg, rfl, rfl, hX, hk9, HF⟩ := hrel
    by_cases hk : k < s.size
    · have hkz : (k : Int) < (s.size : Int) := by omega
      have HD : Aside (s.data.toList.drop k = s[k] :: s.data.toList.drop (k + 1)) := drop_at hk
      obtain ⟨x, hx⟩ : ∃ x : UInt8, s[k] = x := ⟨_, rfl⟩
      have hx256 : x.toNat < 256 := x.toNat_lt
      have HD2 : Aside (s.data.toList.drop k = x :: s.data.toList.drop (k + 1)) := HD.out.trans (by rw [hx])
      have hX2 : X < 9223372036854775808 := Nat.lt_of_lt_of_le hX (pow_le hk9)
      clear HD
      have n1 : ∀ {n : Nat}, x.toNat = n → n < 256 → x = UInt8.ofNat n := fun {n} h h2 => by
        rw [← h]; exact (UInt8.ofNat_toNat).symm
      have N1 : Aside (∀ {n : Nat}, x.toNat = n → n < 256 → x = UInt8.ofNat n) := n1
      clear n1
      go_wp2
      · have e9 : (k : Int) = 9 := by assumption
        have e1 : ((x.toNat : Int) != 1) = true := by assumption
        go_ret3
        exact ⟨shaped_none (front_form HF.out HD2.out (by omega) (by rintro rfl; simp at e1)) (by decide), rfl⟩
      · have e1 : ((x.toNat : Int) != 1) = false := by assumption
        have e0 : x.toNat = 0 := by assumption
        rw [e0] at e1; simp at e1
      · have e9 : (k : Int) = 9 := by assumption
        have e1 : ((x.toNat : Int) != 1) = false := by assumption
        have e2 : x.toNat = 1 := by simp at e1; omega
        obtain rfl : k = 9 := by omega
        have hv := or_val 9 X x hX (by decide) (fun _ => by rw [e2]; decide)
        have hl := front_last HF.out HD2.out (fun _ => N1.out e2 (by decide)) (by rw [e2]; decide) (fun h => by rw [h] at e2; simp at e2)
        go_ret3
        refine ⟨shaped_some hl ?_ rfl, rfl⟩
        rw [show x.toNat % 128 = x.toNat by rw [e2]] at hv
        exact hv
      · have e1 : ((x.toNat : Int) != 1) = false := by assumption
        have e2 : (128 : Int) ≤ (x.toNat : Int) := by assumption
        simp at e1; omega
      · have e0 : x.toNat = 0 := by assumption
        have ek : 0 < k := by assumption
        go_ret3
        exact ⟨shaped_none (front_zeroC HF.out HD2.out ek (N1.out e0 (by decide))) (by decide), rfl⟩
      · have e0 : x.toNat = 0 := by assumption
        have ek : ¬ 0 < k := by assumption
        have e9 : ¬ (k : Int) = 9 := by assumption
        have hv := or_val k X x hX hk9 (fun h => absurd (by omega) e9)
        have hl := front_last HF.out HD2.out (fun h => absurd (by omega) e9) (by rw [e0]; decide) (fun _ => Nat.eq_zero_of_not_pos ek)
        go_ret3
        refine ⟨shaped_some hl ?_ (by omega), rfl⟩
        rw [e0] at hv ⊢
        exact hv
      · have e0 : ¬ x.toNat = 0 := by assumption
        have e1 : (x.toNat : Int) < 128 := by assumption
        have e9 : ¬ (k : Int) = 9 := by assumption
        have hv := or_val k X x hX hk9 (fun h => by omega)
        have hl := front_last HF.out HD2.out (fun h => by omega) (by omega) (fun h => by rw [h] at e0; simp at e0)
        go_ret3
        refine ⟨shaped_some hl ?_ (by omega), rfl⟩
        rw [show x.toNat % 128 = x.toNat by omega] at hv
        exact hv
      · have e1 : (128 : Int) ≤ (x.toNat : Int) := by assumption
        have e9 : ¬ (k : Int) = 9 := by assumption
        have hv := or_val k X x hX hk9 (fun h => by omega)
        rw [show x.toNat % 128 = x.toNat - 128 by omega] at hv
        have hm := front_more HF.out HD2.out rfl (by omega) (by omega)
        go_roundg (s.size - (k + 1))
        case measure => omega
        case rel =>
          exact ⟨rfl, k + 1, X + 128 ^ k * (x.toNat - 128), by omega, by go_num, by rw [hv], pow_bound hX (by omega), by omega, hm⟩
    · have hkz : ¬ (k : Int) < (s.size : Int) := by omega
      go_wp2
      go_ret3
      exact ⟨shaped_none (front_end HF.out (show s.data.toList.length ≤ k by simpa using Nat.not_lt.1 hk)) (by decide), rfl⟩
end Go.Proofs.YtpmildboffolkaaGreat
