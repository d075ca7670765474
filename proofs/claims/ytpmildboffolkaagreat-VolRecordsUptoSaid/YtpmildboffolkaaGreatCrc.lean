/-
  The function codec.Crc of the program gives what the plain function crcF gives, on every string of at most 2^44 bytes.
-/
import Derived.Test.YtpmildboffolkaaGreatAbs6
import Derived.KernelRfl
import Derived.Test.YtpmildboffolkaaGreatProg
import Derived.WalkKit
import Derived.WalkMore
import Derived.Deep.LoopGhost
import Derived.RowKit
import Derived.Laws.BitsAllLaws
set_option linter.unusedVariables false
set_option linter.unusedSimpArgs false
namespace Go.Proofs.YtpmildboffolkaaGreat
open Go.RowKit Go.Proofs.YtpmildboffolkaaGreat.Abs

set_option maxHeartbeats 4000000 in
set_option maxRecDepth 100000 in
theorem crc_walk (s : ByteArray) (w : World) (hs : s.size ≤ 17592186044416) (F : Nat → Nat → Nat) (hF0 : ∀ c, F s.size c = c) (hFs : ∀ k c (hk : k < s.size), F k c = F (k + 1) (bitsN 8 (c ^^^ s[k].toNat))) (hFb : F 0 4294967295 < 4294967296) :
    Calls Tryz.prog 232 #[.string s] w fun e w' => e = .returned (.int .u32 (4294967295 ^^^ F 0 4294967295 : Nat)) ∧ w' = w := by
  have HF0 : Aside (∀ c, F s.size c = c) := hF0
  have HFs : Aside (∀ k c (hk : k < s.size), F k c = F (k + 1) (bitsN 8 (c ^^^ s[k].toNat))) := hFs
  have hmax : IntKind.u32.max = (4294967295 : Int) := by decide
  clear hF0 hFs
  go_enter Tryz.func232, Tryz.ntmps232
  go_wp2
  go_loopg [3, 7] s.size (fun g s3 s7 wx => w = wx ∧ ∃ (k c : Nat), k + g = s.size ∧ s7 = .int .i64 k ∧ s3 = .int .u32 c ∧ c < 4294967296 ∧ Aside (F k c = F 0 4294967295))
  case atStart => exact ⟨rfl, 0, 4294967295, by omega, rfl, rfl, by omega, rfl⟩
  case round =>
    obtain ⟨rfl, k, c, hkg, rfl, rfl, hc, HI⟩ := hrel
    by_cases hkn : k < s.size
    · have hkz : (k : Int) < (s.size : Int) := by omega
      obtain ⟨x, hx⟩ : ∃ x : UInt8, s[k] = x := ⟨_, rfl⟩
      have hx256 : x.toNat < 256 := x.toNat_lt
      have hxm : ((x.toNat : Int) % 4294967296) = (x.toNat : Int) := by omega
      have hxor : bits .xor .u32 (c : Int) (x.toNat : Int) = ((c ^^^ x.toNat : Nat) : Int) := u32_xor_nat c x.toNat hc (by omega)
      have hc0 : c ^^^ x.toNat < 4294967296 := Nat.xor_lt_two_pow (n := 32) hc (by omega)
      obtain ⟨c0, hc0e⟩ : ∃ c0, c ^^^ x.toNat = c0 := ⟨_, rfl⟩
      rw [hc0e] at hxor hc0
      have HC0 : Aside (c ^^^ x.toNat = c0) := hc0e
      have HX : Aside (s[k] = x) := hx
      clear hc0e
      go_wp2
      go_loopg [3, 16] 8 (fun g s3 s16 wy => w = wy ∧ ∃ (j y : Nat), j + g = 8 ∧ s16 = .int .i64 j ∧ s3 = .int .u32 y ∧ y < 4294967296 ∧ Aside (bitsN g y = bitsN 8 c0))
      case atStart => exact ⟨rfl, 0, c0, by omega, rfl, rfl, hc0, rfl⟩
      case round =>
        obtain ⟨rfl, j, y, hjg, rfl, rfl, hy, HJ⟩ := hrel
        cases gk with
        | zero =>
          have hj8 : ¬ (j : Int) < 8 := by omega
          have HYY : Aside (y = bitsN 8 c0) := HJ.out
          clear HJ
          go_wp2
          go_roundg (s.size - (k + 1))
          case measure => omega
          case rel =>
            refine ⟨rfl, k + 1, y, by omega, by go_num, rfl, hy, ?_⟩
            show F (k + 1) y = _
            have e1 := HFs.out k c hkn
            rw [HX.out, HC0.out, ← HYY.out] at e1
            rw [← e1]; exact HI.out
        | succ g2 =>
          have hj8 : (j : Int) < 8 := by omega
          have hy1 : bits .and .u32 (y : Int) 1 = ((y &&& 1 : Nat) : Int) := u32_and_nat y 1 hy (by omega)
          rw [Nat.and_one_is_mod] at hy1
          rcases Nat.mod_two_eq_zero_or_one y with e | e
          · rw [e] at hy1
            have HE : Aside (y % 2 = 0) := e
            clear e
            have ha : bits .and .u32 2197175160 0 = 0 := by decide
            have hb : bits .xor .u32 ((y : Int) / 2) 0 = ((y / 2 : Nat) : Int) := by
              have := u32_xor_nat (y / 2) 0 (by omega) (by omega)
              rw [Nat.xor_zero] at this
              rw [← this]; congr 1
            go_wp2
            go_roundg g2
            case measure => omega
            case rel =>
              refine ⟨rfl, j + 1, y / 2, by omega, by go_num, by first | rfl | rw [ha, hb] | rw [hb], by omega, ?_⟩
              show bitsN g2 (y / 2) = _
              rw [← crcBit_even HE.out]; exact HJ.out
          · rw [e] at hy1
            have HE : Aside (y % 2 = 1) := e
            clear e
            have ha : bits .and .u32 2197175160 4294967295 = 2197175160 := by decide
            have hb : bits .xor .u32 ((y : Int) / 2) 2197175160 = ((y / 2 ^^^ 2197175160 : Nat) : Int) := by
              have := u32_xor_nat (y / 2) 2197175160 (by omega) (by omega)
              rw [← this]; congr 1
            go_wp2
            go_roundg g2
            case measure => omega
            case rel =>
              refine ⟨rfl, j + 1, y / 2 ^^^ 2197175160, by omega, by go_num, by first | rfl | rw [ha, hb] | rw [hb], ?_, ?_⟩
              · rw [← crcBit_odd HE.out]; exact crcBit_lt hy
              · show bitsN g2 (y / 2 ^^^ 2197175160) = _
                rw [← crcBit_odd HE.out]; exact HJ.out
    · have hkz : ¬ (k : Int) < (s.size : Int) := by omega
      go_wp2
      go_ret
      have hk : k = s.size := by omega
      subst hk
      have e1 := HF0.out c
      have e2 := HI.out
      refine ⟨?_, rfl⟩
      have hx1 : bits .xor .u32 4294967295 (c : Int) = ((4294967295 ^^^ c : Nat) : Int) := u32_xor_nat 4294967295 c (by omega) hc
      rw [hx1, ← e2, e1]
      rfl


theorem nameCrc : (Tryz.f232.name == "runtime.NumGoroutine") = false := by kernel_rfl
theorem bodyCrc : Tryz.f232.body.isSome = true := by kernel_rfl
set_option maxRecDepth 1000000 in
theorem crcOk : ExtOk Tryz.prog 232 crcHook := crc_ok Tryz.func232 nameCrc bodyCrc crc_walk
end Go.Proofs.YtpmildboffolkaaGreat
