/-
  The function ReadVarint of the reference returns the number with which every string begins, or that there is none.
-/
import Derived.Test.YtpmildboffolkaaGreatRefText
import Derived.Test.YtpmildboffolkaaGreatGroups
set_option linter.unusedVariables false
set_option linter.unusedSimpArgs false
namespace Go.Proofs.YtpmildboffolkaaGreat
open Go.RowKit Go.Proofs.YtpmildboffolkaaGreat.VRec

set_option maxHeartbeats 8000000 in
set_option maxRecDepth 100000 in
theorem readr_any (s : ByteArray) (w : World) (hs : s.size ≤ 9223372036854775807) :
    Calls Tryz.prog 34 #[.string s] w fun e w' => Shaped (rv 0 s.data.toList) e ∧ w = w' := by
  have hlen : s.data.toList.length = s.size := by simp
  have HLEN : Aside (s.data.toList.length = s.size) := hlen
  clear hlen
  go_enter Tryz.func34, Tryz.ntmps34
  go_wp2_with fail
  go_loopg [5] 10 (fun g s5 wx => w = wx ∧ ∃ i : Nat, i + g = 10 ∧ i ≤ 9 ∧ s5 = .int .i64 i ∧ i ≤ s.size ∧ Aside (Goes s.data.toList i))
  case atStart => exact ⟨rfl, 0, by omega, by omega, rfl, by omega, fun k c _ h => absurd h (by omega)⟩
  case round =>
    obtain ⟨rfl, i, hig, hi9, rfl, hil, HG⟩ := hrel
    have i1 : (i : Int) < 10 := by omega
    by_cases hi : i < s.size
    · have hiz : ¬ (s.size : Int) ≤ (i : Int) := by omega
      have hiz2 : (i : Int) < (s.size : Int) := by omega
      obtain ⟨x, hx⟩ : ∃ x : UInt8, s[i] = x := ⟨_, rfl⟩
      have hx256 : x.toNat < 256 := x.toNat_lt
      have HX : Aside (s.data.toList[i]? = some x) := by
        show _ = _
        rw [at_byte hi, hx]
      have N1 : Aside (∀ {n : Nat}, x.toNat = n → n < 256 → x = UInt8.ofNat n) := fun {n} h h2 => by
        rw [← h]; exact (UInt8.ofNat_toNat).symm
      by_cases hi9' : i = 9
      · subst hi9'
        by_cases h1 : 1 < x.toNat
        · have hz1 : (1 : Int) < (x.toNat : Int) := by omega
          go_wp2_with fail
          go_ret3
          exact ⟨shaped_none (goes_none_form HG.out rfl HX.out (by rintro rfl; exact absurd h1 (by decide))) (by decide), rfl⟩
        · by_cases h0 : x.toNat = 0
          · go_wp2_with fail
            go_ret3
            exact ⟨shaped_none (goes_none_zero HG.out (by decide) (by decide) HX.out (N1.out h0 (by decide))) (by decide), rfl⟩
          · have h11 : x.toNat = 1 := by omega
            have HV : Aside (rv 0 s.data.toList = some (num (s.data.toList.take (9 + 1)), 9 + 1)) := goes_last HG.out (by decide) HX.out (by omega) (fun _ => N1.out h11 (by decide)) (fun e => by rw [e] at h0; exact absurd rfl h0)
            have HBD : Aside (num (s.data.toList.take (9 + 1)) < 18446744073709551616) := num_take_bound (by decide) (by rw [HLEN.out]; omega) (fun c hc _ => by
              rw [HX.out] at hc; cases hc; exact N1.out h11 (by decide))
            go_wp2_with fail
            go_loopg [6, 7] (9 + 1) (fun g s6 s7 wx => w = wx ∧ s6 = .int .u64 (num ((s.data.toList.take (9 + 1)).drop g) : Nat) ∧ ((g = 0 ∧ s7 = .int .i64 (-1)) ∨ ∃ j : Nat, g = j + 1 ∧ j ≤ 9 ∧ s7 = .int .i64 j))
            case atStart =>
              refine ⟨rfl, ?_, Or.inr ⟨9, rfl, Nat.le_refl _, rfl⟩⟩
              rw [List.drop_eq_nil_of_le (by rw [List.length_take]; omega)]
              rfl
            case round =>
              obtain ⟨rfl, rfl, ⟨rfl, rfl⟩ | ⟨j, rfl, hj, rfl⟩⟩ := hrel
              · go_wp2_with fail
                go_ret3
                exact ⟨shaped_some HV.out rfl (by omega), rfl⟩
              · have hjs : j < s.size := by omega
                have hjz : (j : Int) < (s.size : Int) := by omega
                have hj0 : (0 : Int) ≤ (j : Int) := by omega
                obtain ⟨y, hy⟩ : ∃ y : UInt8, s[j] = y := ⟨_, rfl⟩
                have hy256 : y.toNat < 256 := y.toNat_lt
                obtain ⟨Q, hQ⟩ : ∃ Q, Q = num ((s.data.toList.take (9 + 1)).drop (j + 1)) := ⟨_, rfl⟩
                have hstep : num ((s.data.toList.take (9 + 1)).drop j) = y.toNat % 128 + 128 * Q := by
                  rw [hQ]
                  refine num_drop_step (c := y) ?_
                  rw [List.getElem?_take_of_lt (by omega), at_byte hjs, hy]
                have hbd : Q * 128 + y.toNat % 128 < 18446744073709551616 := by
                  have h1 := num_drop_le (s.data.toList.take (9 + 1)) j
                  have h2 := HBD.out
                  omega
                have HST : Hid (num ((s.data.toList.take (9 + 1)).drop j) = y.toNat % 128 + 128 * Q) := hstep
                rw [← hQ]
                clear hQ hstep
                go_wp2_with fail
                go_roundg j
                case measure => omega
                case rel =>
                  refine ⟨rfl, ?_, ?_⟩
                  · rw [HST.out]; go_num
                  · rcases Nat.eq_zero_or_pos j with h0 | h0
                    · subst h0; exact Or.inl ⟨rfl, by go_num⟩
                    · exact Or.inr ⟨j - 1, by omega, by omega, by go_num⟩
      · have e9 : ¬ (i : Int) = 9 := by omega
        have e9b : ((i : Int) == 9) = false := by simp; omega
        by_cases hb : 128 ≤ x.toNat
        · have hbz : (128 : Int) ≤ (x.toNat : Int) := by omega
          go_wp2_with fail
          go_roundg (10 - (i + 1))
          case measure => omega
          case rel => exact ⟨rfl, i + 1, by omega, by omega, by go_num, by omega, goes_next HG.out HX.out hb⟩
        · have hbz : ¬ (128 : Int) ≤ (x.toNat : Int) := by omega
          have HBD : Aside (num (s.data.toList.take (i + 1)) < 18446744073709551616) := num_take_bound hi9 (by rw [HLEN.out]; omega) (fun c hc h => absurd h hi9')
          by_cases h0 : x.toNat = 0
          · by_cases hp : 0 < i
            · have hpz : (0 : Int) < (i : Int) := by omega
              go_wp2_with fail
              go_ret3
              exact ⟨shaped_none (goes_none_zero HG.out hi9 hp HX.out (N1.out h0 (by decide))) (by decide), rfl⟩
            · have hpz : ¬ (0 : Int) < (i : Int) := by omega
              have HV : Aside (rv 0 s.data.toList = some (num (s.data.toList.take (i + 1)), i + 1)) := goes_last HG.out hi9 HX.out (by omega) (fun e => absurd e hi9') (fun _ => by omega)
              go_wp2_with fail
              go_loopg [6, 7] (i + 1) (fun g s6 s7 wx => w = wx ∧ s6 = .int .u64 (num ((s.data.toList.take (i + 1)).drop g) : Nat) ∧ ((g = 0 ∧ s7 = .int .i64 (-1)) ∨ ∃ j : Nat, g = j + 1 ∧ j ≤ i ∧ s7 = .int .i64 j))
              case atStart =>
                refine ⟨rfl, ?_, Or.inr ⟨i, rfl, Nat.le_refl _, rfl⟩⟩
                rw [List.drop_eq_nil_of_le (by rw [List.length_take]; omega)]
                rfl
              case round =>
                obtain ⟨rfl, rfl, ⟨rfl, rfl⟩ | ⟨j, rfl, hj, rfl⟩⟩ := hrel
                · go_wp2_with fail
                  go_ret3
                  exact ⟨shaped_some HV.out rfl (by omega), rfl⟩
                · have hjs : j < s.size := by omega
                  have hjz : (j : Int) < (s.size : Int) := by omega
                  have hj0 : (0 : Int) ≤ (j : Int) := by omega
                  obtain ⟨y, hy⟩ : ∃ y : UInt8, s[j] = y := ⟨_, rfl⟩
                  have hy256 : y.toNat < 256 := y.toNat_lt
                  obtain ⟨Q, hQ⟩ : ∃ Q, Q = num ((s.data.toList.take (i + 1)).drop (j + 1)) := ⟨_, rfl⟩
                  have hstep : num ((s.data.toList.take (i + 1)).drop j) = y.toNat % 128 + 128 * Q := by
                    rw [hQ]
                    refine num_drop_step (c := y) ?_
                    rw [List.getElem?_take_of_lt (by omega), at_byte hjs, hy]
                  have hbd : Q * 128 + y.toNat % 128 < 18446744073709551616 := by
                    have h1 := num_drop_le (s.data.toList.take (i + 1)) j
                    have h2 := HBD.out
                    omega
                  have HST : Hid (num ((s.data.toList.take (i + 1)).drop j) = y.toNat % 128 + 128 * Q) := hstep
                  rw [← hQ]
                  clear hQ hstep
                  go_wp2_with fail
                  go_roundg j
                  case measure => omega
                  case rel =>
                    refine ⟨rfl, ?_, ?_⟩
                    · rw [HST.out]; go_num
                    · rcases Nat.eq_zero_or_pos j with h0 | h0
                      · subst h0; exact Or.inl ⟨rfl, by go_num⟩
                      · exact Or.inr ⟨j - 1, by omega, by omega, by go_num⟩
          · have h0z : ¬ (x.toNat : Int) = 0 := by omega
            have HV : Aside (rv 0 s.data.toList = some (num (s.data.toList.take (i + 1)), i + 1)) := goes_last HG.out hi9 HX.out (by omega) (fun e => absurd e hi9') (fun e => by rw [e] at h0; exact absurd rfl h0)
            go_wp2_with fail
            go_loopg [6, 7] (i + 1) (fun g s6 s7 wx => w = wx ∧ s6 = .int .u64 (num ((s.data.toList.take (i + 1)).drop g) : Nat) ∧ ((g = 0 ∧ s7 = .int .i64 (-1)) ∨ ∃ j : Nat, g = j + 1 ∧ j ≤ i ∧ s7 = .int .i64 j))
            case atStart =>
              refine ⟨rfl, ?_, Or.inr ⟨i, rfl, Nat.le_refl _, rfl⟩⟩
              rw [List.drop_eq_nil_of_le (by rw [List.length_take]; omega)]
              rfl
            case round =>
              obtain ⟨rfl, rfl, ⟨rfl, rfl⟩ | ⟨j, rfl, hj, rfl⟩⟩ := hrel
              · go_wp2_with fail
                go_ret3
                exact ⟨shaped_some HV.out rfl (by omega), rfl⟩
              · have hjs : j < s.size := by omega
                have hjz : (j : Int) < (s.size : Int) := by omega
                have hj0 : (0 : Int) ≤ (j : Int) := by omega
                obtain ⟨y, hy⟩ : ∃ y : UInt8, s[j] = y := ⟨_, rfl⟩
                have hy256 : y.toNat < 256 := y.toNat_lt
                obtain ⟨Q, hQ⟩ : ∃ Q, Q = num ((s.data.toList.take (i + 1)).drop (j + 1)) := ⟨_, rfl⟩
                have hstep : num ((s.data.toList.take (i + 1)).drop j) = y.toNat % 128 + 128 * Q := by
                  rw [hQ]
                  refine num_drop_step (c := y) ?_
                  rw [List.getElem?_take_of_lt (by omega), at_byte hjs, hy]
                have hbd : Q * 128 + y.toNat % 128 < 18446744073709551616 := by
                  have h1 := num_drop_le (s.data.toList.take (i + 1)) j
                  have h2 := HBD.out
                  omega
                have HST : Hid (num ((s.data.toList.take (i + 1)).drop j) = y.toNat % 128 + 128 * Q) := hstep
                rw [← hQ]
                clear hQ hstep
                go_wp2_with fail
                go_roundg j
                case measure => omega
                case rel =>
                  refine ⟨rfl, ?_, ?_⟩
                  · rw [HST.out]; go_num
                  · rcases Nat.eq_zero_or_pos j with h0 | h0
                    · subst h0; exact Or.inl ⟨rfl, by go_num⟩
                    · exact Or.inr ⟨j - 1, by omega, by omega, by go_num⟩
    · have hiz : (s.size : Int) ≤ (i : Int) := by omega
      go_wp2_with fail
      go_ret3
      exact ⟨shaped_none (goes_none_end HG.out hi9 (by rw [HLEN.out]; omega)) (by decide), rfl⟩
end Go.Proofs.YtpmildboffolkaaGreat
