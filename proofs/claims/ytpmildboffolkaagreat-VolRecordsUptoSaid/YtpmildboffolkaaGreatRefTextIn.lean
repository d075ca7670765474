/-
  The function text of the reference returns the text with which every string begins, or that there is none.
-/
import Derived.Test.YtpmildboffolkaaGreatRefRead
set_option linter.unusedVariables false
set_option linter.unusedSimpArgs false
namespace Go.Proofs.YtpmildboffolkaaGreat
open Go.RowKit Go.Proofs.YtpmildboffolkaaGreat.VRec

theorem readr_some (s : ByteArray) {n k : Nat} (h : rv 0 s.data.toList = some (n, k)) (hs : s.size ≤ 9223372036854775807) (w : World) :
    Calls Tryz.prog 34 #[.string s] w fun e w' => e = .returned (.tuple #[.int .u64 n, .int .i64 k, .int .i64 0]) ∧ w = w' :=
  (readr_any s w hs).mono fun e w' ⟨he, hw⟩ => by
    rw [h] at he
    exact ⟨he, hw⟩
theorem readr_none (s : ByteArray) (h : rv 0 s.data.toList = none) (hs : s.size ≤ 9223372036854775807) (w : World) :
    Calls Tryz.prog 34 #[.string s] w fun e w' => ∃ x : Int, (x != 0) = true ∧ e = .returned (.tuple #[.int .u64 0, .int .i64 0, .int .i64 x]) ∧ w = w' :=
  (readr_any s w hs).mono fun e w' ⟨he, hw⟩ => by
    rw [h] at he
    obtain ⟨x, hx, he⟩ := he
    exact ⟨x, by simpa using hx, he, hw⟩

set_option maxHeartbeats 2000000 in
set_option maxRecDepth 100000 in
theorem textin_some {a r : Bs} (s : ByteArray) (w : World) (hs : s.size ≤ 9223372036854775807) (ht : txt s.data.toList = some (a, r)) :
    Calls Tryz.prog 14 #[.string s] w fun e w' => ∃ A R : ByteArray, A.data.toList = a ∧ R.data.toList = r ∧ e = .returned (.tuple #[.string A, .string R, .bool true]) ∧ Only (fun _ => False) w w' := by
  obtain ⟨n, k, hr, hle, ha, hrr⟩ : ∃ n k, rv 0 s.data.toList = some (n, k) ∧ ¬ s.data.toList.length - k < n ∧ (s.data.toList.drop k).take n = a ∧ (s.data.toList.drop k).drop n = r := by
    unfold txt at ht
    cases e : rv 0 s.data.toList with
    | none => rw [e] at ht; cases ht
    | some p =>
      obtain ⟨n, k⟩ := p
      rw [e] at ht
      simp only at ht
      split at ht
      · cases ht
      · rename_i hh
        simp only [Option.some.injEq, Prod.mk.injEq] at ht
        exact ⟨n, k, rfl, hh, ht.1, ht.2⟩
  have hk := (rv_size _ _ hr).2
  have hlen : s.data.toList.length = s.size := by simp
  rw [hlen] at hle hk
  have hnk : k + n ≤ s.size := by omega
  have HR : Hid (rv 0 s.data.toList = some (n, k)) := hr
  have HA : Hid ((s.data.toList.drop k).take n = a) := ha
  have HRR : Hid ((s.data.toList.drop k).drop n = r) := hrr
  have t1 : ¬ ((s.size : Int) - (k : Int) < (n : Int)) := by omega
  clear hr ha hrr ht hlen hle
  go_enter Tryz.func14, Tryz.ntmps14
  go_wp2_with (go_at_call 34; refine (readr_some s HR.out hs _).mono ?_; rintro e w' ⟨rfl, rfl⟩)
  go_quiet (fail)
  go_wp2_with fail
  go_ret3
  refine ⟨s.extract k (k + n), s.extract (k + n) s.size, ?_, ?_, rfl, (Only.refl _ _).drewN _⟩
  · rw [Lib.extract_data, ← HA.out]; simp
  · rw [Lib.extract_to_end, ← HRR.out, List.drop_drop]

set_option maxHeartbeats 2000000 in
set_option maxRecDepth 100000 in
theorem textin_none (s : ByteArray) (w : World) (hs : s.size ≤ 9223372036854775807) (ht : txt s.data.toList = none) :
    Calls Tryz.prog 14 #[.string s] w fun e w' => e = .returned (.tuple #[.string ⟨#[]⟩, .string ⟨#[]⟩, .bool false]) ∧ Only (fun _ => False) w w' := by
  cases hr : rv 0 s.data.toList with
  | none =>
    have HR : Hid (rv 0 s.data.toList = none) := hr
    clear hr ht
    go_enter Tryz.func14, Tryz.ntmps14
    go_wp2_with (go_at_call 34; refine (readr_none s HR.out hs _).mono ?_; rintro e w' ⟨x, hx, rfl, rfl⟩)
    go_ret3
    exact ⟨rfl, Only.refl _ _⟩
  | some p =>
    obtain ⟨n, k⟩ := p
    have hlong : s.size - k < n := by
      unfold txt at ht
      rw [hr] at ht
      simp only at ht
      split at ht
      · rename_i hh; simpa using hh
      · cases ht
    have hk := (rv_size _ _ hr).2
    have hlen : s.data.toList.length = s.size := by simp
    rw [hlen] at hk
    have t1 : (s.size : Int) - (k : Int) < (n : Int) := by omega
    have HR : Hid (rv 0 s.data.toList = some (n, k)) := hr
    clear hr ht hlen
    go_enter Tryz.func14, Tryz.ntmps14
    go_wp2_with (go_at_call 34; refine (readr_some s HR.out hs _).mono ?_; rintro e w' ⟨rfl, rfl⟩)
    go_ret3
    exact ⟨rfl, Only.refl _ _⟩
end Go.Proofs.YtpmildboffolkaaGreat
