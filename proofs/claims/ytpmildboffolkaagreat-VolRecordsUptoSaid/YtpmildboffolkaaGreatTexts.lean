/-
  The functions Varint and Text of codec's reader return what their theorems say.
-/
import Derived.Test.YtpmildboffolkaaGreatShape
import Derived.Lib.Strings
import Derived.Lib.IndexBytes
set_option linter.unusedVariables false
set_option linter.unusedSimpArgs false
namespace Go.Proofs.YtpmildboffolkaaGreat
open Go.RowKit Go.Proofs.YtpmildboffolkaaGreat.VRec

theorem shape_some (s : ByteArray) {n k : Nat} (h : rv 0 s.data.toList = some (n, k)) (w : World) :
    Calls Tryz.prog 75 #[.string s] w fun e w' => e = .returned (.tuple #[.int .u64 n, .int .i64 k, .int .i64 0]) ∧ w = w' :=
  (shape_any s w).mono fun e w' ⟨he, hw⟩ => by
    rw [h] at he
    exact ⟨he, hw.symm⟩
theorem shape_none (s : ByteArray) (h : rv 0 s.data.toList = none) (w : World) :
    Calls Tryz.prog 75 #[.string s] w fun e w' => ∃ x : Int, (x == 0) = false ∧ e = .returned (.tuple #[.int .u64 0, .int .i64 0, .int .i64 x]) ∧ w = w' :=
  (shape_any s w).mono fun e w' ⟨he, hw⟩ => by
    rw [h] at he
    obtain ⟨x, hx, he⟩ := he
    exact ⟨x, by simpa using hx, he, hw.symm⟩

set_option maxRecDepth 100000 in
theorem varint_some (b n k : Nat) (s : ByteArray) (w : World) (hk : k ≤ s.size) (hr : rv 0 s.data.toList = some (n, k)) (h0 : w.cell? ⟨b, 0, none⟩ = some (.string s)) (h1 : w.cell? ⟨b, 1, none⟩ = some (.int .i64 0)) (f0 : w.frozen? ⟨b, 0, none⟩ = false) :
    Calls Tryz.prog 31 #[.pointer (some ⟨b, 0, none⟩)] w fun e w' => e = .returned (.int .u64 n) ∧ w' = w.setCell ⟨b, 0, none⟩ (.string (s.extract k s.size)) := by
  have HR : Hid (rv 0 s.data.toList = some (n, k)) := hr
  clear hr
  go_enter Tryz.func31, Tryz.ntmps31
  go_wp2_with (go_at_call 75; refine (shape_some s HR.out _).mono ?_; rintro e w' ⟨rfl, rfl⟩)
  go_ret
  exact ⟨rfl, rfl⟩
set_option maxRecDepth 100000 in
theorem varint_none (b : Nat) (s : ByteArray) (w : World) (hr : rv 0 s.data.toList = none) (h0 : w.cell? ⟨b, 0, none⟩ = some (.string s)) (h1 : w.cell? ⟨b, 1, none⟩ = some (.int .i64 0)) (f1 : w.frozen? ⟨b, 1, none⟩ = false) :
    Calls Tryz.prog 31 #[.pointer (some ⟨b, 0, none⟩)] w fun e w' => ∃ x : Int, (x == 0) = false ∧ e = .returned (.int .u64 0) ∧ w' = w.setCell ⟨b, 1, none⟩ (.int .i64 x) := by
  have HR : Hid (rv 0 s.data.toList = none) := hr
  clear hr
  go_enter Tryz.func31, Tryz.ntmps31
  go_wp2_with (first | (go_at_call 75; refine (shape_none s HR.out _).mono ?_; rintro e w' ⟨x, hx, rfl, rfl⟩) | (go_at_call 32; refine (fault_ok b _ _ h1 f1).mono ?_; rintro e w' ⟨rfl, rfl⟩))
  go_ret
  exact ⟨_, by assumption, rfl, rfl⟩

/-- A reader: the text that is left, and what was at fault. -/
abbrev Rd (w : World) (b : Nat) (s : ByteArray) (x : Int) : Prop := At w b 70 #[.string s, .int .i64 x]

set_option maxRecDepth 100000 in
theorem text_some {a r : Bs} (b : Nat) (s : ByteArray) (w : World) (hs : s.size ≤ 9223372036854775807) (ht : txt s.data.toList = some (a, r)) (h : Rd w b s 0) :
    Calls Tryz.prog 12 #[.pointer (some ⟨b, 0, none⟩)] w fun e w' => ∃ A R : ByteArray, A.data.toList = a ∧ R.data.toList = r ∧ e = .returned (.string A) ∧ Rd w' b R 0 ∧ Only (· = b) w w' := by
  obtain ⟨n, k, hr, hle, ha, hrr⟩ : ∃ n k, rv 0 s.data.toList = some (n, k) ∧ ¬ s.data.toList.length - k < n ∧ (s.data.toList.drop k).take n = a ∧ (s.data.toList.drop k).drop n = r := by
    unfold txt at ht
    cases e : rv 0 s.data.toList with
    | none => rw [e] at ht; cases ht
    | some p =>
      obtain ⟨n, k⟩ := p
      rw [e] at ht
      simp only at ht
      split at ht
      · cases ht
      · rename_i hh
        simp only [Option.some.injEq, Prod.mk.injEq] at ht
        exact ⟨n, k, rfl, hh, ht.1, ht.2⟩
  have hk := (rv_size _ _ hr).2
  have hlen : s.data.toList.length = s.size := by simp
  rw [hlen] at hle hk
  have HR : Hid (rv 0 s.data.toList = some (n, k)) := hr
  have h0 : w.cell? ⟨b, 0, none⟩ = some (.string s) := h.cell 0
  have h1 : w.cell? ⟨b, 1, none⟩ = some (.int .i64 0) := h.cell 1
  have f0 := h.free 0
  obtain ⟨s1, hs1⟩ : ∃ s1, s1 = s.extract k s.size := ⟨_, rfl⟩
  have hz1 : s1.size = s.size - k := by rw [hs1]; simp [ByteArray.size_extract]
  have hd1 : s1.data.toList = s.data.toList.drop k := by rw [hs1]; exact Lib.extract_to_end s k
  have hP := h.put 0 (.string s1)
  have c0 : (w.setCell ⟨b, 0, none⟩ (.string s1)).cell? ⟨b, 0, none⟩ = some (.string s1) := hP.cell 0
  have c1 : (w.setCell ⟨b, 0, none⟩ (.string s1)).cell? ⟨b, 1, none⟩ = some (.int .i64 0) := hP.cell 1
  have g0 := hP.free 0
  have hn1 : n ≤ s1.size := by omega
  have hmax : s1.size ≤ 9223372036854775807 := by omega
  have t1 : ¬ ((s1.size : Int) < (n : Int)) := by omega
  have HP : Hid (At (w.setCell ⟨b, 0, none⟩ (.string s1)) b 70 ((#[.string s, .int .i64 0] : Array Value).setIfInBounds 0 (.string s1))) := hP
  have HS : Hid (s1 = s.extract k s.size) := hs1
  have HD : Hid (s1.data.toList = s.data.toList.drop k) := hd1
  have V : Calls Tryz.prog 31 #[.pointer (some ⟨b, 0, none⟩)] w fun e w' => e = .returned (.int .u64 n) ∧ w' = w.setCell ⟨b, 0, none⟩ (.string s1) := by
    rw [hs1]; exact varint_some b n k s w hk hr h0 h1 f0
  have HV : Aside (Calls Tryz.prog 31 #[.pointer (some ⟨b, 0, none⟩)] w fun e w' => e = .returned (.int .u64 n) ∧ w' = w.setCell ⟨b, 0, none⟩ (.string s1)) := V
  clear hs1 hd1 hr hP V h0 h1 f0 hz1
  go_enter Tryz.func12, Tryz.ntmps12
  go_wp2_with (first | (go_at_call 31; refine Calls.mono HV.out ?_; rintro e w' ⟨rfl, rfl⟩) | (go_at_call 33; refine (raw_ok b n s1 _ hmax hn1 c0 c1 g0).mono ?_; rintro e w' ⟨rfl, rfl⟩))
  go_ret
  refine ⟨s1.extract 0 n, s1.extract n s1.size, ?_, ?_, rfl, HP.out.put 0 _, ?_⟩
  · rw [Lib.extract_data, HD.out]; simpa using ha
  · rw [Lib.extract_to_end, HD.out]; exact hrr
  · exact ((Only.refl (· = b) w).set (p := ⟨b, 0, none⟩) (fun _ => rfl) _).set (p := ⟨b, 0, none⟩) (fun _ => rfl) _

set_option maxRecDepth 100000 in
theorem text_bad (b : Nat) (s : ByteArray) (w : World) (ht : rv 0 s.data.toList = none) (h : Rd w b s 0) :
    Calls Tryz.prog 12 #[.pointer (some ⟨b, 0, none⟩)] w fun e w' => ∃ (R : ByteArray) (x : Int), (x == 0) = false ∧ e = .returned (.string ⟨#[]⟩) ∧ Rd w' b R x ∧ Only (· = b) w w' := by
  have V := varint_none b s w ht (h.cell 0) (h.cell 1) (h.free 1)
  have HV : Aside (Calls Tryz.prog 31 #[.pointer (some ⟨b, 0, none⟩)] w fun e w' => ∃ x : Int, (x == 0) = false ∧ e = .returned (.int .u64 0) ∧ w' = w.setCell ⟨b, 1, none⟩ (.int .i64 x)) := V
  have HP : Aside (∀ x : Int, (w.setCell ⟨b, 1, none⟩ (.int .i64 x)).cell? ⟨b, 1, none⟩ = some (.int .i64 x)) := fun x => (h.put 1 (.int .i64 x)).cell 1
  have HH : Aside (Rd w b s 0) := h
  clear V ht h
  go_enter Tryz.func12, Tryz.ntmps12
  go_wp2_with (go_at_call 31; refine Calls.mono HV.out ?_; rintro e w' ⟨x, hx, rfl, rfl⟩; have cx := HP.out x)
  go_ret
  exact ⟨s, x, by assumption, rfl, HH.out.put 1 _, (Only.refl (· = b) w).set (p := ⟨b, 1, none⟩) (fun _ => rfl) _⟩

set_option maxRecDepth 100000 in
theorem text_long (b n k : Nat) (s : ByteArray) (w : World) (hs : s.size ≤ 9223372036854775807) (hr : rv 0 s.data.toList = some (n, k)) (hle : s.size - k < n) (h : Rd w b s 0) :
    Calls Tryz.prog 12 #[.pointer (some ⟨b, 0, none⟩)] w fun e w' => ∃ (R : ByteArray) (x : Int), (x == 0) = false ∧ e = .returned (.string ⟨#[]⟩) ∧ Rd w' b R x ∧ Only (· = b) w w' := by
  have hlen : s.data.toList.length = s.size := by simp
  have hk := (rv_size _ _ hr).2
  rw [hlen] at hk
  have h0 : w.cell? ⟨b, 0, none⟩ = some (.string s) := h.cell 0
  have h1 : w.cell? ⟨b, 1, none⟩ = some (.int .i64 0) := h.cell 1
  obtain ⟨s1, hs1⟩ : ∃ s1, s1 = s.extract k s.size := ⟨_, rfl⟩
  have hz1 : s1.size = s.size - k := by rw [hs1]; simp [ByteArray.size_extract]
  have hP := h.put 0 (.string s1)
  have c0 : (w.setCell ⟨b, 0, none⟩ (.string s1)).cell? ⟨b, 0, none⟩ = some (.string s1) := hP.cell 0
  have c1 : (w.setCell ⟨b, 0, none⟩ (.string s1)).cell? ⟨b, 1, none⟩ = some (.int .i64 0) := hP.cell 1
  have g1 := hP.free 1
  have t1 : (s1.size : Int) < (n : Int) := by omega
  have hmax : s1.size ≤ 9223372036854775807 := by omega
  have HP : Hid (At (w.setCell ⟨b, 0, none⟩ (.string s1)) b 70 ((#[.string s, .int .i64 0] : Array Value).setIfInBounds 0 (.string s1))) := hP
  have V : Calls Tryz.prog 31 #[.pointer (some ⟨b, 0, none⟩)] w fun e w' => e = .returned (.int .u64 n) ∧ w' = w.setCell ⟨b, 0, none⟩ (.string s1) := by
    rw [hs1]; exact varint_some b n k s w hk hr h0 h1 (h.free 0)
  have HV : Aside (Calls Tryz.prog 31 #[.pointer (some ⟨b, 0, none⟩)] w fun e w' => e = .returned (.int .u64 n) ∧ w' = w.setCell ⟨b, 0, none⟩ (.string s1)) := V
  clear hs1 hr hP V h0 h1 hz1
  go_enter Tryz.func12, Tryz.ntmps12
  go_wp2_with (first | (go_at_call 31; refine Calls.mono HV.out ?_; rintro e w' ⟨rfl, rfl⟩) | (go_at_call 32; refine (fault_ok b _ _ c1 g1).mono ?_; rintro e w' ⟨rfl, rfl⟩))
  go_ret
  exact ⟨s1, 20, by decide, rfl, HP.out.put 1 _, ((Only.refl (· = b) w).set (p := ⟨b, 0, none⟩) (fun _ => rfl) _).set (p := ⟨b, 1, none⟩) (fun _ => rfl) _⟩

theorem text_none (b : Nat) (s : ByteArray) (w : World) (hs : s.size ≤ 9223372036854775807) (ht : txt s.data.toList = none) (h : Rd w b s 0) :
    Calls Tryz.prog 12 #[.pointer (some ⟨b, 0, none⟩)] w fun e w' => ∃ (R : ByteArray) (x : Int), (x == 0) = false ∧ e = .returned (.string ⟨#[]⟩) ∧ Rd w' b R x ∧ Only (· = b) w w' := by
  unfold txt at ht
  cases e : rv 0 s.data.toList with
  | none => exact text_bad b s w e h
  | some p =>
    obtain ⟨n, k⟩ := p
    rw [e] at ht
    simp only at ht
    split at ht
    · rename_i hh
      exact text_long b n k s w hs e (by simpa using hh) h
    · cases ht

set_option maxRecDepth 100000 in
theorem varint_err (b : Nat) (x : Int) (w : World) (hx : (x == 0) = false) (h1 : w.cell? ⟨b, 1, none⟩ = some (.int .i64 x)) :
    Calls Tryz.prog 31 #[.pointer (some ⟨b, 0, none⟩)] w fun e w' => e = .returned (.int .u64 0) ∧ w = w' := by
  go_enter Tryz.func31, Tryz.ntmps31
  go_wp2
  go_ret
  exact ⟨rfl, rfl⟩
set_option maxRecDepth 100000 in
theorem text_err (b : Nat) (x : Int) (w : World) (hx : (x == 0) = false) (h1 : w.cell? ⟨b, 1, none⟩ = some (.int .i64 x)) :
    Calls Tryz.prog 12 #[.pointer (some ⟨b, 0, none⟩)] w fun e w' => e = .returned (.string ⟨#[]⟩) ∧ w = w' := by
  go_enter Tryz.func12, Tryz.ntmps12
  go_wp2_with (go_at_call 31; refine (varint_err b x _ hx h1).mono ?_; rintro e w' ⟨rfl, rfl⟩)
  go_ret
  exact ⟨rfl, rfl⟩
end Go.Proofs.YtpmildboffolkaaGreat
