/-
  The functions read and U8 of codec's reader return what their theorems say.
-/
import Derived.Test.YtpmildboffolkaaGreatTexts
import Derived.Laws.IdiomStrings
set_option linter.unusedVariables false
set_option linter.unusedSimpArgs false
namespace Go.Proofs.YtpmildboffolkaaGreat
open Go.RowKit Go.Proofs.YtpmildboffolkaaGreat.VRec

set_option maxHeartbeats 1000000 in
set_option maxRecDepth 100000 in
theorem read_one (b : Nat) (s : ByteArray) (w : World) (hp : 0 < s.size) (hs : s.size ≤ 9223372036854775807) (h : Rd w b s 0) :
    Calls Tryz.prog 30 #[.pointer (some ⟨b, 0, none⟩), .int .i64 1] w fun e w' => e = .returned (.int .u64 (s[0].toNat : Nat)) ∧ Rd w' b (s.extract 1 s.size) 0 ∧ Only (· = b) w w' := by
  obtain ⟨t, ht⟩ : ∃ t, t = s.extract 0 1 := ⟨_, rfl⟩
  have htz : t.size = 1 := by rw [ht]; simp [ByteArray.size_extract]; omega
  have ht0 : t.data[0]'(by have : t.data.size = 1 := htz; omega) = s[0] := by
    subst ht
    simp
    rfl
  obtain ⟨c, hc⟩ : ∃ c : UInt8, c = s[0] := ⟨_, rfl⟩
  have hc256 : c.toNat < 256 := c.toNat_lt
  have R := raw_ok b 1 s w hs hp (h.cell 0) (h.cell 1) (h.free 0)
  rw [← ht] at R
  have HR : Aside (Calls Tryz.prog 33 #[.pointer (some ⟨b, 0, none⟩), .int .i64 (1 : Nat)] w fun e w' => e = .returned (.string t) ∧ w' = w.setCell ⟨b, 0, none⟩ (.string (s.extract 1 s.size))) := R
  have HP : Aside (At (w.setCell ⟨b, 0, none⟩ (.string (s.extract 1 s.size))) b 70 #[.string (s.extract 1 s.size), .int .i64 0]) := h.put 0 _
  obtain ⟨w1, hw1⟩ : ∃ w1, w1 = w.setCell ⟨b, 0, none⟩ (.string (s.extract 1 s.size)) := ⟨_, rfl⟩
  have HO : Aside (Only (· = b) w w1) := by rw [hw1]; exact (Only.refl (· = b) w).set (p := ⟨b, 0, none⟩) (fun _ => rfl) _
  rw [← hw1] at HR HP
  have hcv := fun w => run_bytes_of_string (P := Tryz.prog) w 9 111 5 t Tryz.underlying9 Tryz.underlying111 Tryz.underlying5
  rw [htz] at hcv
  obtain ⟨cap, hcap⟩ : ∃ cap, cap = grownCap w1 1 0 5 := ⟨_, rfl⟩
  obtain ⟨C, hC⟩ : ∃ C, C = bytesRow t cap := ⟨_, rfl⟩
  have hC0 : C[0]? = some (.int .u8 (c.toNat : Int)) := by
    rw [hC, bytesRow_at t cap 0 (by have : t.data.size = 1 := htz; omega), ht0, hc]
  have hcell : (w1.alloc (.cells C 5 (C.size, C.size + 1))).cell? ⟨w1.heap.size, 0, none⟩ = some (.int .u8 (c.toNat : Int)) := by
    rw [World.cell?_alloc_mark]; exact hC0
  have hcv1 := hcv w1
  rw [← hcap, ← hC] at hcv1
  rw [← hc]
  clear hcv hC hC0 hcap ht ht0 htz hw1 h hs hc
  go_enter Tryz.func30, Tryz.ntmps30
  go_wp2_with (go_at_call 33; refine Calls.mono HR.out ?_; rintro e w' ⟨rfl, rfl⟩)
  have hor : bits .or .u64 0 (c.toNat : Int) = (c.toNat : Int) := by
    have := u64_or_nat 0 c.toNat (by decide) (by omega)
    rw [Nat.zero_or] at this
    exact this
  obtain ⟨W, hW⟩ : ∃ W, W = (w'.alloc (Obj.cells C 5 (C.size, C.size + 1))).drew := ⟨_, rfl⟩
  have hcellW : W.cell? ⟨w'.heap.size, 0, none⟩ = some (.int .u8 (c.toNat : Int)) := by rw [hW]; exact hcell
  have HW : Aside (At W b 70 #[.string (s.extract 1 s.size), .int .i64 0] ∧ Only (· = b) w W) := by
    rw [hW]; exact ⟨HP.out.alloc _, (HO.out.alloc _).drew⟩
  rw [← hW]
  clear hW hcell hcv1 HP HO HR R
  go_loopg [5, 13] 1 (fun g s5 s13 wx => W = wx ∧ ((g = 1 ∧ s5 = .int .u64 0 ∧ s13 = .int .i64 0) ∨ (g = 0 ∧ s5 = .int .u64 (c.toNat : Nat) ∧ s13 = .int .i64 1)))
  case atStart => exact ⟨rfl, Or.inl ⟨rfl, rfl, rfl⟩⟩
  case round =>
    obtain ⟨rfl, ⟨rfl, rfl, rfl⟩ | ⟨rfl, rfl, rfl⟩⟩ := hrel
    · go_wp2
      go_roundg 0
      case measure => omega
      case rel => exact ⟨rfl, Or.inr ⟨rfl, rfl, rfl⟩⟩
    · go_wp2
      go_ret
      exact ⟨rfl, HW.out.1, HW.out.2⟩

set_option maxRecDepth 100000 in
theorem u8_ok (b : Nat) (s : ByteArray) (w : World) (hp : 0 < s.size) (hs : s.size ≤ 9223372036854775807) (h : Rd w b s 0) :
    Calls Tryz.prog 11 #[.pointer (some ⟨b, 0, none⟩)] w fun e w' => e = .returned (.int .u8 (s[0].toNat : Nat)) ∧ Rd w' b (s.extract 1 s.size) 0 ∧ Only (· = b) w w' := by
  have R := read_one b s w hp hs h
  obtain ⟨c, hc⟩ : ∃ c : UInt8, c = s[0] := ⟨_, rfl⟩
  have hc256 : c.toNat < 256 := c.toNat_lt
  rw [← hc] at R ⊢
  have HR : Aside (Calls Tryz.prog 30 #[.pointer (some ⟨b, 0, none⟩), .int .i64 1] w fun e w' => e = .returned (.int .u64 (c.toNat : Nat)) ∧ Rd w' b (s.extract 1 s.size) 0 ∧ Only (· = b) w w') := R
  clear R h hc
  go_enter Tryz.func11, Tryz.ntmps11
  go_wp2_with (go_at_call 30; refine Calls.mono HR.out ?_; rintro e w' ⟨rfl, h1, h2⟩; have H1 : Hid (Rd w' b (s.extract 1 s.size) 0) := h1; have H2 : Hid (Only (· = b) w w') := h2; clear h1 h2)
  go_ret
  exact ⟨by first | rfl | (congr 2; omega), H1.out, H2.out⟩
end Go.Proofs.YtpmildboffolkaaGreat
