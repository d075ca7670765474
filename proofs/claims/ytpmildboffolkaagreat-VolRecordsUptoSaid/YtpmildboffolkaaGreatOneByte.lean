/-
  The functions number and U8 of codec's writer write one byte, as long as there is room.
-/
import Derived.Test.YtpmildboffolkaaGreatWriter
set_option linter.unusedVariables false
set_option linter.unusedSimpArgs false
namespace Go.Proofs.YtpmildboffolkaaGreat
open Go.RowKit Go.Proofs.YtpmildboffolkaaGreat.VRec

theorem mk1 (w : World) : (Instr.makeSlice 111 (.int .i64 1) (.int .i64 1)).run Tryz.prog w = .ok (.slice (some ⟨w.heap.size, 0, none⟩) 1 1) (w.alloc (.cells #[.int .u8 0] 5)) := by kernel_rfl

set_option maxHeartbeats 2000000 in
set_option maxRecDepth 100000 in
theorem number_ok (wb B m : Nat) (v : Value) (bs : Bs) (c : UInt8) (w : World) (h : WrT w wb B m v bs) (hm : bs.length + 1 ≤ m) (hM : m ≤ 70368744177664) :
    Calls Tryz.prog 71 #[.pointer (some ⟨wb, 0, none⟩), .int .u8 (c.toNat : Nat), .int .i64 1] w (Wrote wb B m v w (bs ++ [c])) := by
  have hc256 : c.toNat < 256 := c.toNat_lt
  have hA := At.new w 5 #[.int .u8 0]
  obtain ⟨W1, hW1⟩ : ∃ W1, W1 = w.alloc (.cells #[.int .u8 (c.toNat : Nat)] 5) := ⟨_, rfl⟩
  have hA1 : At W1 w.heap.size 5 #[.int .u8 (c.toNat : Nat)] := by rw [hW1]; exact At.new _ _ _
  have o1 : Only (fun _ => False) w W1 := by
    rw [hW1]
    exact (Only.refl _ w).alloc _
  have P := put_ok wb B m v bs [c] ⟨w.heap.size, 0, none⟩ 1 W1 (h.only o1 id (fun _ _ => id)) hm hM (by
    intro j u hj
    match j, hj with
    | 0, hj => simp [cb] at hj; subst hj; exact hA1.cell 0
    | (j + 1), hj => simp [cb] at hj)
  have HP : Aside (Calls Tryz.prog 72 #[.pointer (some ⟨wb, 0, none⟩), .slice (some ⟨w.heap.size, 0, none⟩) 1 1] W1 (Wrote wb B m v W1 (bs ++ [c]))) := P
  have HO : Aside (Only (fun _ => False) w W1) := o1
  have HW1 : Hid (W1 = w.alloc (.cells #[.int .u8 (c.toNat : Nat)] 5)) := hW1
  have hmk := mk1 w
  clear P o1 hW1 h hA1 hA
  go_enter Tryz.func71, Tryz.ntmps71
  go_wp2_with fail
  clear hmk
  go_loopg [1, 12] 1 (fun g s1 s12 wx => (g = 1 ∧ w.alloc (.cells #[.int .u8 0] 5) = wx ∧ s1 = .int .u8 (c.toNat : Nat) ∧ s12 = .int .i64 0) ∨ (g = 0 ∧ W1 = wx ∧ s12 = .int .i64 1))
  case atStart => exact Or.inl ⟨rfl, rfl, rfl, rfl⟩
  case round =>
    obtain ⟨rfl, rfl, rfl, rfl⟩ | ⟨rfl, rfl, rfl⟩ := hrel
    · go_wp2
      go_roundg 0
      case measure => omega
      case rel => exact Or.inr ⟨rfl, HW1.out, rfl⟩
    · go_wp2_with (go_at_call 72; refine Calls.mono HP.out ?_; rintro e w' ⟨rfl, h1⟩; have H1 : Hid (∃ v', WrT w' wb B m v' (bs ++ [c]) ∧ Only (Turns wb v) W1 w') := h1; clear h1)
      go_end0
      obtain ⟨v', h1, h2⟩ := H1.out
      exact ⟨rfl, v', h1, (HO.out.mono (fun _ _ h => h.elim)).trans h2⟩

set_option maxRecDepth 100000 in
theorem u8w_ok (wb B m : Nat) (v : Value) (bs : Bs) (c : UInt8) (w : World) (h : WrT w wb B m v bs) (hm : bs.length + 1 ≤ m) (hM : m ≤ 70368744177664) :
    Calls Tryz.prog 26 #[.pointer (some ⟨wb, 0, none⟩), .int .u8 (c.toNat : Nat)] w (Wrote wb B m v w (bs ++ [c])) := by
  have HN : Aside (Calls Tryz.prog 71 #[.pointer (some ⟨wb, 0, none⟩), .int .u8 (c.toNat : Nat), .int .i64 1] w (Wrote wb B m v w (bs ++ [c]))) := number_ok wb B m v bs c w h hm hM
  clear h
  go_enter Tryz.func26, Tryz.ntmps26
  go_wp2_with (go_at_call 71; refine Calls.mono HN.out ?_; rintro e w' ⟨rfl, h1⟩; have H1 : Hid (∃ v', WrT w' wb B m v' (bs ++ [c]) ∧ Only (Turns wb v) w w') := h1; clear h1)
  go_end0
  exact ⟨rfl, H1.out⟩
end Go.Proofs.YtpmildboffolkaaGreat
