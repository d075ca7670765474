/-
  The function Varint of the reference returns the groups of every number.
-/
import Derived.Test.YtpmildboffolkaaGreatRecord
set_option linter.unusedVariables false
set_option linter.unusedSimpArgs false
namespace Go.Proofs.YtpmildboffolkaaGreat
open Go.RowKit Go.Proofs.YtpmildboffolkaaGreat.VRec

set_option maxRecDepth 100000 in
theorem row_string {w : World} {B n : Nat} {ao : Option Addr} {cv : Nat} {bs : Bs} (h : w.ownsRow B 5 1 (.slice ao n cv) n (cb bs)) (hn : n = bs.length) :
    (convert 111 9 (.slice ao n cv)).run Tryz.prog w = .ok (.string ⟨bs.toArray⟩) w := by
  subst hn
  rcases h.2 with ⟨e1, e2⟩ | ⟨g, cap, cur, e1, _⟩
  · rw [e1]
    have e3 : bs = [] := List.eq_nil_of_length_eq_zero e2
    subst e3
    exact nilString w
  · injection e1 with e3 e4 e5
    subst e3
    refine run_convert_bytes_back w 111 9 5 _ cv bs Tryz.underlying111 Tryz.underlying5 Tryz.underlying9 ?_
    intro j hj
    exact h.cells (g := g) rfl j _ (cb_at hj)

theorem ofNat_small {k : Nat} (h : k < 256) : ((UInt8.ofNat k).toNat : Int) = k := by
  rw [UInt8.toNat_ofNat', Nat.mod_eq_of_lt h]

set_option maxHeartbeats 2000000 in
set_option maxRecDepth 100000 in
theorem varintr_ok (n : Nat) (w : World) (hn : n < 18446744073709551616) :
    Calls Tryz.prog 74 #[.int .u64 n] w fun e w' => e = .returned (.string ⟨(venc n).toArray⟩) ∧ Below w.heap.size w w' := by
  obtain ⟨i0, hi, hz0, hz1, hz2⟩ := info_parts info5
  go_enter Tryz.func74, Tryz.ntmps74
  go_wp2_with fail
  go_loopg [0, 3] n (fun g s0 s3 wx => ∃ (bs : Bs) (ao : Option Addr) (cv N : Nat), s0 = .int .u64 g ∧ s3 = .slice ao N cv ∧ N < 10 ∧ g ≤ n ∧ Hid (VR w.heap.size n w wx g N bs (.slice ao N cv)))
  case atStart => exact ⟨[], none, 0, 0, rfl, rfl, by decide, Nat.le_refl _, World.ownsRow_nil _ _ _ _, rfl, Below.refl _ _, rfl, Nat.le_refl _⟩
  case round =>
    obtain ⟨bs, ao, cv, N, rfl, rfl, hN, hgn, HR⟩ := hrel
    by_cases hk : gk < 128
    · have k1 : ¬ (128 : Int) ≤ (gk : Int) := by omega
      have HK : Aside (venc gk = [UInt8.ofNat gk]) := venc_small hk
      have HC : Aside ((gk : Int) = ((UInt8.ofNat gk).toNat : Int)) := (ofNat_small (by omega)).symm
      go_wp2_with (first
        | (at_builtin; refine wpList_append_own _ rfl (.tmp 15) (.tmp 18) 111 rfl w.heap.size 5 i0 _ 1 1 Tryz.underlying111 hi hz0 hz1 hz2 rfl (by decide) _ N (cb bs) rfl (HR.out.own.alloc _) ⟨wr.heap.size, 0, none⟩ 1 1 [.int .u8 _] rfl rfl (cell_one_new _ _ _) (by intro u hu; simp at hu; subst hu; rfl) (by unfold maxLen; omega) (by omega) (by have := HR.out.le; simp; omega) ?_; go_loud (intro v3 w3 hown3 hgrow3 hnil3; rw [HC.out] at hown3; obtain ⟨ao3, cv3, e3, -⟩ := own_slice hown3; subst e3; have HN3 := HR.out.next (c := UInt8.ofNat gk) _ hown3 hgrow3; clear hown3 hgrow3 hnil3; have hcv := row_string HN3.1 HN3.2.1; have HN : Hid _ := HN3; clear HN3)))
      go_ret
      have e := HR.out.eq
      rw [HK.out] at e
      rw [e] at HN ⊢
      exact ⟨rfl, HN.out.2.2.1⟩
    · have k1 : (128 : Int) ≤ (gk : Int) := by omega
      have HK : Aside (UInt8.ofNat (gk % 128 + 128) :: venc (gk / 128) = venc gk) := (venc_big hk).symm
      have HC : Aside (((gk % 128 + 128 : Nat) : Int) = ((UInt8.ofNat (gk % 128 + 128)).toNat : Int)) := (ofNat_small (by omega)).symm
      go_wp2_with (at_builtin; refine wpList_append_own _ rfl (.tmp 6) (.tmp 11) 111 rfl w.heap.size 5 i0 _ 1 1 Tryz.underlying111 hi hz0 hz1 hz2 rfl (by decide) _ N (cb bs) rfl (HR.out.own.alloc _) ⟨wr.heap.size, 0, none⟩ 1 1 [.int .u8 _] rfl rfl (cell_one_new _ _ _) (by intro u hu; simp at hu; subst hu; rfl) (by unfold maxLen; omega) (by omega) (by have := HR.out.le; simp; omega) ?_; go_loud (intro v3 w3 hown3 hgrow3 hnil3; rw [show ((gk : Int) % 128 + 128) = ((gk % 128 + 128 : Nat) : Int) by omega, HC.out] at hown3; obtain ⟨ao3, cv3, e3, -⟩ := own_slice hown3; subst e3; have HN3 := HR.out.next (c := UInt8.ofNat (gk % 128 + 128)) _ hown3 hgrow3; clear hown3 hgrow3 hnil3; have HN : Hid _ := HN3; clear HN3))
      go_roundg (gk / 128)
      case measure => omega
      case rel =>
        have e := HR.out.eq
        rw [← HK.out] at e
        have h : VR w.heap.size n w _ (gk / 128) (N + 1) _ _ := ⟨HN.out.1, HN.out.2.1, HN.out.2.2.1, by rw [List.append_assoc]; exact e, HN.out.2.2.2⟩
        exact ⟨_, ao3, cv3, N + 1, by go_num, rfl, h.len hn, by omega, h⟩
end Go.Proofs.YtpmildboffolkaaGreat
