/-
  The function codec.varint returns the groups of every number.
-/
import Derived.Test.YtpmildboffolkaaGreatOneByte
set_option linter.unusedVariables false
set_option linter.unusedSimpArgs false
namespace Go.Proofs.YtpmildboffolkaaGreat
open Go.RowKit Go.Proofs.YtpmildboffolkaaGreat.VRec

/-- the loop of codec.varint -/
structure VR (B : Nat) (n : Nat) (w0 w : World) (k N : Nat) (bs : Bs) (v : Value) : Prop where
  own : w.ownsRow B 5 1 v N (cb bs)
  sz : N = bs.length
  low : Below B w0 w
  eq : bs ++ venc k = venc n
  le : B ≤ w.heap.size
theorem VR.len {B n k N : Nat} {w0 w : World} {bs : Bs} {v : Value} (h : VR B n w0 w k N bs v) (hn : n < 18446744073709551616) : N < 10 := by
  have h1 := congrArg List.length h.eq
  have h2 := venc_len hn
  have h3 := venc_pos k
  have h4 := h.sz
  rw [List.length_append] at h1
  omega
theorem VR.next {B n k N : Nat} {w0 w w1 : World} {bs : Bs} {v v1 : Value} {c : UInt8} (h : VR B n w0 w k N bs v) (o : Obj) (hown : w1.ownsRow B 5 1 v1 (N + 1) (cb bs ++ cb [c])) (hg : (w.alloc o).grownBy w1 v.ownBlock) :
    w1.ownsRow B 5 1 v1 (N + 1) (cb (bs ++ [c])) ∧ N + 1 = (bs ++ [c]).length ∧ Below B w0 w1 ∧ B ≤ w1.heap.size := by
  have hlt := h.le
  refine ⟨by rw [cb_append]; exact hown, by rw [List.length_append, ← h.sz]; rfl, ?_, ?_⟩
  · exact (h.low.trans ((Below.refl _ _).alloc hlt o)).grown hg (by simp; omega) (fun k hk => (own_lt h.own hk).2)
  · have := hg.size; simp at this; omega
theorem or80 (k : Nat) : bits .or .u8 ((k : Int) % 256) 128 = ((UInt8.ofNat (k % 128 + 128)).toNat : Int) := by
  show bits .or .u8 (((k % 256 : Nat)) : Int) 128 = _
  have h := u8_or_nat (k % 256) 128 (Nat.mod_lt _ (by decide)) (by decide)
  refine h.trans ?_
  congr 1
  have e : (UInt8.ofNat (k % 128 + 128)).toNat = k % 128 + 128 := by
    rw [UInt8.toNat_ofNat', Nat.mod_eq_of_lt (by have := Nat.mod_lt k (show 0 < 128 by decide); omega)]
  rw [e]
  have h2 : k % 256 % 128 = k % 128 := by omega
  rcases Nat.lt_or_ge (k % 256) 128 with hl | hl
  · rw [Nat.mod_eq_of_lt hl] at h2
    have := Nat.two_pow_add_eq_or_of_lt (i := 7) (b := k % 256) hl 1
    rw [Nat.or_comm]
    rw [← h2]
    simpa [Nat.add_comm] using this.symm
  · obtain ⟨x, hx⟩ : ∃ x, k % 256 = 128 + x := ⟨k % 256 - 128, by omega⟩
    have hx2 : x < 128 := by omega
    have := Nat.two_pow_add_eq_or_of_lt (i := 7) (b := x) hx2 1
    have e2 : k % 128 = x := by omega
    rw [hx, e2]
    have e3 : 128 + x = 128 ||| x := by simpa using this
    rw [e3, Nat.or_comm 128 x, Nat.or_assoc]
    simp
    rw [Nat.or_comm, ← e3, Nat.add_comm]

set_option maxHeartbeats 2000000 in
set_option maxRecDepth 100000 in
theorem varintw_ok (n : Nat) (w : World) (hn : n < 18446744073709551616) :
    Calls Tryz.prog 73 #[.int .u64 n] w fun e w' => ∃ ao cv, e = .returned (.slice ao (venc n).length cv) ∧ w'.ownsRow w.heap.size 5 1 (.slice ao (venc n).length cv) (venc n).length (cb (venc n)) ∧ Below w.heap.size w w' := by
  obtain ⟨i0, hi, hz0, hz1, hz2⟩ := info_parts info5
  go_enter Tryz.func73, Tryz.ntmps73
  go_wp2_with fail
  go_loopg [0, 3] n (fun g s0 s3 wx => ∃ (bs : Bs) (ao : Option Addr) (cv N : Nat), s0 = .int .u64 g ∧ s3 = .slice ao N cv ∧ N < 10 ∧ g ≤ n ∧ Hid (VR w.heap.size n w wx g N bs (.slice ao N cv)))
  case atStart => exact ⟨[], none, 0, 0, rfl, rfl, by decide, Nat.le_refl _, World.ownsRow_nil _ _ _ _, rfl, Below.refl _ _, rfl, Nat.le_refl _⟩
  case round =>
    obtain ⟨bs, ao, cv, N, rfl, rfl, hN, hgn, HR⟩ := hrel
    by_cases hk : gk < 128
    · have k1 : ¬ (128 : Int) ≤ (gk : Int) := by omega
      have HK : Aside (venc gk = [UInt8.ofNat gk]) := venc_small hk
      have HC : Aside ((gk : Int) = ((UInt8.ofNat gk).toNat : Int)) := by
        show (gk : Int) = _
        rw [UInt8.toNat_ofNat', Nat.mod_eq_of_lt (by omega)]
      go_wp2_with (at_builtin; refine wpList_append_own _ rfl (.tmp 14) (.tmp 17) 111 rfl w.heap.size 5 i0 _ 1 1 Tryz.underlying111 hi hz0 hz1 hz2 rfl (by decide) _ N (cb bs) rfl (HR.out.own.alloc _) ⟨wr.heap.size, 0, none⟩ 1 1 [.int .u8 _] rfl rfl (cell_one_new _ _ _) (by intro u hu; simp at hu; subst hu; rfl) (by unfold maxLen; omega) (by omega) (by have := HR.out.le; simp; omega) ?_; go_loud (intro v3 w3 hown3 hgrow3 hnil3; rw [HC.out] at hown3; obtain ⟨ao3, cv3, e3, -⟩ := own_slice hown3; subst e3; have HN3 := HR.out.next (c := UInt8.ofNat gk) _ hown3 hgrow3; clear hown3 hgrow3 hnil3; have HN : Hid _ := HN3; clear HN3))
      go_ret
      have e := HR.out.eq
      rw [HK.out] at e
      rw [e] at HN
      rw [← HN.out.2.1]
      exact ⟨ao3, cv3, rfl, HN.out.1, HN.out.2.2.1⟩
    · have k1 : (128 : Int) ≤ (gk : Int) := by omega
      have HK : Aside (UInt8.ofNat (gk % 128 + 128) :: venc (gk / 128) = venc gk) := (venc_big hk).symm
      go_wp2_with (at_builtin; refine wpList_append_own _ rfl (.tmp 6) (.tmp 10) 111 rfl w.heap.size 5 i0 _ 1 1 Tryz.underlying111 hi hz0 hz1 hz2 rfl (by decide) _ N (cb bs) rfl (HR.out.own.alloc _) ⟨wr.heap.size, 0, none⟩ 1 1 [.int .u8 _] rfl rfl (cell_one_new _ _ _) (by intro u hu; simp at hu; subst hu; rfl) (by unfold maxLen; omega) (by omega) (by have := HR.out.le; simp; omega) ?_; go_loud (intro v3 w3 hown3 hgrow3 hnil3; rw [or80] at hown3; obtain ⟨ao3, cv3, e3, -⟩ := own_slice hown3; subst e3; have HN3 := HR.out.next (c := UInt8.ofNat (gk % 128 + 128)) _ hown3 hgrow3; clear hown3 hgrow3 hnil3; have HN : Hid _ := HN3; clear HN3))
      go_roundg (gk / 128)
      case measure => omega
      case rel =>
        have e := HR.out.eq
        rw [← HK.out] at e
        have h : VR w.heap.size n w _ (gk / 128) (N + 1) _ _ := ⟨HN.out.1, HN.out.2.1, HN.out.2.2.1, by rw [List.append_assoc]; exact e, HN.out.2.2.2⟩
        exact ⟨_, ao3, cv3, N + 1, by go_num, rfl, h.len hn, by omega, h⟩
end Go.Proofs.YtpmildboffolkaaGreat
