/-
  The functions NewWriter and put of codec's writer return what their theorems say, as long as there is room.
-/
import Derived.Test.YtpmildboffolkaaGreatBytes1
import Derived.Test.YtpmildboffolkaaGreatWritten
import Derived.OwnWalk
import Derived.Deep.DeepFit
set_option linter.unusedVariables false
set_option linter.unusedSimpArgs false
namespace Go.Proofs.YtpmildboffolkaaGreat
open Go.RowKit Go.Proofs.YtpmildboffolkaaGreat.VRec

theorem info5 : (Tryz.prog.info? 5).map (fun i => (i.zero, i.size, i.bytes)) = some (some (.int .u8 0), 1, 1) := by kernel_rfl

abbrev WrT := Wr 133 5
/-- how a function ends that writes -/
def Wrote (wb B m : Nat) (v : Value) (w : World) (bs : Bs) (e : Ending) (w' : World) : Prop := e = .returned (.tuple #[]) ∧ ∃ v', WrT w' wb B m v' bs ∧ Only (Turns wb v) w w'

set_option maxRecDepth 100000 in
theorem newWriter_any (m : Nat) (w : World) :
    Calls Tryz.prog 25 #[.int .i64 m] w fun e w' => e = .returned (.pointer (some ⟨w.heap.size, 0, none⟩)) ∧ w' = w.alloc (.cells #[.int .i64 m, .slice none 0 0, .bool false] 133) := by
  go_enter Tryz.func25, Tryz.ntmps25
  go_wp2
  go_ret
  exact ⟨rfl, rfl⟩

set_option maxHeartbeats 2000000 in
set_option maxRecDepth 100000 in
theorem put_ok (wb B m : Nat) (v : Value) (bs cs : Bs) (ad : Addr) (cp : Nat) (w : World) (h : WrT w wb B m v bs) (hm : bs.length + cs.length ≤ m) (hM : m ≤ 70368744177664)
    (hc : ∀ j u, (cb cs)[j]? = some u → w.cell? (ad.add j) = some u) :
    Calls Tryz.prog 72 #[.pointer (some ⟨wb, 0, none⟩), .slice (some ad) cs.length cp] w (Wrote wb B m v w (bs ++ cs)) := by
  obtain ⟨i0, hi, hz0, hz1, hz2⟩ := info_parts info5
  obtain ⟨ao, cv, hv⟩ := h.len
  have h0 := h.blk.cell 0
  have h1 := h.blk.cell 1
  have h2 := h.blk.cell 2
  have f1 := h.blk.free 1
  have H : Aside (WrT w wb B m v bs) := h
  have HC : Aside (∀ j u, (cb cs)[j]? = some u → w.cell? (ad.add j) = some u) := hc
  clear h hc
  rw [hv] at h1
  obtain ⟨N, hN⟩ : ∃ N, N = bs.length := ⟨_, rfl⟩
  obtain ⟨K, hK⟩ : ∃ K, K = cs.length := ⟨_, rfl⟩
  rw [← hN] at h1 hm
  rw [← hK] at hm ⊢
  have t1 : IntKind.i64.wrap ((m : Int) - (N : Int)) = (m : Int) - (N : Int) := by rw [IntKind.wrap_i64]; omega
  have t2 : ¬ ((m : Int) - (N : Int) < (K : Int)) := by omega
  have HN : Hid (N = bs.length) := hN
  have HK : Hid (K = cs.length) := hK
  have HV : Hid (v = .slice ao bs.length cv) := hv
  clear hN hK hv
  go_enter Tryz.func72, Tryz.ntmps72
  go_wp2_with fail
  go_quiet (fail)
  have EV : Hid (v.ownBlock = (Value.slice ao N cv).ownBlock) := by rw [HV.out, ← HN.out]; rfl
  have OWN : Hid ((w.drewN nq).ownsRow B 5 1 (.slice ao N cv) N (cb bs)) := by
    have := (H.out.drewN nq).own
    rw [HV.out] at this
    rw [HN.out]; exact this
  have FIN : Aside (∀ v3 w3, w3.ownsRow B 5 1 v3 (N + K) (cb bs ++ cb cs) → (w.drewN nq).grownBy w3 (Value.slice ao N cv).ownBlock →
      (WrT (w3.setCell ⟨wb, 1, none⟩ v3) wb B m v3 (bs ++ cs) ∧ Only (Turns wb v) w (w3.setCell ⟨wb, 1, none⟩ v3)) ∧ w3.frozen? ⟨wb, 1, none⟩ = false ∧ ∃ c, w3.cell? ⟨wb, 1, none⟩ = some c) := by
    intro v3 w3 ho hg
    rw [← EV.out] at hg
    rw [HN.out, HK.out] at ho
    have h := (H.out.drewN nq).put (ad := []) ho hg rfl
    have hb := (H.out.drewN nq).blk.grown hg (fun e => own_ne H.out.own H.out.blk (by decide) e.symm)
    exact ⟨⟨h.1, ((Only.refl _ _).drewN nq).trans h.2⟩, hb.free 1, _, hb.cell 1⟩
  go_wp2_with (at_builtin; refine wpList_append_own _ rfl (.tmp 8) (.tmp 9) 111 rfl B 5 i0 _ 1 1 Tryz.underlying111 hi hz0 hz1 hz2 rfl (by decide) _ N (cb bs) rfl OWN.out ad K cp (cb cs) rfl (by rw [cb_len, HK.out, Nat.mul_one]) (fun j u hj => HC.out j u hj) (cb_one cs) (by unfold maxLen; omega) (by omega) H.out.base ?_; go_loud (intro v3 w3 hown3 hgrow3 hnil3; obtain ⟨ao3, cv3, e3, -⟩ := own_slice hown3; subst e3; obtain ⟨h3, f3, c3, hc3⟩ := FIN.out _ _ hown3 hgrow3; have HF : Hid (WrT (w3.setCell ⟨wb, 1, none⟩ (.slice ao3 (N + K) cv3)) wb B m (.slice ao3 (N + K) cv3) (bs ++ cs) ∧ Only (Turns wb v) w (w3.setCell ⟨wb, 1, none⟩ (.slice ao3 (N + K) cv3))) := h3; clear hown3 hgrow3 hnil3 h3))
  go_end0
  exact ⟨rfl, _, HF.out⟩
end Go.Proofs.YtpmildboffolkaaGreat
