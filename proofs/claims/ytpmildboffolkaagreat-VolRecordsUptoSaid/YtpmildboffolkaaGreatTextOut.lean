/-
  The functions Text and Done of codec's writer write a text, and return what is written, as long as there is room.
-/
import Derived.Test.YtpmildboffolkaaGreatVarint
set_option linter.unusedVariables false
set_option linter.unusedSimpArgs false
namespace Go.Proofs.YtpmildboffolkaaGreat
open Go.RowKit Go.Proofs.YtpmildboffolkaaGreat.VRec

theorem own_some {w : World} {B n : Nat} {ao : Option Addr} {cv : Nat} {xs : List Value} (h : w.ownsRow B 5 1 (.slice ao n cv) n xs) (hn : 0 < n) : ∃ g, ao = some ⟨g, 0, none⟩ ∧ ∀ j u, xs[j]? = some u → w.cell? ((⟨g, 0, none⟩ : Addr).add j) = some u := by
  obtain ⟨ao', cv', e1, e2⟩ := own_slice h
  injection e1 with e3 e4 e5
  subst e3
  obtain ⟨g, e, -⟩ := e2 hn
  subst e
  exact ⟨g, rfl, h.cells (g := g) rfl⟩

set_option maxHeartbeats 2000000 in
set_option maxRecDepth 100000 in
theorem textw_ok (wb B m : Nat) (v : Value) (bs : Bs) (s : ByteArray) (w : World) (h : WrT w wb B m v bs) (hm : bs.length + (text s.data.toList).length ≤ m) (hM : m ≤ 70368744177664) :
    Calls Tryz.prog 27 #[.pointer (some ⟨wb, 0, none⟩), .string s] w (Wrote wb B m v w (bs ++ text s.data.toList)) := by
  obtain ⟨i0, hi, hz0, hz1, hz2⟩ := info_parts info5
  have hl : (text s.data.toList).length = (venc s.size).length + s.size := by unfold text; simp
  have hs : s.size ≤ 70368744177664 := by omega
  have hV := venc_len (n := s.size) (by omega)
  have hP := venc_pos s.size
  obtain ⟨K, hK⟩ : ∃ K, K = (venc s.size).length := ⟨_, rfl⟩
  have C := varintw_ok s.size w (by omega)
  rw [← hK] at C hV hP
  have HC : Aside (Calls Tryz.prog 73 #[.int .u64 s.size] w fun e w' => ∃ ao cv, e = .returned (.slice ao K cv) ∧ w'.ownsRow w.heap.size 5 1 (.slice ao K cv) K (cb (venc s.size)) ∧ Below w.heap.size w w') := C
  have HT : Aside (∀ ao cv w3, w3.ownsRow w.heap.size 5 1 (.slice ao (K + s.size) cv) (K + s.size) (cb (venc s.size) ++ Lib.strCells s) → Below w.heap.size w w3 → Calls Tryz.prog 72 #[.pointer (some ⟨wb, 0, none⟩), .slice ao (K + s.size) cv] w3 (Wrote wb B m v w (bs ++ text s.data.toList))) := by
    intro ao cv w3 ho hb
    obtain ⟨g, rfl, hcells⟩ := own_some ho (by omega)
    have o1 : Only (fun _ => False) w w3 := Only.of_below hb (Nat.le_refl _)
    have P := put_ok wb B m v bs (text s.data.toList) ⟨g, 0, none⟩ cv w3 (h.only o1 id (fun _ _ => id)) hm hM (fun j u hj => hcells j u (by
      rw [cb_str, ← cb_append, show venc s.size = venc s.data.toList.length by simp]
      exact hj))
    rw [hl, ← hK] at P
    refine P.mono ?_
    rintro e w' ⟨he, v', h1, h2⟩
    exact ⟨he, v', h1, (o1.mono (fun _ _ h => h.elim)).trans h2⟩
  clear C hK hm hl h
  go_enter Tryz.func27, Tryz.ntmps27
  go_wp2_with (first
    | (go_at_call 73; refine Calls.mono HC.out ?_; rintro e w1 ⟨ao, cv, rfl, h1, h2⟩; have H1 : Hid (w1.ownsRow w.heap.size 5 1 (.slice ao K cv) K (cb (venc s.size))) := h1; have H2 : Hid (Below w.heap.size w w1) := h2; clear h1 h2)
    | (at_builtin; refine Lib.wpList_append_own_string _ rfl (.tmp 8) (.tmp 9) 111 9 rfl w.heap.size 5 i0 Tryz.underlying111 Tryz.underlying9 hi hz0 hz1 hz2 _ K (cb (venc s.size)) rfl H1.out s rfl (by unfold maxLen; omega) (by omega) H2.out.size ?_; go_loud (intro v3 w3 hown3 hgrow3 hnil3; obtain ⟨ao3, cv3, e3, -⟩ := own_slice hown3; subst e3; have HB3 : Hid (Below w.heap.size w w3) := H2.out.grown hgrow3 H2.out.size (fun k hk => (own_lt H1.out hk).2); have HO3 : Hid (w3.ownsRow w.heap.size 5 1 (.slice ao3 (K + s.size) cv3) (K + s.size) (cb (venc s.size) ++ Lib.strCells s)) := hown3; clear hown3 hgrow3 hnil3))
    | (go_at_call 72; refine Calls.mono (HT.out _ _ _ HO3.out HB3.out) ?_; rintro e w' ⟨rfl, h1⟩; have H4 : Hid (∃ v', WrT w' wb B m v' (bs ++ text s.data.toList) ∧ Only (Turns wb v) w w') := h1; clear h1))
  go_end0
  exact ⟨rfl, H4.out⟩

theorem nilString (w : World) : (convert 111 9 (.slice none 0 0)).run Tryz.prog w = .ok (.string ⟨#[]⟩) w := by kernel_rfl

set_option maxHeartbeats 2000000 in
set_option maxRecDepth 100000 in
theorem done_ok (wb B m : Nat) (v : Value) (bs : Bs) (w : World) (h : WrT w wb B m v bs) :
    Calls Tryz.prog 28 #[.pointer (some ⟨wb, 0, none⟩)] w fun e w' => e = .returned (.tuple #[.string ⟨bs.toArray⟩, .int .i64 0]) ∧ w = w' := by
  have hcv : ∃ ao cv, v = .slice ao bs.length cv ∧ (convert 111 9 (.slice ao bs.length cv)).run Tryz.prog w = .ok (.string ⟨bs.toArray⟩) w := by
    obtain ⟨ao, cv, e⟩ := h.len
    subst e
    refine ⟨ao, cv, rfl, ?_⟩
    rcases h.own.2 with ⟨e1, e2⟩ | ⟨g, cap, cur, e1, _⟩
    · rw [e1]
      have e3 : bs = [] := List.eq_nil_of_length_eq_zero e2
      subst e3
      exact nilString w
    · injection e1 with e3 e4 e5
      subst e3
      refine run_convert_bytes_back w 111 9 5 _ cv bs Tryz.underlying111 Tryz.underlying5 Tryz.underlying9 ?_
      intro j hj
      exact h.own.cells (g := g) rfl j _ (cb_at hj)
  obtain ⟨ao, cv, rfl, hcv⟩ := hcv
  have h1 := h.blk.cell 1
  have h2 := h.blk.cell 2
  clear h
  go_enter Tryz.func28, Tryz.ntmps28
  go_wp2
  go_ret2
  exact ⟨rfl, rfl⟩
end Go.Proofs.YtpmildboffolkaaGreat
