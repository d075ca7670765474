/-
  The function Record of the reference returns the entries' bytes, as long as these are at most 2^46.
-/
import Derived.Test.YtpmildboffolkaaGreatRefEntries
import Derived.Deep.RegionHeld3
set_option linter.unusedVariables false
set_option linter.unusedSimpArgs false
namespace Go.Proofs.YtpmildboffolkaaGreat
open Go.RowKit Go.Proofs.YtpmildboffolkaaGreat.VRec

theorem below_cell {B : Nat} {w w' : World} {c o : Nat} {u : Value} (h : Below B w w') (hc : c < B) (hu : w.cell? ⟨c, o, none⟩ = some u) : w'.cell? ⟨c, o, none⟩ = some u :=
  (cell_same (h.block c hc)).trans hu
theorem drew_below (B : Nat) (w w1 : World) : Below B w w1.drew ↔ Below B w w1 := ⟨fun h => ⟨h.os, h.tape, h.output, h.size, h.block⟩, fun h => ⟨h.os, h.tape, h.output, h.size, h.block⟩⟩
theorem drewN_below (B n : Nat) (w w1 : World) : Below B w (w1.drewN n) ↔ Below B w w1 := ⟨fun h => ⟨h.os, h.tape, h.output, h.size, h.block⟩, fun h => ⟨h.os, h.tape, h.output, h.size, h.block⟩⟩

/-- the reference's Text, in the midst of a region: two cells below B stand -/
theorem textr_in {B c o1 o2 : Nat} {u1 u2 : Value} {w0 : World} (s E : ByteArray) (hE : E = ⟨(text s.data.toList).toArray⟩) (w : World) (hs : s.size ≤ 70368744177664) (hc : c < B) (h1 : w.cell? ⟨c, o1, none⟩ = some u1) (h2 : w.cell? ⟨c, o2, none⟩ = some u2) (hb : Below B w0 w) (hB : B ≤ w0.heap.size) :
    Calls Tryz.prog 29 #[.string s] w fun e w' => e = .returned (.string E) ∧ w'.cell? ⟨c, o1, none⟩ = some u1 ∧ w'.cell? ⟨c, o2, none⟩ = some u2 ∧ Below B w0 w' :=
  (textr_ok s w hs).mono fun e w' ⟨he, h⟩ => by
    have hbb := h.mono (Nat.le_trans hB hb.size)
    exact ⟨by rw [hE]; exact he, below_cell hbb hc h1, below_cell hbb hc h2, hb.trans hbb⟩
theorem data_text (s : ByteArray) : (ByteArray.mk (text s.data.toList).toArray).data.toList = text s.data.toList := rfl
theorem size_text (s : ByteArray) : (ByteArray.mk (text s.data.toList).toArray).size = (text s.data.toList).length := by
  show (text s.data.toList).toArray.size = _
  simp

attribute [local simp] drew_below drewN_below
set_option maxHeartbeats 4000000 in
set_option maxRecDepth 100000 in
theorem recordr_ok (w : World) (xs : List BE) (ao : Option Addr) (cv : Nat) (h : Lie w w.heap.size ao xs) (hs : sumOf (xs.map BE.ent) ≤ 70368744177664) :
    Calls Tryz.prog 8 #[.slice ao xs.length cv] w fun e w' => e = .returned (.string ⟨(recOf (xs.map BE.ent)).toArray⟩) ∧ Below w.heap.size w w' := by
  obtain ⟨n, hn⟩ : ∃ n, n = xs.length := ⟨_, rfl⟩
  obtain ⟨m, hm⟩ : ∃ m, m = sumOf (xs.map BE.ent) := ⟨_, rfl⟩
  rw [← hm] at hs
  have hnS : n ≤ 70368744177664 := by
    have : ∀ l : List Ent, l.length ≤ sumOf l := by
      intro l
      induction l with
      | nil => simp [sumOf]
      | cons a l ih => simp [sumOf, mostOf] at ih ⊢; omega
    have := this (xs.map BE.ent)
    rw [List.length_map] at this
    omega
  have HN : Hid (n = xs.length) := hn
  have HM : Hid (m = sumOf (xs.map BE.ent)) := hm
  have HL : Aside (Lie w w.heap.size ao xs) := h
  rw [← hn]
  clear hn h hm
  go_enter Tryz.func8, Tryz.ntmps8
  go_wp2_with fail
  go_loopg [3, 4] n (fun g s3 s4 wx => ∃ (i : Nat) (C : ByteArray), i + g = n ∧ s3 = .string C ∧ s4 = .int .i64 i ∧ Hid (C.data.toList = recOf ((xs.take i).map BE.ent) ∧ Below w.heap.size w wx))
  case atStart => exact ⟨0, ⟨#[]⟩, by omega, rfl, rfl, rfl, Below.refl _ _⟩
  case round =>
    obtain ⟨i, C, hig, rfl, rfl, HR⟩ := hrel
    by_cases hi : i < n
    · have hiz : (i : Int) < (n : Int) := by omega
      obtain ⟨⟨k0, v0, g0⟩, hx⟩ : ∃ x : BE, xs[i]? = some x := ⟨xs[i]'(by rw [← HN.out]; exact hi), List.getElem?_eq_getElem _⟩
      obtain ⟨c, off, rfl, hcB, hce⟩ := HL.out.at' (by rw [← HN.out]; omega)
      obtain ⟨x1, x2, x3⟩ := ((HL.out.below HR.out.2).at' (by rw [← HN.out]; omega)).elim (fun c' h => by
        obtain ⟨off', e, _, h2⟩ := h
        simp at e
        obtain ⟨rfl, rfl⟩ := e
        exact h2 i _ hx)
      have HX : Hid (xs[i]? = some ⟨k0, v0, g0⟩) := hx
      have HQ : Hid (C.size + (oneOf (BE.mk k0 v0 g0).ent).length ≤ m) := by
        show _ ≤ m
        have := rec_room hx (by rw [← HM.out]; exact hs)
        rw [← HR.out.1] at this
        rw [HM.out]; simpa using this
      have hk0 : k0.size ≤ 70368744177664 := by
        have := size_le_sum hx
        rw [← HM.out] at this
        have : k0.size + v0.size + 21 ≤ m := this
        omega
      have hv0 : v0.size ≤ 70368744177664 := by
        have := size_le_sum hx
        rw [← HM.out] at this
        have : k0.size + v0.size + 21 ≤ m := this
        omega
      have hCs : C.size ≤ 70368744177664 := by have := HQ.out; omega
      clear hce hx
      have HE : Hid (recOf ((xs.take (i + 1)).map BE.ent) = recOf ((xs.take i).map BE.ent) ++ oneOf (BE.mk k0 v0 g0).ent) := rec_step HX.out
      obtain ⟨KE, hKE⟩ : ∃ KE : ByteArray, KE = ⟨(text k0.data.toList).toArray⟩ := ⟨_, rfl⟩
      obtain ⟨VE, hVE⟩ : ∃ VE : ByteArray, VE = ⟨(text v0.data.toList).toArray⟩ := ⟨_, rfl⟩
      have HKE : Hid (KE = ⟨(text k0.data.toList).toArray⟩) := hKE
      have HVE : Hid (VE = ⟨(text v0.data.toList).toArray⟩) := hVE
      have hKs : KE.size = (text k0.data.toList).length := by rw [hKE]; exact size_text k0
      have hVs : VE.size = (text v0.data.toList).length := by rw [hVE]; exact size_text v0
      have hB : Below w.heap.size w wr := HR.out.2
      cases g0 with
      | true =>
        have hq : C.size + (1 + KE.size) ≤ m := by
          have h := HQ.out
          have e : oneOf (BE.mk k0 v0 true).ent = 2 :: text k0.data.toList := rfl
          rw [e, List.length_cons] at h
          omega
        clear hKE hVE hKs hVs
        go_wp2_with fail
        refine (textr_in k0 KE HKE.out wr hk0 hcB x1 x2 hB (Nat.le_refl _)).mono ?_
        rintro e w' ⟨rfl, y1, y2, hb2⟩
        have HB2 : Hid (Below w.heap.size w w') := hb2
        clear hb2
        go_wp2_with fail
        go_roundg (n - (i + 1))
        case measure => omega
        case rel =>
          refine ⟨i + 1, _, by omega, rfl, by go_num, ?_, HB2.out⟩
          rw [HE.out, ByteArray.data_append, ByteArray.data_append, HKE.out]
          simp [oneOf, BE.ent]
          rw [← List.map_take]; exact HR.out.1
      | false =>
        have hq : C.size + (1 + KE.size + VE.size) ≤ m := by
          have h := HQ.out
          have e : oneOf (BE.mk k0 v0 false).ent = 1 :: (text k0.data.toList ++ text v0.data.toList) := rfl
          rw [e, List.length_cons, List.length_append] at h
          omega
        clear hKE hVE hKs hVs
        have hz1 : (ByteArray.mk #[1]).size = 1 := rfl
        have a1 : ¬ 9223372036854775807 < C.size + 1 := by omega
        have a2 : ¬ 9223372036854775807 < C.size + 1 + KE.size := by omega
        have a3 : ¬ 9223372036854775807 < C.size + 1 + KE.size + VE.size := by omega
        go_wp2_with fail
        go_region_held3 (fun w' => w'.cell? ⟨c, off + i * 3, none⟩ = some (.string k0) ∧ w'.cell? ⟨c, off + i * 3 + 1, none⟩ = some (.string v0) ∧ Below w.heap.size w w') (go_keep)
          (first
            | (go_at_call_of 29 (Value.string k0); refine (textr_in (B := w.heap.size) (c := c) (o1 := off + i * 3) (o2 := off + i * 3 + 1) (u1 := .string k0) (u2 := .string v0) (w0 := w) k0 KE HKE.out _ hk0 hcB ?_ ?_ ?_ (Nat.le_refl _)).mono ?_; (simp [*]); (simp [*]); (simp [*]); rintro e w' ⟨rfl, y1, y2, hb2⟩)
            | (go_at_call_of 29 (Value.string v0); refine (textr_in (B := w.heap.size) (c := c) (o1 := off + i * 3) (o2 := off + i * 3 + 1) (u1 := .string k0) (u2 := .string v0) (w0 := w) v0 VE HVE.out _ hv0 hcB ?_ ?_ ?_ (Nat.le_refl _)).mono ?_; (simp [*]); (simp [*]); (simp [*]); rintro e w' ⟨rfl, y1, y2, hb2⟩))
        go_wp2_with fail
        go_roundg (n - (i + 1))
        case measure => omega
        case rel =>
          refine ⟨i + 1, _, by omega, rfl, by go_num, ?_, by assumption⟩
          rw [HE.out, ByteArray.data_append, ByteArray.data_append, ByteArray.data_append, HKE.out, HVE.out]
          simp [oneOf, BE.ent]
          rw [← List.map_take]; exact HR.out.1
    · have hiz : ¬ (i : Int) < (n : Int) := by omega
      have hin : i = n := by omega
      go_wp2_with fail
      go_ret
      refine ⟨?_, HR.out.2⟩
      have h := HR.out.1
      rw [hin, HN.out, List.take_length] at h
      show Ending.returned (.string C) = _
      congr 2
      apply ByteArray.ext
      apply Array.ext'
      exact h
end Go.Proofs.YtpmildboffolkaaGreat
