/-
  The law VolRecords returns true where the function lives does and the input is small; it leaves all old memory as it was.
-/
import Derived.Test.YtpmildboffolkaaGreatRefRecord
set_option linter.unusedVariables false
set_option linter.unusedSimpArgs false
namespace Go.Proofs.YtpmildboffolkaaGreat
open Go.RowKit Go.Proofs.YtpmildboffolkaaGreat.VRec

theorem ent_inj : ∀ {a b : List BE}, a.map BE.ent = b.map BE.ent → a = b
  | [], [], _ => rfl
  | [], _ :: _, h => by simp at h
  | _ :: _, [], h => by simp at h
  | x :: a, y :: b, h => by
    simp only [List.map_cons, List.cons.injEq] at h
    have e := ent_inj h.2
    obtain ⟨k, v, g⟩ := x
    obtain ⟨k', v', g'⟩ := y
    have h1 := h.1
    simp only [BE.ent, Ent.mk.injEq] at h1
    have e1 : k = k' := ByteArray.ext (Array.ext' h1.1)
    have e2 : v = v' := ByteArray.ext (Array.ext' h1.2.1)
    rw [e1, e2, h1.2.2, e]
theorem own_three {w : World} {B N cv i : Nat} {ao : Option Addr} {xs : List BE} {k v : ByteArray} {g : Bool} (h : w.ownsRow B 29 3 (.slice ao N cv) N (cellsE xs)) (hx : xs[i]? = some ⟨k, v, g⟩) (hN : 0 < N) :
    ∃ b, ao = some ⟨b, 0, none⟩ ∧ w.cell? ⟨b, i * 3, none⟩ = some (.string k) ∧ w.cell? ⟨b, i * 3 + 1, none⟩ = some (.string v) ∧ w.cell? ⟨b, i * 3 + 2, none⟩ = some (.bool g) ∧ N ≤ 9223372036854775807 := by
  obtain ⟨ao', cv', e1, e2⟩ := own_slice h
  injection e1 with e3 e4 e5
  subst e3; subst e5
  obtain ⟨b, rfl, n1, n2⟩ := e2 hN
  unfold maxLen at n2
  exact ⟨b, rfl, own_cell h (cellsE_at xs i _ hx 0 (by decide)), own_cell h (cellsE_at xs i _ hx 1 (by decide)), own_cell h (cellsE_at xs i _ hx 2 (by decide)), by omega⟩

set_option maxHeartbeats 4000000 in
set_option maxRecDepth 100000 in
/-- the law's own walk, given that lives answers true -/
theorem law_ok (w : World) (s : ByteArray) (xs : List BE) (ao : Option Addr) (cv : Nat) (hs : s.size ≤ 1099511627776) (h : Lie w w.heap.size ao xs) (hsum : sumOf (xs.map BE.ent) ≤ 70368744177664)
    (hlives : ∀ w1 : World, Calls Tryz.prog 6 #[] w1 fun e w' => e = .returned (.bool true) ∧ Below w1.heap.size w1 w') :
    Calls Tryz.prog 3 #[.string s, .slice ao xs.length cv] w fun e w' => e = .returned (.bool true) ∧ Below w.heap.size w w' := by
  have HH : Hid (Lie w w.heap.size ao xs ∧ sumOf (xs.map BE.ent) ≤ 70368744177664) := ⟨h, hsum⟩
  have HLV : Hid (∀ w1 : World, Calls Tryz.prog 6 #[] w1 fun e w' => e = .returned (.bool true) ∧ Below w1.heap.size w1 w') := hlives
  obtain ⟨n, hn⟩ : ∃ n, n = xs.length := ⟨_, rfl⟩
  have HN : Hid (n = xs.length) := hn
  rw [← hn]
  clear hn h hsum hlives
  obtain ⟨E, hE⟩ : ∃ E : ByteArray, E = ⟨(recOf (xs.map BE.ent)).toArray⟩ := ⟨_, rfl⟩
  have HRA : Hid (∀ w1 : World, Below w.heap.size w w1 → Calls Tryz.prog 7 #[.slice ao n cv] w1 fun e w' => e = .returned (.string E) ∧ Below w1.heap.size w1 w') := by
    intro w1 hb
    rw [HN.out, hE]
    exact record_ok w1 xs ao cv ((HH.out.1.below hb).wide hb.size) HH.out.2
  have HRB : Hid (∀ w1 : World, Below w.heap.size w w1 → Calls Tryz.prog 8 #[.slice ao n cv] w1 fun e w' => e = .returned (.string E) ∧ Below w1.heap.size w1 w') := by
    intro w1 hb
    rw [HN.out, hE]
    exact recordr_ok w1 xs ao cv ((HH.out.1.below hb).wide hb.size) HH.out.2
  clear hE
  go_enter Tryz.func3, Tryz.ntmps3
  go_wp2_with fail
  refine (entries_any s _ hs).mono ?_
  rintro e w1 ⟨he, hb1⟩
  cases ho : ents leK [] s.data.toList with
  | none =>
    rw [ho] at he
    have he' : e = .returned (.tuple #[.slice none 0 0, .int .i64 250]) := he
    subst he'
    have HO : Hid (ents leK [] s.data.toList = none) := ho
    have HB1 : Hid (Below w.heap.size w w1) := hb1
    clear hb1 ho he
    go_wp2_with fail
    refine (entriesr_any s _ hs).mono ?_
    rintro e w2 ⟨he, hb2⟩
    rw [HO.out] at he
    have he' : e = .returned (.tuple #[.slice none 0 0, .int .i64 250]) := he
    subst he'
    have HB2 : Hid (Below w.heap.size w w2) := HB1.out.trans (hb2.mono HB1.out.size)
    clear hb2 he
    go_wp2_with (first
      | (go_at_call 6; refine Calls.mono (HLV.out _) ?_; rintro e w3 ⟨rfl, h⟩; have HB3 : Hid (Below w.heap.size w w3) := HB2.out.trans (h.mono HB2.out.size); clear h)
      | (go_at_call 7; refine Calls.mono (HRA.out _ HB3.out) ?_; rintro e w4 ⟨rfl, h⟩; have HB4 : Hid (Below w.heap.size w w4) := HB3.out.trans (h.mono HB3.out.size); clear h)
      | (go_at_call 8; refine Calls.mono (HRB.out _ HB4.out) ?_; rintro e w5 ⟨rfl, h⟩; have HB5 : Hid (Below w.heap.size w w5) := HB4.out.trans (h.mono HB4.out.size); clear h))
    go_loopg [9] 0 (fun g s9 wx => w5 = wx ∧ s9 = .int .i64 0)
    case atStart => exact ⟨rfl, rfl⟩
    case round =>
      obtain ⟨rfl, rfl⟩ := hrel
      go_wp2_with fail
      go_ret
      exact ⟨rfl, HB5.out⟩
  | some l =>
    rw [ho] at he
    obtain ⟨a1, c1, xs1, hl1, rfl, own1⟩ := he
    have HO : Hid (ents leK [] s.data.toList = some l) := ho
    have HB1 : Hid (Below w.heap.size w w1) := hb1
    have HL1 : Hid (xs1.map BE.ent = l) := hl1
    have HO1 : Hid (w1.ownsRow w.heap.size 29 3 (.slice a1 xs1.length c1) xs1.length (cellsE xs1)) := own1
    clear hb1 ho own1 hl1
    go_wp2_with fail
    refine (entriesr_any s _ hs).mono ?_
    rintro e w2 ⟨he, hb2⟩
    rw [HO.out] at he
    obtain ⟨a2, c2, xs2, hl2, rfl, own2⟩ := he
    have e12 : xs2 = xs1 := ent_inj (hl2.trans HL1.out.symm)
    subst e12
    have HB2 : Hid (Below w.heap.size w w2) := HB1.out.trans (hb2.mono HB1.out.size)
    have HO2 : Hid (w2.ownsRow w1.heap.size 29 3 (.slice a2 xs2.length c2) xs2.length (cellsE xs2)) := own2
    have HP1 : Hid (w2.ownsRow w.heap.size 29 3 (.slice a1 xs2.length c1) xs2.length (cellsE xs2)) := own_only HO1.out (Only.of_below hb2 (Nat.le_refl _)) (fun _ _ => id)
    obtain ⟨N, hN⟩ : ∃ N, N = xs2.length := ⟨_, rfl⟩
    rw [← hN] at HO2 HP1 ⊢
    have HN2 : Hid (N = xs2.length) := hN
    clear hb2 own2 hl2 hN
    go_wp2_with (first
      | (go_at_call 6; refine Calls.mono (HLV.out _) ?_; rintro e w3 ⟨rfl, h⟩; have HB3 : Hid (Below w2.heap.size w2 w3) := h; clear h)
      | (go_at_call 7; refine Calls.mono (HRA.out _ (HB2.out.trans (HB3.out.mono HB2.out.size))) ?_; rintro e w4 ⟨rfl, h⟩; have HB4 : Hid (Below w2.heap.size w2 w4) := HB3.out.trans (h.mono HB3.out.size); clear h)
      | (go_at_call 8; refine Calls.mono (HRB.out _ (HB2.out.trans (HB4.out.mono HB2.out.size))) ?_; rintro e w5 ⟨rfl, h⟩; have HB5 : Hid (Below w2.heap.size w2 w5) := HB4.out.trans (h.mono HB4.out.size); clear h))
    have HB6 : Hid (Below w.heap.size w w5) := HB2.out.trans (HB5.out.mono HB2.out.size)
    have HP : Hid (w5.ownsRow w.heap.size 29 3 (.slice a1 N c1) N (cellsE xs2)) := own_only HP1.out (Only.of_below HB5.out (Nat.le_refl _)) (fun _ _ => id)
    have HQ : Hid (w5.ownsRow w1.heap.size 29 3 (.slice a2 N c2) N (cellsE xs2)) := own_only HO2.out (Only.of_below HB5.out (Nat.le_refl _)) (fun _ _ => id)
    go_loopg [9] N (fun g s9 wx => ∃ i d : Nat, i + g = N ∧ s9 = .int .i64 i ∧ w5.drewN d = wx)
    case atStart => exact ⟨0, 0, by omega, rfl, rfl⟩
    case round =>
      obtain ⟨i, d, hig, rfl, rfl⟩ := hrel
      by_cases hi : i < N
      · have hiz : (i : Int) < (N : Int) := by omega
        obtain ⟨⟨k0, v0, g0⟩, hx⟩ : ∃ x : BE, xs2[i]? = some x := ⟨xs2[i]'(by rw [← HN2.out]; exact hi), List.getElem?_eq_getElem _⟩
        obtain ⟨g1, rfl, x1, x2, x3, hNm⟩ := own_three HP.out hx (by omega)
        obtain ⟨g2, rfl, y1, y2, y3, -⟩ := own_three HQ.out hx (by omega)
        clear hx
        go_wp2_with fail
        go_quiet (fail)
        go_wp2_with fail
        go_roundg (N - (i + 1))
        case measure => omega
        case rel => exact ⟨i + 1, d + nq, by omega, by go_num, rfl⟩
      · have hiz : ¬ (i : Int) < (N : Int) := by omega
        go_wp2_with fail
        go_ret
        exact ⟨rfl, (drewN_below _ _ _ _).2 HB6.out⟩
end Go.Proofs.YtpmildboffolkaaGreat
