/-
  The function Entries of the reference returns what the bytes are, on every string of at most 2^40 bytes.
-/
import Derived.Test.YtpmildboffolkaaGreatRefRound
set_option linter.unusedVariables false
set_option linter.unusedSimpArgs false
namespace Go.Proofs.YtpmildboffolkaaGreat
open Go.RowKit Go.Proofs.YtpmildboffolkaaGreat.VRec

theorem leK_true {a b : ByteArray} (h : leK a.data.toList b.data.toList = true) : Op.bytesLess a.toList b.toList = true ∨ (Op.bytesLess a.toList b.toList = false ∧ (a.toList == b.toList) = true) := by
  rw [Lib.toList_data, Lib.toList_data]
  unfold leK at h
  cases h1 : Op.bytesLess a.data.toList b.data.toList with
  | true => exact Or.inl rfl
  | false => rw [h1] at h; exact Or.inr ⟨rfl, h⟩
theorem leK_false {a b : ByteArray} (h : leK a.data.toList b.data.toList = false) : Op.bytesLess a.toList b.toList = false ∧ (a.toList == b.toList) = false := by
  rw [Lib.toList_data, Lib.toList_data]
  unfold leK at h
  exact (Bool.or_eq_false_iff).1 h

set_option maxHeartbeats 8000000 in
set_option maxRecDepth 100000 in
theorem entriesr_any (s : ByteArray) (w : World) (hs : s.size ≤ 1099511627776) :
    Calls Tryz.prog 5 #[.string s] w fun e w' => EndE w.heap.size (ents leK [] s.data.toList) e w' ∧ Below w.heap.size w w' := by
  obtain ⟨i0, hi, hz0, hz1, hz2⟩ := info_parts info29
  go_enter Tryz.func5, Tryz.ntmps5
  go_wp2_with fail
  go_loopg [0, 4] s.size (fun g s0 s4 wx => ∃ (R : ByteArray) (xs : List BE) (ao : Option Addr) (cv : Nat), g = R.size ∧ s0 = .string R ∧ s4 = .slice ao xs.length cv ∧ Hid (RoundR w.heap.size s.data.toList w wx R xs (.slice ao xs.length cv)))
  case atStart =>
    exact ⟨s, [], none, 0, rfl, rfl, rfl, ⟨World.ownsRow_nil _ _ _ _, Below.refl _ _, rfl, by simp⟩⟩
  case round =>
    obtain ⟨R, xs, ao, cv, rfl, rfl, rfl, HR⟩ := hrel
    by_cases hp : 0 < R.size
    · have hRs : R.size ≤ 9223372036854775807 := by have := HR.out.size; simp at this; omega
      have hpz : (0 : Int) < (R.size : Int) := by omega
      obtain ⟨R1, hR1⟩ : ∃ R1, R.extract 1 R.size = R1 := ⟨_, rfl⟩
      obtain ⟨c, hc⟩ : ∃ c : UInt8, R[0] = c := ⟨_, rfl⟩
      have hc256 : c.toNat < 256 := c.toNat_lt
      have hR1z : R1.size + 1 = R.size := by rw [← hR1]; simp [ByteArray.size_extract]; omega
      have hR1s : R1.size ≤ 9223372036854775807 := by omega
      have HL : Aside (R.data.toList = c :: R1.data.toList) := by
        rw [← hR1, Lib.extract_to_end, ← hc]
        exact drop_at (k := 0) hp
      have HC1 : Aside (c.toNat = 1 → c = 1) := fun h => UInt8.toNat_inj.1 h
      have HC2 : Aside (c.toNat = 2 → c = 2) := fun h => UInt8.toNat_inj.1 h
      by_cases hc1 : c.toNat = 1
      · skip
        have ht : ∃ o, txt R1.data.toList = o := ⟨_, rfl⟩
        obtain ⟨o, ht⟩ := ht
        cases o with
        | none =>
          have HT : Hid (txt R1.data.toList = none) := ht
          clear ht
          go_wp2_with fail
          refine (textin_none R1 _ hR1s HT.out).mono ?_
          rintro e w2 ⟨rfl, o2⟩
          have O2 : Hid (Only (fun _ => False) wr w2) := o2
          clear o2
          go_wp2_with fail
          go_ret2
          exact ⟨end_none (HR.out.fail HL.out (oneIn_no1 HT.out)), HR.out.low.trans (O2.out.below HR.out.low.size (fun _ _ => id))⟩
        | some p =>
          obtain ⟨a, r⟩ := p
          have HT0 : Hid (txt R1.data.toList = some (a, r)) := ht
          clear ht
          go_wp2_with fail
          refine (textin_some R1 _ hR1s HT0.out).mono ?_
          rintro e w2 ⟨A, R2, hA, hR2, rfl, o2⟩
          have HT : Hid (txt R1.data.toList = some (A.data.toList, R2.data.toList)) := by
            show _ = _
            rw [hA, hR2]; exact HT0.out
          have hR2s : R2.size ≤ 9223372036854775807 := by
            have h := (txt_len HT.out).1
            simp at h; omega
          have HLO2 : Hid (Below w.heap.size w w2) := HR.out.low.trans (o2.below HR.out.low.size (fun _ _ => id))
          have hOW : w2.ownsRow w.heap.size 29 3 (.slice ao xs.length cv) xs.length (cellsE xs) := own_only HR.out.own o2 (fun _ _ => id)
          obtain ⟨N, hN⟩ : ∃ N, N = xs.length := ⟨_, rfl⟩
          have hNs : N ≤ 1099511627776 := by have := HR.out.size; simp at this; omega
          rw [← hN] at hOW ⊢
          have HN : Hid (N = xs.length) := hN
          have HOW2 : Hid (w2.ownsRow w.heap.size 29 3 (.slice ao N cv) N (cellsE xs)) := hOW
          clear hA hR2 o2 hOW
          rcases Nat.eq_zero_or_pos xs.length with hz | hpos
          · have hN0 : N = 0 := by omega
            subst hN0
            have HXS : Hid (xs = []) := List.eq_nil_of_length_eq_zero hz
            clear hN hz
            obtain ⟨w3, hw3⟩ : ∃ w3, w2.alloc (.cells #[.string A, .string ⟨#[]⟩, .bool false] 29) = w3 := ⟨_, rfl⟩
            have hA3 : At w3 w2.heap.size 29 #[.string A, .string ⟨#[]⟩, .bool false] := by rw [← hw3]; exact At.new _ _ _
            have HO3 : Hid (Only (fun _ => False) w2 w3) := by rw [← hw3]; exact (Only.refl _ _).alloc _
            have q0 := hA3.cell 0
            have q1 := hA3.cell 1
            have q2 := hA3.cell 2
            have f1 := hA3.free 1
            have HA3 : Hid (At w3 w2.heap.size 29 #[.string A, .string ⟨#[]⟩, .bool false]) := hA3
            have HW3 : Hid (w2.alloc (.cells #[.string A, .string ⟨#[]⟩, .bool false] 29) = w3) := hw3
            clear hA3 hw3
            cases ht2 : txt R2.data.toList with
            | none =>
              have HT2 : Hid (txt R2.data.toList = none) := ht2
              clear ht2
              go_wp2_with fail
              rw [HW3.out]
              refine (textin_none R2 _ hR2s HT2.out).mono ?_
              rintro e w4 ⟨rfl, o4⟩
              have H4 := o4.at HA3.out id
              have p1 := H4.cell 1
              have g1 := H4.free 1
              have HLW : Hid (Below w.heap.size w (w4.setCell ⟨w2.heap.size, 1, none⟩ (.string ⟨#[]⟩))) := ((HLO2.out.trans (HO3.out.below HLO2.out.size (fun _ _ => id))).trans (o4.below (HLO2.out.trans (HO3.out.below HLO2.out.size (fun _ _ => id))).size (fun _ _ => id))).setCell (p := ⟨w2.heap.size, 1, none⟩) (by have h1 := HLO2.out.size; exact h1) _
              clear H4 o4
              go_wp2_with fail
              go_ret2
              refine ⟨end_none (HR.out.fail HL.out ?_), HLW.out⟩
              rw [HC1.out hc1]
              exact oneIn_no2 HT.out HT2.out
            | some p2 =>
              obtain ⟨a2, r2⟩ := p2
              have HT2 : Hid (txt R2.data.toList = some (a2, r2)) := ht2
              clear ht2
              go_wp2_with fail
              rw [HW3.out]
              refine (textin_some R2 _ hR2s HT2.out).mono ?_
              rintro e w4 ⟨V, R3, hV, hR3, rfl, o4⟩
              have H4 := o4.at HA3.out id
              have p1 := H4.cell 1
              have g1 := H4.free 1
              obtain ⟨W, hW⟩ : ∃ W, w4.setCell ⟨w2.heap.size, 1, none⟩ (.string V) = W := ⟨_, rfl⟩
              have HW : At W w2.heap.size 29 #[.string A, .string V, .bool false] := by rw [← hW]; exact H4.put 1 _
              have q0 := HW.cell 0
              have q1 := HW.cell 1
              have q2 := HW.cell 2
              have HOO : Hid (Only (fun _ => False) w2 W) := by
                rw [← hW]
                exact (HO3.out.trans o4).set (p := ⟨w2.heap.size, 1, none⟩) (fun h => absurd h (Nat.lt_irrefl _)) _
              have HOE : Hid (oneIn (c :: R1.data.toList) = some ((BE.mk A V false).ent, R3.data.toList)) := by
                show oneIn _ = _
                rw [HC1.out hc1, oneIn_has HT.out HT2.out, ← hV, ← hR3]
                rfl
              clear H4 o4 HW hV hR3
              have HRZ : Hid (R3.size < R.size) := by
                show R3.size < R.size
                have h := (oneIn_len HOE.out).1
                rw [← HL.out] at h
                simpa using h
              have HOW : Hid (W.ownsRow w.heap.size 29 3 (.slice ao 0 cv) 0 (cellsE xs)) := own_only HOW2.out HOO.out (fun _ _ => id)
              have HLW : Hid (Below w.heap.size w W) := HLO2.out.trans (HOO.out.below HLO2.out.size (fun _ _ => id))
              go_wp2_with (at_builtin; refine wpList_append_own _ rfl (.tmp 61) (.tmp 63) 22 rfl w.heap.size 29 i0 _ 3 40 Tryz.underlying22 hi hz0 hz1 hz2 rfl (by decide) _ _ _ rfl (World.ownsRow.alloc HOW.out _) ⟨W.heap.size, 0, none⟩ 1 1 [.string A, .string V, .bool false] rfl rfl (cell_three_new _ _ _ _ _) (by intro u hu; simp at hu; rcases hu with rfl | rfl | rfl <;> rfl) (by unfold maxLen; omega) (by omega) (by have := HLW.out.size; simp; omega) ?_; go_loud (intro v3 w3' hown3 hgrow3 hnil3; obtain ⟨ao3, cv3, hv3, -⟩ := own_slice hown3; subst hv3; have HBG : Hid (Below w.heap.size w w3') := (HLW.out.alloc HLW.out.size _).grown hgrow3 (by have := HLW.out.size; simp; omega) (fun k hk => (own_lt HOW.out hk).2); have HOG : Hid (w3'.ownsRow w.heap.size 29 3 (.slice ao3 (0 + 1) cv3) (0 + 1) (cellsE xs ++ [.string A, .string V, .bool false])) := hown3; clear hown3 hgrow3 hnil3))
              have e3 : (xs ++ [(⟨A, V, false⟩ : BE)]).length = 0 + 1 := by rw [List.length_append]; show xs.length + 1 = _; rw [← HN.out]
              have HF : Hid (RoundR w.heap.size s.data.toList w w3' R3 (xs ++ [⟨A, V, false⟩]) (.slice ao3 (0 + 1) cv3)) := by
                refine HR.out.next HL.out HOE.out rfl (Or.inl HXS.out) ?_ HBG.out
                rw [← HN.out]; exact HOG.out
              go_roundg R3.size
              case measure => have := HRZ.out; omega
              case rel => exact ⟨R3, xs ++ [⟨A, V, false⟩], ao3, cv3, rfl, rfl, by rw [e3], by rw [e3]; exact HF.out⟩
          · obtain ⟨l', y, hxs, hy⟩ := last_at hpos
            obtain ⟨g, rfl, hncv, hcvm⟩ : ∃ g, ao = some ⟨g, 0, none⟩ ∧ N ≤ cv ∧ cv ≤ maxLen := by
              obtain ⟨ao', cv', e1, e2⟩ := own_slice HOW2.out
              injection e1 with e3 e4 e5
              subst e3; subst e5
              exact e2 (by omega)
            have hky : w2.cell? ⟨g, (N - 1) * 3, none⟩ = some (.string y.k) := own_cell HOW2.out (by
              have := cellsE_at xs (xs.length - 1) y hy 0 (by decide)
              rw [hN]; exact this)
            have p1 : IntKind.i64.wrap ((N : Int) - 1) = (N : Int) - 1 := by rw [IntKind.wrap_i64]; omega
            have p2 : ((N : Int) - 1).toNat = N - 1 := by omega
            have p3 : (0 : Int) ≤ (N : Int) - 1 := by omega
            have p4 : (1 : Int) ≤ (N : Int) := by omega
            have p5 : 0 < N := by omega
            have p6 : (0 : Int) < (N : Int) := by omega
            have HXS : Hid (xs = l' ++ [y]) := hxs
            clear hN hy hxs hpos
            cases hb : leK A.data.toList y.k.data.toList with
            | true =>
              have HB : Hid (leK A.data.toList y.k.data.toList = true) := hb
              rcases leK_true hb with b1 | ⟨b1, b2⟩
              · go_wp2_with fail
                go_ret2
                exact ⟨end_none (HR.out.lowFail HL.out HT.out HXS.out HB.out), HLO2.out⟩
              · go_wp2_with fail
                go_ret2
                exact ⟨end_none (HR.out.lowFail HL.out HT.out HXS.out HB.out), HLO2.out⟩
            | false =>
              have HB : Hid (leK A.data.toList y.k.data.toList = false) := hb
              obtain ⟨b1, b2⟩ := leK_false hb
              obtain ⟨w3, hw3⟩ : ∃ w3, w2.alloc (.cells #[.string A, .string ⟨#[]⟩, .bool false] 29) = w3 := ⟨_, rfl⟩
              have hA3 : At w3 w2.heap.size 29 #[.string A, .string ⟨#[]⟩, .bool false] := by rw [← hw3]; exact At.new _ _ _
              have HO3 : Hid (Only (fun _ => False) w2 w3) := by rw [← hw3]; exact (Only.refl _ _).alloc _
              have q0 := hA3.cell 0
              have q1 := hA3.cell 1
              have q2 := hA3.cell 2
              have f1 := hA3.free 1
              have HA3 : Hid (At w3 w2.heap.size 29 #[.string A, .string ⟨#[]⟩, .bool false]) := hA3
              have HW3 : Hid (w2.alloc (.cells #[.string A, .string ⟨#[]⟩, .bool false] 29) = w3) := hw3
              clear hA3 hw3
              cases ht2 : txt R2.data.toList with
              | none =>
                have HT2 : Hid (txt R2.data.toList = none) := ht2
                clear ht2
                go_wp2_with fail
                rw [HW3.out]
                refine (textin_none R2 _ hR2s HT2.out).mono ?_
                rintro e w4 ⟨rfl, o4⟩
                have H4 := o4.at HA3.out id
                have p1 := H4.cell 1
                have g1 := H4.free 1
                have HLW : Hid (Below w.heap.size w (w4.setCell ⟨w2.heap.size, 1, none⟩ (.string ⟨#[]⟩))) := ((HLO2.out.trans (HO3.out.below HLO2.out.size (fun _ _ => id))).trans (o4.below (HLO2.out.trans (HO3.out.below HLO2.out.size (fun _ _ => id))).size (fun _ _ => id))).setCell (p := ⟨w2.heap.size, 1, none⟩) (by have h1 := HLO2.out.size; exact h1) _
                clear H4 o4
                go_wp2_with fail
                go_ret2
                refine ⟨end_none (HR.out.fail HL.out ?_), HLW.out⟩
                rw [HC1.out hc1]
                exact oneIn_no2 HT.out HT2.out
              | some p2 =>
                obtain ⟨a2, r2⟩ := p2
                have HT2 : Hid (txt R2.data.toList = some (a2, r2)) := ht2
                clear ht2
                go_wp2_with fail
                rw [HW3.out]
                refine (textin_some R2 _ hR2s HT2.out).mono ?_
                rintro e w4 ⟨V, R3, hV, hR3, rfl, o4⟩
                have H4 := o4.at HA3.out id
                have p1 := H4.cell 1
                have g1 := H4.free 1
                obtain ⟨W, hW⟩ : ∃ W, w4.setCell ⟨w2.heap.size, 1, none⟩ (.string V) = W := ⟨_, rfl⟩
                have HW : At W w2.heap.size 29 #[.string A, .string V, .bool false] := by rw [← hW]; exact H4.put 1 _
                have q0 := HW.cell 0
                have q1 := HW.cell 1
                have q2 := HW.cell 2
                have HOO : Hid (Only (fun _ => False) w2 W) := by
                  rw [← hW]
                  exact (HO3.out.trans o4).set (p := ⟨w2.heap.size, 1, none⟩) (fun h => absurd h (Nat.lt_irrefl _)) _
                have HOE : Hid (oneIn (c :: R1.data.toList) = some ((BE.mk A V false).ent, R3.data.toList)) := by
                  show oneIn _ = _
                  rw [HC1.out hc1, oneIn_has HT.out HT2.out, ← hV, ← hR3]
                  rfl
                clear H4 o4 HW hV hR3
                have HRZ : Hid (R3.size < R.size) := by
                  show R3.size < R.size
                  have h := (oneIn_len HOE.out).1
                  rw [← HL.out] at h
                  simpa using h
                have HOW : Hid (W.ownsRow w.heap.size 29 3 (.slice (some ⟨g, 0, none⟩) N cv) N (cellsE xs)) := own_only HOW2.out HOO.out (fun _ _ => id)
                have HLW : Hid (Below w.heap.size w W) := HLO2.out.trans (HOO.out.below HLO2.out.size (fun _ _ => id))
                go_wp2_with (at_builtin; refine wpList_append_own _ rfl (.tmp 61) (.tmp 63) 22 rfl w.heap.size 29 i0 _ 3 40 Tryz.underlying22 hi hz0 hz1 hz2 rfl (by decide) _ _ _ rfl (World.ownsRow.alloc HOW.out _) ⟨W.heap.size, 0, none⟩ 1 1 [.string A, .string V, .bool false] rfl rfl (cell_three_new _ _ _ _ _) (by intro u hu; simp at hu; rcases hu with rfl | rfl | rfl <;> rfl) (by unfold maxLen; omega) (by omega) (by have := HLW.out.size; simp; omega) ?_; go_loud (intro v3 w3' hown3 hgrow3 hnil3; obtain ⟨ao3, cv3, hv3, -⟩ := own_slice hown3; subst hv3; have HBG : Hid (Below w.heap.size w w3') := (HLW.out.alloc HLW.out.size _).grown hgrow3 (by have := HLW.out.size; simp; omega) (fun k hk => (own_lt HOW.out hk).2); have HOG : Hid (w3'.ownsRow w.heap.size 29 3 (.slice ao3 (N + 1) cv3) (N + 1) (cellsE xs ++ [.string A, .string V, .bool false])) := hown3; clear hown3 hgrow3 hnil3))
                have e3 : (xs ++ [(⟨A, V, false⟩ : BE)]).length = N + 1 := by rw [List.length_append]; show xs.length + 1 = _; rw [← HN.out]
                have HF : Hid (RoundR w.heap.size s.data.toList w w3' R3 (xs ++ [⟨A, V, false⟩]) (.slice ao3 (N + 1) cv3)) := by
                  refine HR.out.next HL.out HOE.out rfl (Or.inr ⟨l', y, HXS.out, HB.out⟩) ?_ HBG.out
                  rw [← HN.out]; exact HOG.out
                go_roundg R3.size
                case measure => have := HRZ.out; omega
                case rel => exact ⟨R3, xs ++ [⟨A, V, false⟩], ao3, cv3, rfl, rfl, by rw [e3], by rw [e3]; exact HF.out⟩
      · by_cases hc2 : c.toNat = 2
        · skip
          have ht : ∃ o, txt R1.data.toList = o := ⟨_, rfl⟩
          obtain ⟨o, ht⟩ := ht
          cases o with
          | none =>
            have HT : Hid (txt R1.data.toList = none) := ht
            clear ht
            go_wp2_with fail
            refine (textin_none R1 _ hR1s HT.out).mono ?_
            rintro e w2 ⟨rfl, o2⟩
            have O2 : Hid (Only (fun _ => False) wr w2) := o2
            clear o2
            go_wp2_with fail
            go_ret2
            exact ⟨end_none (HR.out.fail HL.out (oneIn_no1 HT.out)), HR.out.low.trans (O2.out.below HR.out.low.size (fun _ _ => id))⟩
          | some p =>
            obtain ⟨a, r⟩ := p
            have HT0 : Hid (txt R1.data.toList = some (a, r)) := ht
            clear ht
            go_wp2_with fail
            refine (textin_some R1 _ hR1s HT0.out).mono ?_
            rintro e w2 ⟨A, R2, hA, hR2, rfl, o2⟩
            have HT : Hid (txt R1.data.toList = some (A.data.toList, R2.data.toList)) := by
              show _ = _
              rw [hA, hR2]; exact HT0.out
            have hR2s : R2.size ≤ 9223372036854775807 := by
              have h := (txt_len HT.out).1
              simp at h; omega
            have HLO2 : Hid (Below w.heap.size w w2) := HR.out.low.trans (o2.below HR.out.low.size (fun _ _ => id))
            have hOW : w2.ownsRow w.heap.size 29 3 (.slice ao xs.length cv) xs.length (cellsE xs) := own_only HR.out.own o2 (fun _ _ => id)
            obtain ⟨N, hN⟩ : ∃ N, N = xs.length := ⟨_, rfl⟩
            have hNs : N ≤ 1099511627776 := by have := HR.out.size; simp at this; omega
            rw [← hN] at hOW ⊢
            have HN : Hid (N = xs.length) := hN
            have HOW2 : Hid (w2.ownsRow w.heap.size 29 3 (.slice ao N cv) N (cellsE xs)) := hOW
            clear hA hR2 o2 hOW
            rcases Nat.eq_zero_or_pos xs.length with hz | hpos
            · have hN0 : N = 0 := by omega
              subst hN0
              have HXS : Hid (xs = []) := List.eq_nil_of_length_eq_zero hz
              clear hN hz
              obtain ⟨w3, hw3⟩ : ∃ w3, w2.alloc (.cells #[.string A, .string ⟨#[]⟩, .bool true] 29) = w3 := ⟨_, rfl⟩
              have hA3 : At w3 w2.heap.size 29 #[.string A, .string ⟨#[]⟩, .bool true] := by rw [← hw3]; exact At.new _ _ _
              have HO3 : Hid (Only (fun _ => False) w2 w3) := by rw [← hw3]; exact (Only.refl _ _).alloc _
              have q0 := hA3.cell 0
              have q1 := hA3.cell 1
              have q2 := hA3.cell 2
              have f1 := hA3.free 1
              have HOO : Hid (Only (fun _ => False) w2 w3) := HO3.out
              obtain ⟨V, hV⟩ : ∃ V : ByteArray, V = ⟨#[]⟩ := ⟨_, rfl⟩
              have HOE : Hid (oneIn (c :: R1.data.toList) = some ((BE.mk A V true).ent, R2.data.toList)) := by
                show oneIn _ = _
                rw [HC2.out hc2, oneIn_gone HT.out, hV]
                rfl
              rw [← hV] at q1 hw3
              have hV2 : (⟨#[]⟩ : ByteArray) = V := hV.symm
              clear hA3 hV
              have HRZ : Hid (R2.size < R.size) := by
                show R2.size < R.size
                have h := (oneIn_len HOE.out).1
                rw [← HL.out] at h
                simpa using h
              have HOW : Hid (w3.ownsRow w.heap.size 29 3 (.slice ao 0 cv) 0 (cellsE xs)) := own_only HOW2.out HOO.out (fun _ _ => id)
              have HLW : Hid (Below w.heap.size w w3) := HLO2.out.trans (HOO.out.below HLO2.out.size (fun _ _ => id))
              go_wp2_with (at_builtin; refine wpList_append_own _ rfl (.tmp 61) (.tmp 63) 22 rfl w.heap.size 29 i0 _ 3 40 Tryz.underlying22 hi hz0 hz1 hz2 rfl (by decide) _ _ _ rfl (World.ownsRow.alloc HOW.out _) ⟨w3.heap.size, 0, none⟩ 1 1 [.string A, .string V, .bool true] rfl rfl (cell_three_new _ _ _ _ _) (by intro u hu; simp at hu; rcases hu with rfl | rfl | rfl <;> rfl) (by unfold maxLen; omega) (by omega) (by have := HLW.out.size; simp; omega) ?_; go_loud (intro v3 w3' hown3 hgrow3 hnil3; obtain ⟨ao3, cv3, hv3, -⟩ := own_slice hown3; subst hv3; have HBG : Hid (Below w.heap.size w w3') := (HLW.out.alloc HLW.out.size _).grown hgrow3 (by have := HLW.out.size; simp; omega) (fun k hk => (own_lt HOW.out hk).2); have HOG : Hid (w3'.ownsRow w.heap.size 29 3 (.slice ao3 (0 + 1) cv3) (0 + 1) (cellsE xs ++ [.string A, .string V, .bool true])) := hown3; clear hown3 hgrow3 hnil3))
              have e3 : (xs ++ [(⟨A, V, true⟩ : BE)]).length = 0 + 1 := by rw [List.length_append]; show xs.length + 1 = _; rw [← HN.out]
              have HF : Hid (RoundR w.heap.size s.data.toList w w3' R2 (xs ++ [⟨A, V, true⟩]) (.slice ao3 (0 + 1) cv3)) := by
                refine HR.out.next HL.out HOE.out rfl (Or.inl HXS.out) ?_ HBG.out
                rw [← HN.out]; exact HOG.out
              go_roundg R2.size
              case measure => have := HRZ.out; omega
              case rel => exact ⟨R2, xs ++ [⟨A, V, true⟩], ao3, cv3, rfl, rfl, by rw [e3], by rw [e3]; exact HF.out⟩
            · obtain ⟨l', y, hxs, hy⟩ := last_at hpos
              obtain ⟨g, rfl, hncv, hcvm⟩ : ∃ g, ao = some ⟨g, 0, none⟩ ∧ N ≤ cv ∧ cv ≤ maxLen := by
                obtain ⟨ao', cv', e1, e2⟩ := own_slice HOW2.out
                injection e1 with e3 e4 e5
                subst e3; subst e5
                exact e2 (by omega)
              have hky : w2.cell? ⟨g, (N - 1) * 3, none⟩ = some (.string y.k) := own_cell HOW2.out (by
                have := cellsE_at xs (xs.length - 1) y hy 0 (by decide)
                rw [hN]; exact this)
              have p1 : IntKind.i64.wrap ((N : Int) - 1) = (N : Int) - 1 := by rw [IntKind.wrap_i64]; omega
              have p2 : ((N : Int) - 1).toNat = N - 1 := by omega
              have p3 : (0 : Int) ≤ (N : Int) - 1 := by omega
              have p4 : (1 : Int) ≤ (N : Int) := by omega
              have p5 : 0 < N := by omega
              have p6 : (0 : Int) < (N : Int) := by omega
              have HXS : Hid (xs = l' ++ [y]) := hxs
              clear hN hy hxs hpos
              cases hb : leK A.data.toList y.k.data.toList with
              | true =>
                have HB : Hid (leK A.data.toList y.k.data.toList = true) := hb
                rcases leK_true hb with b1 | ⟨b1, b2⟩
                · go_wp2_with fail
                  go_ret2
                  exact ⟨end_none (HR.out.lowFail HL.out HT.out HXS.out HB.out), HLO2.out⟩
                · go_wp2_with fail
                  go_ret2
                  exact ⟨end_none (HR.out.lowFail HL.out HT.out HXS.out HB.out), HLO2.out⟩
              | false =>
                have HB : Hid (leK A.data.toList y.k.data.toList = false) := hb
                obtain ⟨b1, b2⟩ := leK_false hb
                obtain ⟨w3, hw3⟩ : ∃ w3, w2.alloc (.cells #[.string A, .string ⟨#[]⟩, .bool true] 29) = w3 := ⟨_, rfl⟩
                have hA3 : At w3 w2.heap.size 29 #[.string A, .string ⟨#[]⟩, .bool true] := by rw [← hw3]; exact At.new _ _ _
                have HO3 : Hid (Only (fun _ => False) w2 w3) := by rw [← hw3]; exact (Only.refl _ _).alloc _
                have q0 := hA3.cell 0
                have q1 := hA3.cell 1
                have q2 := hA3.cell 2
                have f1 := hA3.free 1
                have HOO : Hid (Only (fun _ => False) w2 w3) := HO3.out
                obtain ⟨V, hV⟩ : ∃ V : ByteArray, V = ⟨#[]⟩ := ⟨_, rfl⟩
                have HOE : Hid (oneIn (c :: R1.data.toList) = some ((BE.mk A V true).ent, R2.data.toList)) := by
                  show oneIn _ = _
                  rw [HC2.out hc2, oneIn_gone HT.out, hV]
                  rfl
                rw [← hV] at q1 hw3
                have hV2 : (⟨#[]⟩ : ByteArray) = V := hV.symm
                clear hA3 hV
                have HRZ : Hid (R2.size < R.size) := by
                  show R2.size < R.size
                  have h := (oneIn_len HOE.out).1
                  rw [← HL.out] at h
                  simpa using h
                have HOW : Hid (w3.ownsRow w.heap.size 29 3 (.slice (some ⟨g, 0, none⟩) N cv) N (cellsE xs)) := own_only HOW2.out HOO.out (fun _ _ => id)
                have HLW : Hid (Below w.heap.size w w3) := HLO2.out.trans (HOO.out.below HLO2.out.size (fun _ _ => id))
                go_wp2_with (at_builtin; refine wpList_append_own _ rfl (.tmp 61) (.tmp 63) 22 rfl w.heap.size 29 i0 _ 3 40 Tryz.underlying22 hi hz0 hz1 hz2 rfl (by decide) _ _ _ rfl (World.ownsRow.alloc HOW.out _) ⟨w3.heap.size, 0, none⟩ 1 1 [.string A, .string V, .bool true] rfl rfl (cell_three_new _ _ _ _ _) (by intro u hu; simp at hu; rcases hu with rfl | rfl | rfl <;> rfl) (by unfold maxLen; omega) (by omega) (by have := HLW.out.size; simp; omega) ?_; go_loud (intro v3 w3' hown3 hgrow3 hnil3; obtain ⟨ao3, cv3, hv3, -⟩ := own_slice hown3; subst hv3; have HBG : Hid (Below w.heap.size w w3') := (HLW.out.alloc HLW.out.size _).grown hgrow3 (by have := HLW.out.size; simp; omega) (fun k hk => (own_lt HOW.out hk).2); have HOG : Hid (w3'.ownsRow w.heap.size 29 3 (.slice ao3 (N + 1) cv3) (N + 1) (cellsE xs ++ [.string A, .string V, .bool true])) := hown3; clear hown3 hgrow3 hnil3))
                have e3 : (xs ++ [(⟨A, V, true⟩ : BE)]).length = N + 1 := by rw [List.length_append]; show xs.length + 1 = _; rw [← HN.out]
                have HF : Hid (RoundR w.heap.size s.data.toList w w3' R2 (xs ++ [⟨A, V, true⟩]) (.slice ao3 (N + 1) cv3)) := by
                  refine HR.out.next HL.out HOE.out rfl (Or.inr ⟨l', y, HXS.out, HB.out⟩) ?_ HBG.out
                  rw [← HN.out]; exact HOG.out
                go_roundg R2.size
                case measure => have := HRZ.out; omega
                case rel => exact ⟨R2, xs ++ [⟨A, V, true⟩], ao3, cv3, rfl, rfl, by rw [e3], by rw [e3]; exact HF.out⟩
        · have k1 : ((c.toNat : Int) != 1) = true := by simp; omega
          have k2 : ((c.toNat : Int) != 2) = true := by simp; omega
          go_wp2_with fail
          go_ret2
          exact ⟨end_none (HR.out.fail HL.out (oneIn_kind (fun e => hc1 (by rw [e]; rfl)) (fun e => hc2 (by rw [e]; rfl)))), HR.out.low⟩
    · have hz : R.size = 0 := by omega
      have HZ : Hid (R.data.toList = []) := List.eq_nil_of_length_eq_zero (by simpa using hz)
      have hpz : ¬ (0 : Int) < (R.size : Int) := by omega
      go_wp2_with fail
      go_ret2
      refine ⟨?_, HR.out.low⟩
      rw [← HR.out.to, HZ.out, ents_nil]
      exact ⟨ao, cv, xs, rfl, rfl, HR.out.own⟩
end Go.Proofs.YtpmildboffolkaaGreat
