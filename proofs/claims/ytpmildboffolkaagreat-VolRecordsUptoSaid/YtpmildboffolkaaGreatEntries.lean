/-
  The function vol.Entries returns what the bytes are, on every string of at most 2^40 bytes.
-/
import Derived.Test.YtpmildboffolkaaGreatBytes1
import Derived.Test.YtpmildboffolkaaGreatOwned
import Derived.OwnWalk
import Derived.Deep.DeepFit
set_option linter.unusedVariables false
set_option linter.unusedSimpArgs false
namespace Go.Proofs.YtpmildboffolkaaGreat
open Go.RowKit Go.Proofs.YtpmildboffolkaaGreat.VRec

theorem info29 : (Tryz.prog.info? 29).map (fun i => (i.zero, i.size, i.bytes)) = some (some (.agg #[.string ⟨#[]⟩, .string ⟨#[]⟩, .bool false]), 3, 40) := by kernel_rfl

/-- how a function ends that reads entries -/
def EndE (B : Nat) : Option (List Ent) → Ending → World → Prop
  | some l, e, w' => ∃ ao cv xs, xs.map BE.ent = l ∧ e = .returned (.tuple #[.slice ao xs.length cv, .int .i64 0]) ∧ w'.ownsRow B 29 3 (.slice ao xs.length cv) xs.length (cellsE xs)
  | none, e, _ => e = .returned (.tuple #[.slice none 0 0, .int .i64 250])

/-- the loop of vol.Entries: what holds at each round's head: the reader's text R, the entries xs -/
structure Round (B rb : Nat) (L : Bs) (w0 w : World) (R : ByteArray) (xs : List BE) (v : Value) : Prop where
  rd : Rd w rb R 0
  own : w.ownsRow B 29 3 v xs.length (cellsE xs)
  low : Below B w0 w
  to : ents leK (xs.map BE.ent) R.data.toList = ents leK [] L
  size : xs.length + R.size ≤ L.length

theorem left_q (b : Nat) (s : ByteArray) (w : World) (h : Rd w b s 0) : Calls Tryz.prog 10 #[.pointer (some ⟨b, 0, none⟩)] w fun e w' => e = .returned (.int .i64 s.size) ∧ w = w' :=
  (left_ok b s w (h.cell 0) (h.cell 1)).mono fun _ _ ⟨a, c⟩ => ⟨a, c.symm⟩
theorem end_none {B : Nat} {r : Option (List Ent)} {w' : World} (h : r = none) : EndE B r (.returned (.tuple #[.slice none 0 0, .int .i64 250])) w' := by
  subst h; rfl
section
variable {B rb : Nat} {L : Bs} {w0 w : World} {R R1 : ByteArray} {xs : List BE} {v : Value} {c : UInt8}
theorem Round.below {W : World} (h : Round B rb L w0 w R xs v) (o : Only (· = rb) w W) (hB : B ≤ rb) (hBw : B ≤ w.heap.size) : Below B w0 W :=
  h.low.trans (o.below hBw fun i hi e => by omega)
theorem Round.fail (h : Round B rb L w0 w R xs v) (hL : R.data.toList = c :: R1.data.toList) (ho : oneIn (c :: R1.data.toList) = none) : ents leK [] L = none := by
  rw [← h.to, hL]
  exact ents_none leK _ (by simp) ho
theorem Round.lowFail {r : Bs} {x y : BE} {l' : List BE} (h : Round B rb L w0 w R xs v) (hL : R.data.toList = c :: R1.data.toList) (ho : oneIn (c :: R1.data.toList) = some (x.ent, r)) (hx : xs = l' ++ [y])
    (hb : Op.bytesLess y.k.toList x.k.toList = false) : ents leK [] L = none := by
  rw [← h.to, hL]
  refine ents_low leK _ ho ?_
  rw [hx, low_last, leK_geq]
  rw [Lib.toList_data, Lib.toList_data] at hb
  show (!Op.bytesLess y.k.data.toList x.k.data.toList) = true
  rw [hb]; rfl
theorem Round.next {R' : ByteArray} {r : Bs} {x : BE} {v' : Value} {W : World} (h : Round B rb L w0 w R xs v) (hL : R.data.toList = c :: R1.data.toList) (ho : oneIn (c :: R1.data.toList) = some (x.ent, r)) (hr : R'.data.toList = r)
    (hlow : xs = [] ∨ ∃ l' y, xs = l' ++ [y] ∧ Op.bytesLess y.k.toList x.k.toList = true)
    (rd : Rd W rb R' 0) (own : W.ownsRow B 29 3 v' (xs.length + 1) (cellsE xs ++ [.string x.k, .string x.v, .bool x.g])) (low : Below B w0 W) : Round B rb L w0 W R' (xs ++ [x]) v' := by
  refine ⟨rd, by rw [cellsE_snoc, List.length_append]; exact own, low, ?_, ?_⟩
  · rw [← h.to, hL, hr, List.map_append]
    refine (ents_step leK _ ho ?_).symm
    rcases hlow with e | ⟨l', y, e, hb⟩
    · subst e; rfl
    · rw [e, low_last, leK_geq]
      rw [Lib.toList_data, Lib.toList_data] at hb
      show (!Op.bytesLess y.k.data.toList x.k.data.toList) = false
      rw [hb]; rfl
  · have h1 := h.size
    have h2 := (oneIn_len ho).1
    rw [← hL, ← hr] at h2
    simp only [List.length_append, List.length_cons, List.length_nil]
    simp at h2
    omega
end

set_option maxHeartbeats 8000000 in
set_option maxRecDepth 100000 in
theorem entries_any (s : ByteArray) (w : World) (hs : s.size ≤ 1099511627776) :
    Calls Tryz.prog 4 #[.string s] w fun e w' => EndE w.heap.size (ents leK [] s.data.toList) e w' ∧ Below w.heap.size w w' := by
  obtain ⟨i0, hi, hz0, hz1, hz2⟩ := info_parts info29
  go_enter Tryz.func4, Tryz.ntmps4
  go_wp2_with (go_at_call 9; refine (newReader_any _ _).mono ?_; rintro e w' ⟨rfl, rfl⟩)
  go_loopg [5] s.size (fun g s5 wx => ∃ (R : ByteArray) (xs : List BE) (ao : Option Addr) (cv : Nat), g = R.size ∧ s5 = .slice ao xs.length cv ∧ Hid (Round w.heap.size w.heap.size s.data.toList w wx R xs (.slice ao xs.length cv)))
  case atStart =>
    exact ⟨s, [], none, 0, rfl, rfl, ⟨At.new _ _ _, World.ownsRow_nil _ _ _ _, (Below.refl _ _).alloc (Nat.le_refl _) _, rfl, by simp⟩⟩
  case round =>
    obtain ⟨R, xs, ao, cv, rfl, rfl, HR⟩ := hrel
    by_cases hp : 0 < R.size
    · have hRs : R.size ≤ 9223372036854775807 := by have := HR.out.size; simp at this; omega
      obtain ⟨R1, hR1⟩ : ∃ R1, R1 = R.extract 1 R.size := ⟨_, rfl⟩
      obtain ⟨c, hc⟩ : ∃ c : UInt8, c = R[0] := ⟨_, rfl⟩
      have hc256 : c.toNat < 256 := c.toNat_lt
      have U := u8_ok w.heap.size R wr hp hRs HR.out.rd
      rw [← hc, ← hR1] at U
      have HU : Aside (Calls Tryz.prog 11 #[.pointer (some ⟨w.heap.size, 0, none⟩)] wr fun e w' => e = .returned (.int .u8 (c.toNat : Nat)) ∧ Rd w' w.heap.size R1 0 ∧ Only (· = w.heap.size) wr w') := U
      have hR1z : R1.size + 1 = R.size := by rw [hR1]; simp [ByteArray.size_extract]; omega
      have hR1s : R1.size ≤ 9223372036854775807 := by omega
      have HL : Aside (R.data.toList = c :: R1.data.toList) := by
        rw [hR1, Lib.extract_to_end, hc]
        exact drop_at (k := 0) hp
      have HC1 : Aside (c.toNat = 1 → c = 1) := fun h => UInt8.toNat_inj.1 h
      have HC2 : Aside (c.toNat = 2 → c = 2) := fun h => UInt8.toNat_inj.1 h
      clear U hc hR1
      go_wp2_with fail
      refine (left_q _ R _ HR.out.rd).mono ?_
      rintro e w' ⟨rfl, rfl⟩
      go_wp2_with fail
      refine Calls.mono HU.out ?_
      rintro e w1 ⟨rfl, h1, o1⟩
      have H1 : Hid (Rd w1 w.heap.size R1 0) := h1
      have O1 : Hid (Only (· = w.heap.size) wr w1) := o1
      have hB1 : w.heap.size ≤ wr.heap.size := HR.out.low.size
      clear h1 o1 HU
      go_wp2_with fail
      cases ht : txt R1.data.toList with
      | none =>
        have HT : Hid (txt R1.data.toList = none) := ht
        clear ht
        refine (text_none _ R1 _ hR1s HT.out H1.out).mono ?_
        rintro e w2 ⟨R2, x, hx, rfl, h2, o2⟩
        have H2 : Hid (Rd w2 w.heap.size R2 x) := h2
        have O2 : Hid (Only (· = w.heap.size) wr w2) := O1.out.trans o2
        clear h2 o2
        have hx2 : (x != 0) = true := by simp [bne, hx]
        by_cases hc1 : c.toNat = 1
        · have he := (H2.out.alloc (.cells #[.string ⟨#[]⟩, .string ⟨#[]⟩, .bool false] 29)).cell 1
          go_wp2_with fail
          refine (text_err _ x _ hx he).mono ?_
          rintro e w' ⟨rfl, rfl⟩
          go_wp2_with fail
          go_quiet ((go_at_call 13; exact Calls.quiet_of_same (err_any _ _ _ he)))
          all_goals (try go_wp2_with fail)
          go_ret2
          exact ⟨end_none (HR.out.fail HL.out (oneIn_no1 HT.out)), HR.out.below ((O2.out.alloc _).drewN _) (Nat.le_refl _) hB1⟩
        · have k1 : ((c.toNat : Int) == 1) = false := by simp; omega
          have he := (H2.out.alloc (.cells #[.string ⟨#[]⟩, .string ⟨#[]⟩, .bool ((c.toNat : Int) == 2)] 29)).cell 1
          go_wp2_with fail
          go_quiet ((go_at_call 13; exact Calls.quiet_of_same (err_any _ _ _ he)))
          all_goals (try go_wp2_with fail)
          go_ret2
          exact ⟨end_none (HR.out.fail HL.out (oneIn_no1 HT.out)), HR.out.below ((O2.out.alloc _).drewN _) (Nat.le_refl _) hB1⟩
      | some p =>
        obtain ⟨a, r⟩ := p
        have HT : Hid (txt R1.data.toList = some (a, r)) := ht
        clear ht
        refine (text_some _ R1 _ hR1s HT.out H1.out).mono ?_
        rintro e w2 ⟨A, R2, hA, hR2, rfl, h2, o2⟩
        have H2 : Hid (Rd w2 w.heap.size R2 0) := h2
        have O2 : Hid (Only (· = w.heap.size) wr w2) := O1.out.trans o2
        have HA : Hid (A.data.toList = a) := hA
        have HR2 : Hid (R2.data.toList = r) := hR2
        have hR2s : R2.size ≤ 9223372036854775807 := by
          have h := (txt_len HT.out).1
          rw [← HR2.out] at h
          simp at h; omega
        clear h2 o2 hA hR2
        by_cases hc1 : c.toNat = 1
        · go_wp2_with fail
          obtain ⟨X, hX⟩ : ∃ X, X = w2.heap.size := ⟨_, rfl⟩
          have hAX : At (w2.alloc (.cells #[.string A, .string ⟨#[]⟩, .bool false] 29)) X 29 #[.string A, .string ⟨#[]⟩, .bool false] := by rw [hX]; exact At.new _ _ _
          obtain ⟨w3, hw3⟩ : ∃ w3, w3 = w2.alloc (.cells #[.string A, .string ⟨#[]⟩, .bool false] 29) := ⟨_, rfl⟩
          have H3 : Hid (Rd w3 w.heap.size R2 0) := by rw [hw3]; exact H2.out.alloc _
          have O3 : Hid (Only (· = w.heap.size) wr w3) := by rw [hw3]; exact O2.out.alloc _
          have hXne : X ≠ w.heap.size := by have := H2.out.lt; omega
          have HXge : Hid (wr.heap.size ≤ X) := by rw [hX]; exact O2.out.size
          rw [← hw3] at hAX
          rw [← hX, ← hw3]
          have HAX : Hid (At w3 X 29 #[.string A, .string ⟨#[]⟩, .bool false]) := hAX
          clear hX hw3 hAX
          cases ht2 : txt R2.data.toList with
          | none =>
            have HT2 : Hid (txt R2.data.toList = none) := ht2
            clear ht2
            refine (text_none _ R2 _ hR2s HT2.out H3.out).mono ?_
            rintro e w4 ⟨R3, x, hx, rfl, h4, o4⟩
            have hx2 : (x != 0) = true := by simp [bne, hx]
            have H4 : Hid (Rd w4 w.heap.size R3 x) := h4
            have O4 : Hid (Only (· = w.heap.size) wr w4) := O3.out.trans o4
            have HX4 : Hid (At w4 X 29 #[.string A, .string ⟨#[]⟩, .bool false]) := o4.at HAX.out hXne
            clear h4 o4
            have q1 := HX4.out.cell 1
            have q2 := HX4.out.free 1
            have he := (H4.out.far (p := ⟨X, 1, none⟩) (fun e => hXne e.symm) (.string ⟨#[]⟩)).cell 1
            go_wp2_with fail
            go_quiet ((go_at_call 13; exact Calls.quiet_of_same (err_any _ _ _ he)))
            all_goals (try go_wp2_with fail)
            go_ret2
            refine ⟨end_none (HR.out.fail HL.out ?_), HR.out.below ((O4.out.set (p := ⟨X, 1, none⟩) (fun h => absurd h (by have := HXge.out; simp; omega)) _).drewN _) (Nat.le_refl _) hB1⟩
            rw [HC1.out hc1]
            exact oneIn_no2 HT.out (by rw [← HR2.out]; exact HT2.out)
          | some p2 =>
            obtain ⟨a2, r2⟩ := p2
            have HT2 : Hid (txt R2.data.toList = some (a2, r2)) := ht2
            clear ht2
            refine (text_some _ R2 _ hR2s HT2.out H3.out).mono ?_
            rintro e w4 ⟨V, R3, hV, hR3, rfl, h4, o4⟩
            have HX4 : Hid (At w4 X 29 #[.string A, .string ⟨#[]⟩, .bool false]) := o4.at HAX.out hXne
            have q1 := HX4.out.cell 1
            have q2 := HX4.out.free 1
            have H4 : Hid (Rd w4 w.heap.size R3 0) := h4
            have O4 : Hid (Only (· = w.heap.size) wr w4) := O3.out.trans o4
            have HV : Hid (V.data.toList = a2) := hV
            have HR3 : Hid (R3.data.toList = r2) := hR3
            clear h4 o4 hV hR3
            go_wp2_with fail
            obtain ⟨W, hW⟩ : ∃ W, W = w4.setCell ⟨X, 1, none⟩ (.string V) := ⟨_, rfl⟩
            have HRd : Hid (Rd W w.heap.size R3 0) := by rw [hW]; exact H4.out.far (fun e => hXne e.symm) _
            have HO : Hid (Only (· = w.heap.size) wr W) := by
              rw [hW]
              exact O4.out.set (p := ⟨X, 1, none⟩) (fun h => absurd h (by have := HXge.out; simp; omega)) _
            have HX : Hid (At W X 29 #[.string A, .string V, .bool false]) := by rw [hW]; exact HX4.out.put 1 _
            have HOE : Hid (oneIn (c :: R1.data.toList) = some ((BE.mk A V false).ent, r2)) := by
              show oneIn _ = _
              rw [HC1.out hc1, oneIn_has HT.out (by rw [← HR2.out]; exact HT2.out), ← HA.out, ← HV.out]
              rfl
            rw [← hW]
            clear hW q1 q2
            have he := HRd.out.cell 1
            have hx0 : W.cell? ⟨X, 0, none⟩ = some (.string A) := HX.out.cell 0
            have hx1 : W.cell? ⟨X, 1, none⟩ = some (.string V) := HX.out.cell 1
            have hx2 : W.cell? ⟨X, 2, none⟩ = some (.bool false) := HX.out.cell 2
            have HOW : Hid (W.ownsRow w.heap.size 29 3 (.slice ao xs.length cv) xs.length (cellsE xs)) := own_only HR.out.own HO.out (fun g hg e => own_ne HR.out.own HR.out.rd (by decide) (by rw [hg, e]))
            have hBW : w.heap.size ≤ W.heap.size := Nat.le_trans HR.out.low.size HO.out.size
            have HRZ : Hid (R3.size < R.size) := by
              show R3.size < R.size
              have h := (oneIn_len HOE.out).1
              rw [← HR3.out, ← HL.out] at h
              simpa using h
            obtain ⟨N, hN⟩ : ∃ N, N = xs.length := ⟨_, rfl⟩
            have hNs : N ≤ 1099511627776 := by have := HR.out.size; simp at this; omega
            have HN : Hid (N = xs.length) := hN
            rw [← hN] at HOW ⊢
            rcases Nat.eq_zero_or_pos xs.length with hz | hpos
            · have hN0 : N = 0 := by omega
              subst hN0
              have HXS : Hid (xs = []) := List.eq_nil_of_length_eq_zero hz
              clear hN hz
              go_quiet ((go_at_call 13; exact Calls.quiet_of_same (err_any _ _ _ he)))
              go_wp2_with (at_builtin; refine wpList_append_own _ rfl (.tmp 54) (.tmp 56) 22 rfl w.heap.size 29 i0 _ 3 40 Tryz.underlying22 hi hz0 hz1 hz2 rfl (by decide) _ _ _ rfl (World.ownsRow.alloc (show (World.drewN W _).ownsRow _ _ _ _ _ _ from HOW.out) _) ⟨W.heap.size, 0, none⟩ 1 1 [.string A, .string V, .bool false] rfl rfl (cell_three_new _ _ _ _ _) (by intro u hu; simp at hu; rcases hu with rfl | rfl | rfl <;> rfl) (by unfold maxLen; omega) (by omega) (by simp; omega) ?_; intro v3 w3 hown3 hgrow3 hnil3)
              obtain ⟨ao3, cv3, hv3, -⟩ := own_slice hown3
              have HW3 : Hid (Round w.heap.size w.heap.size s.data.toList w w3 R3 (xs ++ [⟨A, V, false⟩]) (.slice ao3 (xs ++ [(⟨A, V, false⟩ : BE)]).length cv3)) := by
                refine HR.out.next HL.out HOE.out HR3.out (Or.inl HXS.out) ?_ ?_ ?_
                · exact ((show At (World.drewN W _) _ _ _ from HRd.out).alloc _).grown hgrow3 (fun e => own_ne HOW.out HRd.out (by decide) e.symm)
                · rw [hv3] at hown3
                  have e : (xs ++ [(⟨A, V, false⟩ : BE)]).length = 0 + 1 := by simp; first | exact HXS.out | omega | rw [HN.out]
                  rw [e, ← HN.out]
                  exact hown3
                · exact (HR.out.below ((HO.out.drewN _).alloc _) (Nat.le_refl _) hB1).grown hgrow3 (by simp; omega) (fun k hk => (own_lt HOW.out hk).2)
              clear hown3 hgrow3 hnil3
              go_wp2
              go_roundg R3.size
              case measure => have := HRZ.out; omega
              case rel => exact ⟨R3, xs ++ [⟨A, V, false⟩], ao3, cv3, rfl, by rw [hv3]; congr 1; simp; first | exact HXS.out | omega | rw [HN.out], HW3⟩
            · obtain ⟨l', y, hxs, hy⟩ := last_at hpos
              obtain ⟨g, rfl, hncv, hcvm⟩ : ∃ g, ao = some ⟨g, 0, none⟩ ∧ N ≤ cv ∧ cv ≤ maxLen := by
                obtain ⟨ao', cv', e1, e2⟩ := own_slice HOW.out
                injection e1 with e3 e4 e5
                subst e3; subst e5
                exact e2 (by omega)
              have hky : W.cell? ⟨g, (N - 1) * 3, none⟩ = some (.string y.k) := own_cell HOW.out (by
                have := cellsE_at xs (xs.length - 1) y hy 0 (by decide)
                rw [hN]; exact this)
              have p1 : IntKind.i64.wrap ((N : Int) - 1) = (N : Int) - 1 := by rw [IntKind.wrap_i64]; omega
              have p2 : ((N : Int) - 1).toNat = N - 1 := by omega
              have p3 : (0 : Int) ≤ (N : Int) - 1 := by omega
              have p4 : (1 : Int) ≤ (N : Int) := by omega
              have p5 : 0 < N := by omega
              have HXS : Hid (xs = l' ++ [y]) := hxs
              clear hN hy hxs hpos
              cases hb : Op.bytesLess y.k.toList A.toList with
              | false =>
                have HB : Hid (Op.bytesLess y.k.toList A.toList = false) := hb
                go_quiet ((go_at_call 13; exact Calls.quiet_of_same (err_any _ _ _ he)))
                all_goals (try go_wp2_with fail)
                go_ret2
                exact ⟨end_none (HR.out.lowFail HL.out HOE.out HXS.out HB.out), HR.out.below (HO.out.drewN _) (Nat.le_refl _) hB1⟩
              | true =>
                have HB : Hid (Op.bytesLess y.k.toList A.toList = true) := hb
                go_quiet ((go_at_call 13; exact Calls.quiet_of_same (err_any _ _ _ he)))
                clear hb p1 p2 p3 p4
                go_wp2_with (at_builtin; refine wpList_append_own _ rfl (.tmp 54) (.tmp 56) 22 rfl w.heap.size 29 i0 _ 3 40 Tryz.underlying22 hi hz0 hz1 hz2 rfl (by decide) _ _ _ rfl (World.ownsRow.alloc (show (World.drewN W _).ownsRow _ _ _ _ _ _ from HOW.out) _) ⟨W.heap.size, 0, none⟩ 1 1 [.string A, .string V, .bool false] rfl rfl (cell_three_new _ _ _ _ _) (by intro u hu; simp at hu; rcases hu with rfl | rfl | rfl <;> rfl) (by unfold maxLen; omega) (by omega) (by simp; omega) ?_; intro v3 w3 hown3 hgrow3 hnil3)
                obtain ⟨ao3, cv3, hv3, -⟩ := own_slice hown3
                have HW3 : Hid (Round w.heap.size w.heap.size s.data.toList w w3 R3 (xs ++ [⟨A, V, false⟩]) (.slice ao3 (xs ++ [(⟨A, V, false⟩ : BE)]).length cv3)) := by
                  refine HR.out.next HL.out HOE.out HR3.out (Or.inr ⟨l', y, HXS.out, HB.out⟩) ?_ ?_ ?_
                  · exact ((show At (World.drewN W _) _ _ _ from HRd.out).alloc _).grown hgrow3 (fun e => own_ne HOW.out HRd.out (by decide) e.symm)
                  · rw [hv3] at hown3
                    have e : (xs ++ [(⟨A, V, false⟩ : BE)]).length = N + 1 := by simp; first | exact HXS.out | omega | rw [HN.out]
                    rw [e, ← HN.out]
                    exact hown3
                  · exact (HR.out.below ((HO.out.drewN _).alloc _) (Nat.le_refl _) hB1).grown hgrow3 (by simp; omega) (fun k hk => (own_lt HOW.out hk).2)
                clear hown3 hgrow3 hnil3
                go_wp2
                go_roundg R3.size
                case measure => have := HRZ.out; omega
                case rel => exact ⟨R3, xs ++ [⟨A, V, false⟩], ao3, cv3, rfl, by rw [hv3]; congr 1; simp; first | exact HXS.out | omega | rw [HN.out], HW3⟩
        · by_cases hc2 : c.toNat = 2
          · go_wp2_with fail
            obtain ⟨X, hX⟩ : ∃ X, X = w2.heap.size := ⟨_, rfl⟩
            obtain ⟨V, hV⟩ : ∃ V : ByteArray, V = ⟨#[]⟩ := ⟨_, rfl⟩
            have hAX : At (w2.alloc (.cells #[.string A, .string ⟨#[]⟩, .bool true] 29)) X 29 #[.string A, .string V, .bool true] := by rw [hX, hV]; exact At.new _ _ _
            obtain ⟨W, hW⟩ : ∃ W, W = w2.alloc (.cells #[.string A, .string ⟨#[]⟩, .bool true] 29) := ⟨_, rfl⟩
            have HRd : Hid (Rd W w.heap.size R2 0) := by rw [hW]; exact H2.out.alloc _
            have HO : Hid (Only (· = w.heap.size) wr W) := by rw [hW]; exact O2.out.alloc _
            have HOE : Hid (oneIn (c :: R1.data.toList) = some ((BE.mk A V true).ent, r)) := by
              show oneIn _ = _
              rw [HC2.out hc2, oneIn_gone HT.out, ← HA.out, hV]
              rfl
            rw [← hW] at hAX
            rw [← hX, ← hW]
            have HX : Hid (At W X 29 #[.string A, .string V, .bool true]) := hAX
            clear hX hW hAX hV
            have he := HRd.out.cell 1
            have hx0 : W.cell? ⟨X, 0, none⟩ = some (.string A) := HX.out.cell 0
            have hx1 : W.cell? ⟨X, 1, none⟩ = some (.string V) := HX.out.cell 1
            have hx2 : W.cell? ⟨X, 2, none⟩ = some (.bool true) := HX.out.cell 2
            have HOW : Hid (W.ownsRow w.heap.size 29 3 (.slice ao xs.length cv) xs.length (cellsE xs)) := own_only HR.out.own HO.out (fun g hg e => own_ne HR.out.own HR.out.rd (by decide) (by rw [hg, e]))
            have hBW : w.heap.size ≤ W.heap.size := Nat.le_trans HR.out.low.size HO.out.size
            have HRZ : Hid (R2.size < R.size) := by
              show R2.size < R.size
              have h := (oneIn_len HOE.out).1
              rw [← HR2.out, ← HL.out] at h
              simpa using h
            obtain ⟨N, hN⟩ : ∃ N, N = xs.length := ⟨_, rfl⟩
            have hNs : N ≤ 1099511627776 := by have := HR.out.size; simp at this; omega
            have HN : Hid (N = xs.length) := hN
            rw [← hN] at HOW ⊢
            rcases Nat.eq_zero_or_pos xs.length with hz | hpos
            · have hN0 : N = 0 := by omega
              subst hN0
              have HXS : Hid (xs = []) := List.eq_nil_of_length_eq_zero hz
              clear hN hz
              go_quiet ((go_at_call 13; exact Calls.quiet_of_same (err_any _ _ _ he)))
              go_wp2_with (at_builtin; refine wpList_append_own _ rfl (.tmp 54) (.tmp 56) 22 rfl w.heap.size 29 i0 _ 3 40 Tryz.underlying22 hi hz0 hz1 hz2 rfl (by decide) _ _ _ rfl (World.ownsRow.alloc (show (World.drewN W _).ownsRow _ _ _ _ _ _ from HOW.out) _) ⟨W.heap.size, 0, none⟩ 1 1 [.string A, .string V, .bool true] rfl rfl (cell_three_new _ _ _ _ _) (by intro u hu; simp at hu; rcases hu with rfl | rfl | rfl <;> rfl) (by unfold maxLen; omega) (by omega) (by simp; omega) ?_; intro v3 w3 hown3 hgrow3 hnil3)
              obtain ⟨ao3, cv3, hv3, -⟩ := own_slice hown3
              have HW3 : Hid (Round w.heap.size w.heap.size s.data.toList w w3 R2 (xs ++ [⟨A, V, true⟩]) (.slice ao3 (xs ++ [(⟨A, V, true⟩ : BE)]).length cv3)) := by
                refine HR.out.next HL.out HOE.out HR2.out (Or.inl HXS.out) ?_ ?_ ?_
                · exact ((show At (World.drewN W _) _ _ _ from HRd.out).alloc _).grown hgrow3 (fun e => own_ne HOW.out HRd.out (by decide) e.symm)
                · rw [hv3] at hown3
                  have e : (xs ++ [(⟨A, V, true⟩ : BE)]).length = 0 + 1 := by simp; first | exact HXS.out | omega | rw [HN.out]
                  rw [e, ← HN.out]
                  exact hown3
                · exact (HR.out.below ((HO.out.drewN _).alloc _) (Nat.le_refl _) hB1).grown hgrow3 (by simp; omega) (fun k hk => (own_lt HOW.out hk).2)
              clear hown3 hgrow3 hnil3
              go_wp2
              go_roundg R2.size
              case measure => have := HRZ.out; omega
              case rel => exact ⟨R2, xs ++ [⟨A, V, true⟩], ao3, cv3, rfl, by rw [hv3]; congr 1; simp; first | exact HXS.out | omega | rw [HN.out], HW3⟩
            · obtain ⟨l', y, hxs, hy⟩ := last_at hpos
              obtain ⟨g, rfl, hncv, hcvm⟩ : ∃ g, ao = some ⟨g, 0, none⟩ ∧ N ≤ cv ∧ cv ≤ maxLen := by
                obtain ⟨ao', cv', e1, e2⟩ := own_slice HOW.out
                injection e1 with e3 e4 e5
                subst e3; subst e5
                exact e2 (by omega)
              have hky : W.cell? ⟨g, (N - 1) * 3, none⟩ = some (.string y.k) := own_cell HOW.out (by
                have := cellsE_at xs (xs.length - 1) y hy 0 (by decide)
                rw [hN]; exact this)
              have p1 : IntKind.i64.wrap ((N : Int) - 1) = (N : Int) - 1 := by rw [IntKind.wrap_i64]; omega
              have p2 : ((N : Int) - 1).toNat = N - 1 := by omega
              have p3 : (0 : Int) ≤ (N : Int) - 1 := by omega
              have p4 : (1 : Int) ≤ (N : Int) := by omega
              have p5 : 0 < N := by omega
              have HXS : Hid (xs = l' ++ [y]) := hxs
              clear hN hy hxs hpos
              cases hb : Op.bytesLess y.k.toList A.toList with
              | false =>
                have HB : Hid (Op.bytesLess y.k.toList A.toList = false) := hb
                go_quiet ((go_at_call 13; exact Calls.quiet_of_same (err_any _ _ _ he)))
                all_goals (try go_wp2_with fail)
                go_ret2
                exact ⟨end_none (HR.out.lowFail HL.out HOE.out HXS.out HB.out), HR.out.below (HO.out.drewN _) (Nat.le_refl _) hB1⟩
              | true =>
                have HB : Hid (Op.bytesLess y.k.toList A.toList = true) := hb
                go_quiet ((go_at_call 13; exact Calls.quiet_of_same (err_any _ _ _ he)))
                clear hb p1 p2 p3 p4
                go_wp2_with (at_builtin; refine wpList_append_own _ rfl (.tmp 54) (.tmp 56) 22 rfl w.heap.size 29 i0 _ 3 40 Tryz.underlying22 hi hz0 hz1 hz2 rfl (by decide) _ _ _ rfl (World.ownsRow.alloc (show (World.drewN W _).ownsRow _ _ _ _ _ _ from HOW.out) _) ⟨W.heap.size, 0, none⟩ 1 1 [.string A, .string V, .bool true] rfl rfl (cell_three_new _ _ _ _ _) (by intro u hu; simp at hu; rcases hu with rfl | rfl | rfl <;> rfl) (by unfold maxLen; omega) (by omega) (by simp; omega) ?_; intro v3 w3 hown3 hgrow3 hnil3)
                obtain ⟨ao3, cv3, hv3, -⟩ := own_slice hown3
                have HW3 : Hid (Round w.heap.size w.heap.size s.data.toList w w3 R2 (xs ++ [⟨A, V, true⟩]) (.slice ao3 (xs ++ [(⟨A, V, true⟩ : BE)]).length cv3)) := by
                  refine HR.out.next HL.out HOE.out HR2.out (Or.inr ⟨l', y, HXS.out, HB.out⟩) ?_ ?_ ?_
                  · exact ((show At (World.drewN W _) _ _ _ from HRd.out).alloc _).grown hgrow3 (fun e => own_ne HOW.out HRd.out (by decide) e.symm)
                  · rw [hv3] at hown3
                    have e : (xs ++ [(⟨A, V, true⟩ : BE)]).length = N + 1 := by simp; first | exact HXS.out | omega | rw [HN.out]
                    rw [e, ← HN.out]
                    exact hown3
                  · exact (HR.out.below ((HO.out.drewN _).alloc _) (Nat.le_refl _) hB1).grown hgrow3 (by simp; omega) (fun k hk => (own_lt HOW.out hk).2)
                clear hown3 hgrow3 hnil3
                go_wp2
                go_roundg R2.size
                case measure => have := HRZ.out; omega
                case rel => exact ⟨R2, xs ++ [⟨A, V, true⟩], ao3, cv3, rfl, by rw [hv3]; congr 1; simp; first | exact HXS.out | omega | rw [HN.out], HW3⟩
          · have k1 : ((c.toNat : Int) == 1) = false := by simp; omega
            have k2 : ((c.toNat : Int) == 2) = false := by simp; omega
            have k3 : ((c.toNat : Int) != 1) = true := by simp; omega
            have k4 : ((c.toNat : Int) != 2) = true := by simp; omega
            have he := (H2.out.alloc (.cells #[.string A, .string ⟨#[]⟩, .bool false] 29)).cell 1
            go_wp2_with fail
            go_quiet ((go_at_call 13; exact Calls.quiet_of_same (err_any _ _ _ he)))
            all_goals (try go_wp2_with fail)
            go_ret2
            exact ⟨end_none (HR.out.fail HL.out (oneIn_kind (fun e => hc1 (by rw [e]; rfl)) (fun e => hc2 (by rw [e]; rfl)))), HR.out.below ((O2.out.alloc _).drewN _) (Nat.le_refl _) hB1⟩
    · have hz : R.size = 0 := by omega
      have HZ : Hid (R.data.toList = []) := List.eq_nil_of_length_eq_zero (by simpa using hz)
      go_wp2_with (go_at_call 10; refine (left_q _ R _ HR.out.rd).mono ?_; rintro e w' ⟨rfl, rfl⟩)
      go_ret2
      refine ⟨?_, HR.out.low⟩
      rw [← HR.out.to, HZ.out, ents_nil]
      exact ⟨ao, cv, xs, rfl, rfl, HR.out.own⟩
end Go.Proofs.YtpmildboffolkaaGreat
