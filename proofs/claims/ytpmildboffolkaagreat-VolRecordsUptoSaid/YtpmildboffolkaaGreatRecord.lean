/-
  The function vol.Record returns the entries' bytes, as long as these are at most 2^46.
-/
import Derived.Test.YtpmildboffolkaaGreatTextOut
import Derived.Test.YtpmildboffolkaaGreatLying
set_option linter.unusedVariables false
set_option linter.unusedSimpArgs false
namespace Go.Proofs.YtpmildboffolkaaGreat
open Go.RowKit Go.Proofs.YtpmildboffolkaaGreat.VRec

/-- in a round of vol.Record's second loop: the writer, and the entry's copy at X -/
structure St (B wb m : Nat) (w0 : World) (X : Nat) (x : BE) (w : World) (bs : Bs) : Prop where
  wr : ∃ v, WrT w wb B m v bs
  low : Below B w0 w
  here : At w X 29 #[.string x.k, .string x.v, .bool x.g]
section
variable {B wb m X : Nat} {w0 w : World} {x : BE} {bs : Bs}
theorem St.wrote {v : Value} {cs : Bs} {e : Ending} {w' : World} (h : St B wb m w0 X x w bs) (hv : WrT w wb B m v bs) (hw : Wrote wb B m v w (bs ++ cs) e w') : e = .returned (.tuple #[]) ∧ St B wb m w0 X x w' (bs ++ cs) := by
  obtain ⟨he, v', h1, h2⟩ := hw
  exact ⟨he, ⟨v', h1⟩, h.low.trans (hv.below h2), h2.at h.here (hv.noTurns h.here (by decide) (by decide))⟩
theorem St.u8 (h : St B wb m w0 X x w bs) (c : UInt8) (hm : bs.length + 1 ≤ m) (hM : m ≤ 70368744177664) :
    Calls Tryz.prog 26 #[.pointer (some ⟨wb, 0, none⟩), .int .u8 (c.toNat : Nat)] w fun e w' => e = .returned (.tuple #[]) ∧ St B wb m w0 X x w' (bs ++ [c]) := by
  obtain ⟨v, hv⟩ := h.wr
  exact (u8w_ok wb B m v bs c w hv hm hM).mono fun e w' hw => h.wrote hv hw
theorem St.text (h : St B wb m w0 X x w bs) (s : ByteArray) (hm : bs.length + (text s.data.toList).length ≤ m) (hM : m ≤ 70368744177664) :
    Calls Tryz.prog 27 #[.pointer (some ⟨wb, 0, none⟩), .string s] w fun e w' => e = .returned (.tuple #[]) ∧ St B wb m w0 X x w' (bs ++ text s.data.toList) := by
  obtain ⟨v, hv⟩ := h.wr
  exact (textw_ok wb B m v bs s w hv hm hM).mono fun e w' hw => h.wrote hv hw
end
/-- the second loop, at a round's head -/
structure Rc (B wb m : Nat) (w0 w : World) (bs : Bs) : Prop where
  wr : ∃ v, WrT w wb B m v bs
  low : Below B w0 w
  le : B ≤ w.heap.size
theorem Rc.start {B wb m : Nat} {w0 w : World} {bs : Bs} {x : BE} (h : Rc B wb m w0 w bs) : St B wb m w0 w.heap.size x (w.alloc (.cells #[.string x.k, .string x.v, .bool x.g] 29)) bs := by
  obtain ⟨v, hv⟩ := h.wr
  exact ⟨⟨v, hv.alloc _⟩, h.low.alloc h.le _, At.new _ _ _⟩
theorem St.stop {B wb m X : Nat} {w0 w : World} {x : BE} {bs : Bs} (h : St B wb m w0 X x w bs) : Rc B wb m w0 w bs := by
  obtain ⟨v, hv⟩ := h.wr
  exact ⟨⟨v, hv⟩, h.low, hv.base⟩

set_option maxHeartbeats 4000000 in
set_option maxRecDepth 100000 in
theorem record_ok (w : World) (xs : List BE) (ao : Option Addr) (cv : Nat) (h : Lie w w.heap.size ao xs) (hs : sumOf (xs.map BE.ent) ≤ 70368744177664) :
    Calls Tryz.prog 7 #[.slice ao xs.length cv] w fun e w' => e = .returned (.string ⟨(recOf (xs.map BE.ent)).toArray⟩) ∧ Below w.heap.size w w' := by
  obtain ⟨n, hn⟩ : ∃ n, n = xs.length := ⟨_, rfl⟩
  obtain ⟨m, hm⟩ : ∃ m, m = sumOf (xs.map BE.ent) := ⟨_, rfl⟩
  rw [← hm] at hs
  have hnS : n ≤ 70368744177664 := by
    have : ∀ l : List Ent, l.length ≤ sumOf l := by
      intro l
      induction l with
      | nil => simp [sumOf]
      | cons a l ih => simp [sumOf, mostOf] at ih ⊢; omega
    have := this (xs.map BE.ent)
    rw [List.length_map] at this
    omega
  have HN : Hid (n = xs.length) := hn
  have HM : Hid (m = sumOf (xs.map BE.ent)) := hm
  have HL : Aside (Lie w w.heap.size ao xs) := h
  rw [← hn]
  clear hn h hm
  go_enter Tryz.func7, Tryz.ntmps7
  go_wp2_with fail
  go_loopg [3, 13] n (fun g s3 s13 wx => ∃ (i S : Nat), i + g = n ∧ s3 = .int .i64 S ∧ s13 = .int .i64 i ∧ S ≤ 70368744177664 ∧ Hid (S = sumOf ((xs.take i).map BE.ent) ∧ Below w.heap.size w wx))
  case atStart => exact ⟨0, 0, by omega, rfl, rfl, by decide, rfl, Below.refl _ _⟩
  case round =>
    obtain ⟨i, S, hig, rfl, rfl, hS, HR⟩ := hrel
    by_cases hi : i < n
    · have hiz : (i : Int) < (n : Int) := by omega
      obtain ⟨x, hx⟩ : ∃ x, xs[i]? = some x := ⟨xs[i]'(by rw [← HN.out]; exact hi), List.getElem?_eq_getElem _⟩
      obtain ⟨c, off, rfl, hcB, hce⟩ := HL.out.at' (by rw [← HN.out]; omega)
      obtain ⟨x1, x2, x3⟩ := ((HL.out.below HR.out.2).at' (by rw [← HN.out]; omega)).elim (fun c' h => by
        obtain ⟨off', e, _, h2⟩ := h
        simp at e
        obtain ⟨rfl, rfl⟩ := e
        exact h2 i x hx)
      have hb : S + (x.k.size + x.v.size + 21) ≤ 70368744177664 := by
        have h1 := sum_step hx
        have h2 := sumOf_take_le xs (i + 1)
        have h3 := HM.out
        have h4 := HR.out.1
        omega
      have HX : Hid (xs[i]? = some x) := hx
      clear hce hx
      go_wp2_with fail
      go_roundg (n - (i + 1))
      case measure => omega
      case rel =>
        refine ⟨i + 1, S + (x.k.size + x.v.size + 21), by omega, ?_, by go_num, hb, ?_, ?_⟩
        · go_num
        · rw [sum_step HX.out, ← HR.out.1]
        · exact HR.out.2.alloc HR.out.2.size _
    · have hiz : ¬ (i : Int) < (n : Int) := by omega
      have hin : i = n := by omega
      have hSm : S = m := by
        rw [HR.out.1, HM.out, hin, HN.out, List.take_length]
      subst hSm
      have HB : Hid (Below w.heap.size w wr) := HR.out.2
      clear HR
      go_wp2_with (go_at_call 25; refine (newWriter_any _ _).mono ?_; rintro e w' ⟨rfl, rfl⟩)
      obtain ⟨W1, hW1⟩ : ∃ W1, W1 = wr.alloc (.cells #[.int .i64 S, .slice none 0 0, .bool false] 133) := ⟨_, rfl⟩
      have HW1 : Hid (Rc w.heap.size wr.heap.size S w W1 []) := by
        rw [hW1]
        exact ⟨⟨_, At.new _ _ _, World.ownsRow_nil _ _ _ _, by decide, HB.out.size⟩, HB.out.alloc HB.out.size _, by have := HB.out.size; simp; omega⟩
      obtain ⟨wb, hwb⟩ : ∃ wb, wb = wr.heap.size := ⟨_, rfl⟩
      rw [← hW1, ← hwb]
      rw [← hwb] at HW1
      clear hW1 hwb
      go_loopg [32] n (fun g s32 wx => ∃ (i : Nat), i + g = n ∧ s32 = .int .i64 i ∧ Hid (Rc w.heap.size wb S w wx (recOf ((xs.take i).map BE.ent))))
      case atStart => exact ⟨0, by omega, rfl, HW1.out⟩
      case round =>
        obtain ⟨i, hig, rfl, HR⟩ := hrel
        by_cases hi : i < n
        · have hiz : (i : Int) < (n : Int) := by omega
          obtain ⟨⟨k0, v0, g0⟩, hx⟩ : ∃ x : BE, xs[i]? = some x := ⟨xs[i]'(by rw [← HN.out]; exact hi), List.getElem?_eq_getElem _⟩
          obtain ⟨c, off, rfl, hcB, hce⟩ := HL.out.at' (by rw [← HN.out]; omega)
          obtain ⟨x1, x2, x3⟩ := ((HL.out.below HR.out.low).at' (by rw [← HN.out]; omega)).elim (fun c' h => by
            obtain ⟨off', e, _, h2⟩ := h
            simp at e
            obtain ⟨rfl, rfl⟩ := e
            exact h2 i _ hx)
          have HQ : Hid ((recOf ((xs.take i).map BE.ent)).length + (oneOf (BE.mk k0 v0 g0).ent).length ≤ S) := by
            show _ ≤ S
            rw [HM.out]; exact rec_room hx (by rw [← HM.out]; exact hs)
          obtain ⟨bs, hbs⟩ : ∃ bs, bs = recOf ((xs.take i).map BE.ent) := ⟨_, rfl⟩
          have HE : Hid (recOf ((xs.take (i + 1)).map BE.ent) = bs ++ oneOf (BE.mk k0 v0 g0).ent) := by rw [hbs]; exact rec_step hx
          obtain ⟨X, hX⟩ : ∃ X, X = wr.heap.size := ⟨_, rfl⟩
          have hst := HR.out.start (x := ⟨k0, v0, g0⟩)
          obtain ⟨w2, hw2⟩ : ∃ w2, w2 = wr.alloc (.cells #[.string k0, .string v0, .bool g0] 29) := ⟨_, rfl⟩
          rw [← hX, ← hw2, ← hbs] at hst
          rw [← hbs] at HQ
          have H2 : Hid (St w.heap.size wb S w X ⟨k0, v0, g0⟩ w2 bs) := hst
          have HX2 : Hid (X = wr.heap.size) := hX
          have HW2 : Hid (w2 = wr.alloc (.cells #[.string k0, .string v0, .bool g0] 29)) := hw2
          clear hce hx hst hbs hX hw2
          cases g0 with
          | true =>
            have HQ1 : Hid (bs.length + (1 + (text k0.data.toList).length) ≤ S) := by
              have h := HQ.out
              have e : oneOf (BE.mk k0 v0 true).ent = 2 :: text k0.data.toList := rfl
              rw [e, List.length_cons] at h
              show _ ≤ S
              omega
            go_wp2_with fail
            rw [← HX2.out, ← HW2.out]
            refine Calls.mono (H2.out.u8 2 (by have := HQ1.out; omega) hs) ?_
            rintro e w3 ⟨rfl, h3⟩
            have q0 := h3.here.cell 0
            have H3 : Hid (St w.heap.size wb S w X ⟨k0, v0, true⟩ w3 (bs ++ [2])) := h3
            clear h3
            go_wp2_with fail
            refine Calls.mono (H3.out.text k0 (by have := HQ1.out; simp; omega) hs) ?_
            rintro e w4 ⟨rfl, h4⟩
            have H4 : Hid (Rc w.heap.size wb S w w4 (recOf ((xs.take (i + 1)).map BE.ent))) := by
              have := h4.stop
              rw [List.append_assoc] at this
              rw [HE.out]; exact this
            clear h4 q0
            go_wp2_with fail
            go_roundg (n - (i + 1))
            case measure => omega
            case rel => exact ⟨i + 1, by omega, by go_num, H4.out⟩
          | false =>
            have HQ1 : Hid (bs.length + (1 + (text k0.data.toList).length + (text v0.data.toList).length) ≤ S) := by
              have h := HQ.out
              have e : oneOf (BE.mk k0 v0 false).ent = 1 :: (text k0.data.toList ++ text v0.data.toList) := rfl
              rw [e, List.length_cons, List.length_append] at h
              show _ ≤ S
              omega
            go_wp2_with fail
            rw [← HX2.out, ← HW2.out]
            refine Calls.mono (H2.out.u8 1 (by have := HQ1.out; omega) hs) ?_
            rintro e w3 ⟨rfl, h3⟩
            have q0 := h3.here.cell 0
            have H3 : Hid (St w.heap.size wb S w X ⟨k0, v0, false⟩ w3 (bs ++ [1])) := h3
            clear h3
            go_wp2_with fail
            refine Calls.mono (H3.out.text k0 (by have := HQ1.out; simp; omega) hs) ?_
            rintro e w4 ⟨rfl, h4⟩
            have q1 := h4.here.cell 1
            have H4 : Hid (St w.heap.size wb S w X ⟨k0, v0, false⟩ w4 (bs ++ [1] ++ text k0.data.toList)) := h4
            clear h4 q0
            go_wp2_with fail
            refine Calls.mono (H4.out.text v0 (by have := HQ1.out; simp; omega) hs) ?_
            rintro e w5 ⟨rfl, h5⟩
            have H5 : Hid (Rc w.heap.size wb S w w5 (recOf ((xs.take (i + 1)).map BE.ent))) := by
              have := h5.stop
              rw [List.append_assoc, List.append_assoc] at this
              rw [HE.out]; exact this
            clear h5 q1
            go_wp2_with fail
            go_roundg (n - (i + 1))
            case measure => omega
            case rel => exact ⟨i + 1, by omega, by go_num, H5.out⟩
        · have hiz : ¬ (i : Int) < (n : Int) := by omega
          have hin : i = n := by omega
          have HB2 : Hid (Below w.heap.size w wr) := HR.out.low
          obtain ⟨v, hv⟩ := HR.out.wr
          have HV : Hid (WrT wr wb w.heap.size S v (recOf (xs.map BE.ent))) := by
            have := hv
            rw [hin, HN.out, List.take_length] at this
            exact this
          clear hv HR
          go_wp2_with (go_at_call 28; refine (done_ok wb w.heap.size S v _ _ HV.out).mono ?_; rintro e w' ⟨rfl, rfl⟩)
          go_ret
          exact ⟨rfl, HB2.out⟩
end Go.Proofs.YtpmildboffolkaaGreat
