/-
  Regions whose order the model draws are sound, and so are some functions taken by what they come to; the conditions stand in each theorem.
-/
import Derived.Test.YtpmildboffolkaaGreatAbs4
import Derived.OrdersIn
import Derived.Test.YtpmildboffolkaaGreatAbs1
import Derived.Lib.Bytealg
import Derived.Lib.Overlaps
set_option linter.unusedVariables false
set_option linter.unusedSimpArgs false
namespace Go.Proofs.YtpmildboffolkaaGreat.Abs
variable {P : Program} {ρ : Env} {H : AHeap} {w : World} {K : Hooks} {R : Rec}

/-! ## Regions that draw their order -/
/-- more of the heap than a step speaks of -/
theorem frame_step {ρ' : Env} {A A' G G' : AHeap} {w' : World} (hA : HRel P ρ A w) (hn : G.next = A.next) (hsub : ∀ b e, G.get b = some e → A.get b = some e) (h : Step P ρ G w ρ' G' w') (hn' : A'.next = G'.next)
    (hA' : ∀ b e, A'.get b = some e → G'.get b = some e ∨ (A.get b = some e ∧ G.get b = none ∧ e.lk = none)) : Step P ρ A w ρ' A' w' := by
  -- what is left over is not named
  have over : ∀ b e c, A.get b = some e → G.get b = none → e.lk = none → ρ.blk b = some c → ∀ b0 e0, G.get b0 = some e0 → ρ.blk b0 ≠ some c := by
    intro b e c h1 h2 h3 h4 b0 e0 h5 h6
    rcases hA.sep _ _ _ _ _ h1 (hsub _ _ h5) h4 h6 with e1 | ⟨e1, _⟩
    · subst e1; rw [h2] at h5; cases h5
    · rw [h3] at e1; cases e1
  have extra : ∀ b e, A.get b = some e → G.get b = none → e.lk = none → ∃ c, ρ.blk b = some c ∧ ρ'.blk b = some c ∧ c < w.heap.size ∧ w'.heap[c]? = w.heap[c]? ∧ (∃ o, w.heap[c]? = some o ∧ ORel P ρ b e.obj o) ∧ ∀ b1 e1, G'.get b1 = some e1 → ρ'.blk b1 ≠ some c := by
    intro b e h1 h2 h3
    obtain ⟨c, o, k1, k2, k3⟩ := hA.obj b e h1
    have hlt : c < w.heap.size := (Array.getElem?_eq_some_iff.1 k2).1
    have hov := over b e c h1 h2 h3 k1
    refine ⟨c, k1, (h.le _ _ k1).1, hlt, h.frame c hlt hov, ⟨o, k2, k3⟩, ?_⟩
    intro b1 e1 h5 h6
    obtain ⟨b0, e0, h7, h8⟩ := h.img b1 e1 c h5 h6 hlt
    exact hov b0 e0 h7 h8
  refine ⟨h.le, ⟨?_, ?_, ?_⟩, by rw [hn']; rw [← hn]; exact h.next, ?_, h.size, ?_, ?_, h.same⟩
  · intro b e hb
    rcases hA' b e hb with h1 | ⟨h1, h2, h3⟩
    · exact h.rel.obj b e h1
    · obtain ⟨c, k1, k2, k3, k4, ⟨o, k5, k6⟩, _⟩ := extra b e h1 h2 h3
      exact ⟨c, o, k2, by rw [k4]; exact k5, k6.mono P h.le k1⟩
  · intro b b' e e' c hb hb' hc hc'
    rcases hA' b e hb with h1 | ⟨h1, h2, h3⟩
    · rcases hA' b' e' hb' with g1 | ⟨g1, g2, g3⟩
      · exact h.rel.sep _ _ _ _ _ h1 g1 hc hc'
      · obtain ⟨c', k1, k2, _, _, _, k7⟩ := extra b' e' g1 g2 g3
        rw [hc'] at k2; cases k2
        exact absurd hc (k7 b e h1)
    · obtain ⟨c0, k1, k2, _, _, _, k7⟩ := extra b e h1 h2 h3
      rw [hc] at k2; cases k2
      rcases hA' b' e' hb' with g1 | ⟨g1, g2, g3⟩
      · exact absurd hc' (k7 b' e' g1)
      · obtain ⟨c', j1, j2, _, _, _, _⟩ := extra b' e' g1 g2 g3
        rw [hc'] at j2; cases j2
        exact hA.sep _ _ _ _ _ h1 g1 k1 j1
  · intro b c hc
    rw [hn']; exact h.rel.fresh b c hc
  · intro b c hc
    rw [← hn]; exact h.news b c hc
  · intro r hr hno
    exact h.frame r hr fun b e hb => hno b e (hsub b e hb)
  · intro b e r hb hr hlt
    rcases hA' b e hb with h1 | ⟨h1, h2, h3⟩
    · obtain ⟨b0, e0, k1, k2⟩ := h.img b e r h1 hr hlt
      exact ⟨b0, e0, hsub _ _ k1, k2⟩
    · obtain ⟨c, k1, k2, _⟩ := extra b e h1 h2 h3
      rw [hr] at k2; cases k2
      exact ⟨b, e, h1, k1⟩

theorem HRel.sub {A G : AHeap} (hA : HRel P ρ A w) (hn : G.next = A.next) (hsub : ∀ b e, G.get b = some e → A.get b = some e) : HRel P ρ G w :=
  ⟨fun b e h => hA.obj b e (hsub b e h), fun b b' e e' c h h' => hA.sep b b' e e' c (hsub b e h) (hsub b' e' h'), fun b c h => by rw [hn]; exact hA.fresh b c h⟩

theorem ACap.beq_eq {a b : ACap} (h : a.beq b = true) : a = b := by
  cases a <;> cases b <;> simp [ACap.beq] at h <;> rw [h]

mutual
theorem AV.beq_eq : ∀ {a b : AV}, a.beq b = true → a = b
  | .bool a, b, h => by
    cases b <;> simp [AV.beq] at h
    rename_i b; cases a <;> cases b <;> simp_all
  | .int k n, b, h => by
    cases b <;> simp [AV.beq] at h
    obtain ⟨h1, h2⟩ := h
    rw [beqI_eq] at h2
    rw [beqK_eq h1, eq_of_beq h2]
  | .str l n, b, h => by cases b <;> simp [AV.beq] at h; rw [h.1, h.2]
  | .nilp, b, h => by cases b <;> simp [AV.beq] at h; rfl
  | .nils, b, h => by cases b <;> simp [AV.beq] at h; rfl
  | .nilm, b, h => by cases b <;> simp [AV.beq] at h; rfl
  | .nilf, b, h => by cases b <;> simp [AV.beq] at h; rfl
  | .nili, b, h => by cases b <;> simp [AV.beq] at h; rfl
  | .ptr _ _, b, h => by cases b <;> simp [AV.beq] at h; rw [h.1, h.2]
  | .slice _ _ _ _, b, h => by
    cases b <;> simp [AV.beq] at h
    obtain ⟨⟨h1, h2⟩, h3, h4⟩ := h
    rw [h1, h2, h3, ACap.beq_eq h4]
  | .send _ _ _ _ _, b, h => by
    cases b <;> simp [AV.beq] at h
    obtain ⟨⟨h1, h2⟩, h3, h4, h5⟩ := h
    rw [h1, h2, h3, h4, h5]
  | .map _, b, h => by cases b <;> simp [AV.beq] at h; rw [h]
  | .yield _, b, h => by cases b <;> simp [AV.beq] at h; rw [h]
  | .iface _ v, b, h => by
    cases b <;> simp [AV.beq] at h
    rw [h.1, AV.beq_eq h.2]
  | .func _ a c, b, h => by
    cases b <;> simp [AV.beq] at h
    rw [h.1, AV.beqL_eq h.2.1, AV.beqL_eq h.2.2]
  | .agg l, b, h => by
    cases b <;> simp [AV.beq] at h
    rw [AV.beqL_eq h]
  | .tuple l, b, h => by
    cases b <;> simp [AV.beq] at h
    rw [AV.beqL_eq h]
theorem AV.beqL_eq : ∀ {l r : List AV}, AV.beqL l r = true → l = r
  | [], [], _ => rfl
  | [], _ :: _, h => by simp [AV.beqL] at h
  | _ :: _, [], h => by simp [AV.beqL] at h
  | a :: l, b :: r, h => by
    simp [AV.beqL] at h
    rw [AV.beq_eq h.1, AV.beqL_eq h.2]
end

/-- an operation that looks at no heap -/
theorem pure_indep {ops : List Oper} {i : Nat} {T : Tr AV} {vs : List AV} {o : Oper} (hk : kindOf P o = 0) (H H' : AHeap) : (readC P ops i o).run T vs H = (readC P ops i o).run T vs H' := by
  unfold readC
  unfold kindOf at hk
  cases hop : o.op <;> rw [hop] at hk <;> simp only [] at hk ⊢ <;> first | rfl | (cases hk; done) | skip
  case binOp op t x y _ =>
    have hko : opKind P t = 0 ∨ opKind P t = 1 := by
      split at hk
      · exact .inl (by assumption)
      · exact .inr (by assumption)
      · cases hk
    simp only [biH]
    split
    · split
      · unfold binOpC
        rcases hko with h0 | h0
        · rw [h0]; simp only []
          split <;> rfl
        · rw [h0]
          rfl
      · rfl
    · rfl
  case convert src dst x =>
    split
    · rename_i hs
      split at hk
      · cases hk
      · simp [hs] at hk
    · rfl
  case makeInterface t x =>
    split <;> rfl
  case makeFunc fn f c =>
    cases fn <;> rfl
  case call c =>
    split <;> rename_i hc <;> (try simp only [hc] at hk) <;> first | (cases hk; done) | rfl | skip
    all_goals (split <;> rfl)
end Go.Proofs.YtpmildboffolkaaGreat.Abs

namespace Go.Proofs.YtpmildboffolkaaGreat.Abs

/-! ### Who must have been -/
theorem maskOf_bit (ms : List Nat) (x : Nat) : ∀ (l : List Nat) (acc : Nat), Nat.testBit (maskOf ms l acc) x = true ↔ Nat.testBit acc x = true ∨ ∃ e ∈ l, x = e ∨ Nat.testBit (ms.getD e 0) x = true
  | [], acc => by simp [maskOf]
  | e :: l, acc => by
    simp only [maskOf]
    rw [maskOf_bit ms x l]
    have h1 : Nat.testBit (Nat.lor acc (Nat.lor (Nat.pow 2 e) (ms.getD e 0))) x = (Nat.testBit acc x || (Nat.testBit (2 ^ e) x || Nat.testBit (ms.getD e 0) x)) := by
      show Nat.testBit (acc ||| (2 ^ e ||| ms.getD e 0)) x = _
      rw [Nat.testBit_or, Nat.testBit_or]
    rw [h1]
    simp only [Bool.or_eq_true, Nat.testBit_two_pow, decide_eq_true_eq, List.mem_cons]
    constructor
    · rintro ((h | h | h) | ⟨e', h, k⟩)
      · exact .inl h
      · exact .inr ⟨e, .inl rfl, .inl h.symm⟩
      · exact .inr ⟨e, .inl rfl, .inr h⟩
      · exact .inr ⟨e', .inr h, k⟩
    · rintro (h | ⟨e', h | h, k⟩)
      · exact .inl (.inl h)
      · subst h
        rcases k with k | k
        · exact .inl (.inr (.inl k.symm))
        · exact .inl (.inr (.inr k))
      · exact .inr ⟨e', h, k⟩

theorem masksF_length : ∀ (os : List Oper) (ms : List Nat), (masksF os ms).length = ms.length + os.length
  | [], ms => by simp [masksF]
  | o :: os, ms => by simp only [masksF]; rw [masksF_length os]; simp; omega

theorem masksF_old : ∀ (os : List Oper) (ms : List Nat) (j : Nat), j < ms.length → (masksF os ms).getD j 0 = ms.getD j 0
  | [], ms, j, _ => rfl
  | o :: os, ms, j, h => by
    simp only [masksF]
    rw [masksF_old os _ j (by simp; omega)]
    simp [List.getD_eq_getElem?_getD, List.getElem?_append_left h]

theorem masksF_new : ∀ (os : List Oper) (ms : List Nat) (t : Nat) (o : Oper), os[t]? = some o → (∀ e ∈ edgesOf o, e < ms.length + t) → ∀ x, Nat.testBit ((masksF os ms).getD (ms.length + t) 0) x = true ↔
    ∃ e ∈ edgesOf o, x = e ∨ Nat.testBit ((masksF os ms).getD e 0) x = true
  | [], ms, t, o, h, _, x => by simp at h
  | o' :: os, ms, 0, o, h, he, x => by
    simp at h; subst h
    simp only [masksF, Nat.add_zero]
    have hl : ms.length < (ms ++ [maskOf ms (edgesOf o') 0]).length := by simp
    rw [masksF_old os _ ms.length hl]
    have e1 : (ms ++ [maskOf ms (edgesOf o') 0]).getD ms.length 0 = maskOf ms (edgesOf o') 0 := by simp [List.getD_eq_getElem?_getD]
    rw [e1, maskOf_bit]
    simp only [Nat.zero_testBit, Bool.false_eq_true, false_or]
    constructor
    · rintro ⟨e, h1, h2⟩
      refine ⟨e, h1, ?_⟩
      have hlt : e < ms.length := by simpa using he e h1
      rw [masksF_old os _ e (by simp; omega)]
      simpa [List.getD_eq_getElem?_getD, List.getElem?_append_left hlt] using h2
    · rintro ⟨e, h1, h2⟩
      refine ⟨e, h1, ?_⟩
      have hlt : e < ms.length := by simpa using he e h1
      rw [masksF_old os _ e (by simp; omega)] at h2
      simpa [List.getD_eq_getElem?_getD, List.getElem?_append_left hlt] using h2
  | o' :: os, ms, t + 1, o, h, he, x => by
    simp only [masksF]
    have hlen : (ms ++ [maskOf ms (edgesOf o') 0]).length + t = ms.length + (t + 1) := by simp; omega
    have := masksF_new os (ms ++ [maskOf ms (edgesOf o') 0]) t o (by simpa using h) (fun e h1 => by rw [hlen]; exact he e h1) x
    rw [hlen] at this
    exact this

def maskAt (ops : List Oper) (j : Nat) : Nat := (masks ops).getD j 0

theorem opsOk_edge {ms : List Nat} {ops : List Oper} : ∀ {os : List Oper} {i t : Nat} {o : Oper}, opsOk ms ops os i = true → os[t]? = some o → (∀ e ∈ edgesOf o, e < i + t) ∧ (∀ t' ∈ opSlots o, slotOk ms (i + t) t' ops 0 = true) ∧ guardOk ms (i + t) o = true
  | [], i, t, o, _, h => by simp at h
  | o' :: os, i, 0, o, hk, h => by
    simp at h; subst h
    simp only [opsOk, Bool.and_eq_true] at hk
    have all : ∀ {α : Type} (f : α → Bool) (l : List α), allB f l = true → ∀ x ∈ l, f x = true := by
      intro α f l
      induction l with
      | nil => intro _ x hx; cases hx
      | cons y l ih =>
        intro h x hx
        simp only [allB, Bool.and_eq_true] at h
        rcases List.mem_cons.1 hx with rfl | hx
        · exact h.1
        · exact ih h.2 x hx
    refine ⟨fun e he => ?_, fun t' ht' => ?_, hk.1.2.2⟩
    · have := all _ _ hk.1.1 e he
      simpa [Nat.blt_eq] using this
    · exact all _ _ hk.1.2.1 t' ht'
  | o' :: os, i, t + 1, o, hk, h => by
    simp only [opsOk, Bool.and_eq_true] at hk
    have := opsOk_edge hk.2 (show os[t]? = some o by simpa using h)
    have e : i + 1 + t = i + (t + 1) := by omega
    rw [e] at this
    exact this

section
variable {ops : List Oper}

theorem drawOk_parts (hok : drawOk ops = true) : opsOk (masks ops) ops ops 0 = true ∧ distinct (dsts ops) = true := by
  simpa [drawOk, Bool.and_eq_true] using hok

theorem edge_lt (hok : drawOk ops = true) {j e : Nat} {o : Oper} (ho : ops[j]? = some o) (he : e ∈ edgesOf o) : e < j := by
  have := (opsOk_edge (drawOk_parts hok).1 ho).1 e he
  omega

theorem mask_bit (hok : drawOk ops = true) {j x : Nat} {o : Oper} (ho : ops[j]? = some o) : Nat.testBit (maskAt ops j) x = true ↔ ∃ e ∈ edgesOf o, x = e ∨ Nat.testBit (maskAt ops e) x = true := by
  have := masksF_new ops [] j o ho (fun e he => by simpa using edge_lt hok ho he) x
  simpa [maskAt, masks] using this

theorem mask_lt (hok : drawOk ops = true) : ∀ {j x : Nat}, Nat.testBit (maskAt ops j) x = true → x < j ∧ j < ops.length := by
  intro j
  induction j using Nat.strongRecOn with
  | ind j ih =>
    intro x hx
    cases ho : ops[j]? with
    | none =>
      have hl : ops.length ≤ j := List.getElem?_eq_none_iff.1 ho
      have : (masks ops).getD j 0 = 0 := by
        simp only [masks, List.getD_eq_getElem?_getD]
        rw [List.getElem?_eq_none (by rw [masksF_length]; simpa using hl)]
        rfl
      rw [maskAt, this] at hx; simp at hx
    | some o =>
      have hj : j < ops.length := (List.getElem?_eq_some_iff.1 ho).1
      obtain ⟨e, he, h⟩ := (mask_bit hok ho).1 hx
      have hlt := edge_lt hok ho he
      rcases h with rfl | h
      · exact ⟨hlt, hj⟩
      · have := ih e hlt h
        exact ⟨by omega, hj⟩

theorem mask_trans (hok : drawOk ops = true) : ∀ {j e x : Nat}, Nat.testBit (maskAt ops j) e = true → Nat.testBit (maskAt ops e) x = true → Nat.testBit (maskAt ops j) x = true := by
  intro j
  induction j using Nat.strongRecOn with
  | ind j ih =>
    intro e x he hx
    have hj := (mask_lt hok he).2
    obtain ⟨o, ho⟩ : ∃ o, ops[j]? = some o := ⟨ops[j], by simp [hj]⟩
    obtain ⟨d, hd, h⟩ := (mask_bit hok ho).1 he
    have hlt := edge_lt hok ho hd
    rcases h with rfl | h
    · exact (mask_bit hok ho).2 ⟨e, hd, .inr hx⟩
    · exact (mask_bit hok ho).2 ⟨d, hd, .inr (ih d hlt h hx)⟩

theorem slot_apart (hok : drawOk ops = true) {j k t : Nat} {o o' : Oper} (ho : ops[j]? = some o) (ht : t ∈ opSlots o) (ho' : ops[k]? = some o') (hd : o'.dst = some t) (hne : k ≠ j) : Nat.testBit (maskAt ops j) k = true ∨ Nat.testBit (maskAt ops k) j = true := by
  have h1 := (opsOk_edge (drawOk_parts hok).1 ho).2.1 t ht
  simp only [Nat.zero_add] at h1
  have gen : ∀ (os : List Oper) (b i : Nat) (q : Oper), slotOk (masks ops) j t os b = true → os[i]? = some q → q.dst = some t → b + i ≠ j → Nat.testBit (maskAt ops j) (b + i) = true ∨ Nat.testBit (maskAt ops (b + i)) j = true := by
    intro os
    induction os with
    | nil => intro b i q _ h; simp at h
    | cons q' os ih =>
      intro b i q hs hq hqd hbi
      simp only [slotOk, Bool.and_eq_true] at hs
      cases i with
      | zero =>
        simp at hq; subst hq
        have hb : Nat.beq b j = false := by rw [Bool.eq_false_iff]; intro hb; exact hbi (by simpa using Nat.eq_of_beq_eq_true hb)
        have ho1 : optBeq q'.dst (some t) = true := optBeq_eq.2 hqd
        have := hs.1
        rw [ho1, hb] at this
        simpa [maskAt] using this
      | succ i =>
        have := ih (b + 1) i q hs.2 (by simpa using hq) hqd (by omega)
        have e : b + 1 + i = b + (i + 1) := by omega
        rw [e] at this
        exact this
  simpa using gen ops 0 k o' h1 ho' hd (by simpa using hne)

theorem guard_in (hok : drawOk ops = true) {j k : Nat} {want : Bool} {o : Oper} (ho : ops[j]? = some o) (hg : o.guard = some (k, want)) : Nat.testBit (maskAt ops j) k = true := by
  have := (opsOk_edge (drawOk_parts hok).1 ho).2.2
  simp only [Nat.zero_add] at this
  simpa [guardOk, hg, maskAt] using this
end
end Go.Proofs.YtpmildboffolkaaGreat.Abs

namespace Go.Proofs.YtpmildboffolkaaGreat.Abs
variable {P : Program} {K : Hooks} {R : Rec}

/-! ### What a run in the order of the text shows -/
def stH (s : DSt) (k : Nat) : AHeap := match s.past.reverse[k]? with | some p => p.H | none => s.H
def stL (s : DSt) (k : Nat) : Nat := match s.past.reverse[k]? with | some p => p.laid | none => s.laid

section
variable (P K R) (ops : List Oper) (base : Nat) (T : Tr AV)

def ReadOk (s' : DSt) (j : Nat) (o : Oper) (vs : List AV) (v : AV) : Prop :=
  ∀ k, k ≤ s'.past.length → (∀ k' p, k' < k → s'.past.reverse[k']? = some p → Nat.testBit (maskAt ops p.i) j = false) → (∀ k' p, k ≤ k' → s'.past.reverse[k']? = some p → Nat.testBit (maskAt ops j) p.i = false) →
    ∃ nw, (∀ p ∈ nw, p ∈ s'.news) ∧ (readC P ops j o).run T vs (layM base (maskAt ops j) (stL s' k) nw (stH s' k)) = some v

structure KindFact (s' : DSt) (j : Nat) (o : Oper) (vs : List AV) (v : AV) : Prop where
  pure : kindOf P o = 0 → ∀ H, (readC P ops j o).run T vs H = some v
  read : kindOf P o = 1 → ReadOk P ops base T s' j o vs v
  new : kindOf P o = 2 → ∃ obj, (newC P ops j o).run T vs (base + j) = some (v, obj) ∧ (⟨j, obj⟩ : Pend) ∈ s'.news
  eff : kindOf P o ≠ 0 → kindOf P o ≠ 1 → kindOf P o ≠ 2 → ∃ k p, s'.past.reverse[k]? = some p ∧ p.i = j ∧ (∀ p0, k ≠ 0 → s'.past.reverse[k - 1]? = some p0 → Nat.testBit (maskAt ops j) p0.i = true) ∧ stL s' (k + 1) = p.laid ||| maskAt ops j ∧
    ∃ nw, (∀ p ∈ nw, p ∈ s'.news) ∧ (effC P K ops j o).run T vs R (layM base (maskAt ops j) p.laid nw p.H) = .ok v (stH s' (k + 1))

def OpFact (s' : DSt) (j : Nat) (o : Oper) : Prop :=
  ∃ b, (guardC ops j o).run (s'.vs.drop (ops.length - j)) = some b ∧ (b = false → s'.vs[ops.length - 1 - j]? = some AV.undef) ∧
    (b = true → ∃ v, s'.vs[ops.length - 1 - j]? = some v ∧ KindFact P K R ops base T s' j o (s'.vs.drop (ops.length - j)) v)

def SeenFut (s s' : DSt) : Prop :=
  ∀ sn ∈ s.seen, ∀ k, s.past.length < k → k ≤ s'.past.length → (∀ k' p, s.past.length ≤ k' → k' < k → s'.past.reverse[k']? = some p → Nat.testBit (maskAt ops p.i) sn.i = false) →
    ∃ nw, (∀ p ∈ nw, p ∈ s'.news) ∧ (readAt P ops sn.i).run T sn.vs (layM base sn.mask (stL s' k) nw (stH s' k)) = some sn.v

structure Ext (s s' : DSt) (i : Nat) : Prop where
  vs : ∃ l, s'.vs = l ++ s.vs ∧ l.length = ops.length - i
  past : ∃ l, s'.past = l ++ s.past ∧ ∀ p ∈ l, i ≤ p.i ∧ ∃ o, ops[p.i]? = some o ∧ kindOf P o ≠ 0 ∧ kindOf P o ≠ 1 ∧ kindOf P o ≠ 2 ∧ (guardC ops p.i o).run (s'.vs.drop (ops.length - p.i)) = some true
  pastOne : ∃ l, s'.past = l ++ s.past ∧ (∀ p ∈ l, i ≤ p.i) ∧ l.Pairwise (fun p q => q.i < p.i)
  news : ∃ l, s'.news = l ++ s.news ∧ (∀ p ∈ l, i ≤ p.i ∧ ∃ o, ops[p.i]? = some o ∧ kindOf P o = 2 ∧ (guardC ops p.i o).run (s'.vs.drop (ops.length - p.i)) = some true) ∧ (∀ p ∈ l, ∀ q ∈ l, p.i = q.i → p = q)
  heap : stH s' s.past.length = s.H
  laid : stL s' s.past.length = s.laid
  seen : SeenFut P ops base T s s'
end

variable {ops : List Oper} {base : Nat} {T : Tr AV}

theorem pastSame_get {rd : Ev (AHeap → Option AV)} {mask : Nat} {news : List Pend} {vs : List AV} {v : AV} : ∀ {past : List Past}, pastSame rd T base mask news vs v past = true → ∀ (q : Nat) (p : Past), past[q]? = some p →
    (∀ (q' : Nat) (p' : Past), q' ≤ q → past[q']? = some p' → Nat.testBit mask p'.i = false) → rd.run T vs (layM base mask p.laid news p.H) = some v
  | [], _, q, p, h, _ => by simp at h
  | p0 :: r, hs, q, p, h, hno => by
    simp only [pastSame] at hs
    split at hs
    · rename_i hm
      have := hno 0 p0 (by omega) (by simp)
      rw [this] at hm; cases hm
    · split at hs
      · rename_i v' hv'
        simp only [Bool.and_eq_true] at hs
        cases q with
        | zero =>
          simp at h; subst h
          rw [hv', AV.beq_eq hs.1]
        | succ q =>
          exact pastSame_get hs.2 q p (by simpa using h) (fun q' p' hq' hp' => hno (q' + 1) p' (by omega) (by simpa using hp'))
      · cases hs

theorem seenStay_get {rd : Nat → Ev (AHeap → Option AV)} {mask laid : Nat} {news : List Pend} {H : AHeap} : ∀ {seen seen' : List Seen}, seenStay rd T base mask laid news H seen = some seen' → ∀ sn ∈ seen, Nat.testBit mask sn.i = false →
    sn ∈ seen' ∧ (rd sn.i).run T sn.vs (layM base sn.mask laid news H) = some sn.v
  | [], _, _, sn, h, _ => by cases h
  | s0 :: r, seen', hs, sn, h, hm => by
    simp only [seenStay] at hs
    split at hs
    · cases hs
    · rename_i r' hr
      split at hs
      · rename_i hb
        cases hs
        rcases List.mem_cons.1 h with rfl | h
        · rw [hm] at hb; cases hb
        · exact seenStay_get hr sn h hm
      · split at hs
        · rename_i v' hv'
          split at hs
          · rename_i hb
            cases hs
            rcases List.mem_cons.1 h with rfl | h
            · exact ⟨List.mem_cons_self .., by rw [hv', AV.beq_eq hb]⟩
            · obtain ⟨h1, h2⟩ := seenStay_get hr sn h hm
              exact ⟨List.mem_cons_of_mem _ h1, h2⟩
          · cases hs
        · cases hs

theorem vs_tail {l vs : List AV} {n i : Nat} (hl : l.length = n - i) : (l ++ vs).drop (n - i) = vs := by
  rw [← hl]; simp
theorem vs_at {l vs : List AV} {v : AV} {n i : Nat} (hi : i < n) (hl : l.length = n - (i + 1)) : (l ++ v :: vs)[n - 1 - i]? = some v := by
  have : n - 1 - i = l.length := by omega
  rw [this]; simp

theorem rev_at {l past : List Past} {p : Past} : (l ++ p :: past).reverse[past.length]? = some p := by
  simp

theorem rev_old {l past : List Past} {k : Nat} (h : k < past.length) : (l ++ past).reverse[k]? = past[past.length - 1 - k]? := by
  rw [List.reverse_append, List.getElem?_append_left (by simpa using h), List.getElem?_reverse h]

/-- what a step that is no effect leaves -/
theorem Ext.calm {s s1 s' : DSt} {i : Nat} {v : AV} (hi : i < ops.length) (h : Ext P ops base T s1 s' (i + 1)) (hvs : s1.vs = v :: s.vs) (hp : s1.past = s.past) (hH : s1.H = s.H) (hL : s1.laid = s.laid)
    (hn : s1.news = s.news ∨ ∃ p o, s1.news = p :: s.news ∧ p.i = i ∧ ops[i]? = some o ∧ kindOf P o = 2 ∧ (guardC ops i o).run s.vs = some true) (hs : ∀ sn ∈ s.seen, sn ∈ s1.seen) :
    Ext P ops base T s s' i ∧ s'.vs.drop (ops.length - i) = s.vs ∧ s'.vs[ops.length - 1 - i]? = some v := by
  obtain ⟨l, h1, h2⟩ := h.vs
  have hl1 : s'.vs = (l ++ [v]) ++ s.vs := by rw [h1, hvs]; simp
  have hl2 : (l ++ [v]).length = ops.length - i := by simp; omega
  have hdrop : s'.vs.drop (ops.length - i) = s.vs := by rw [hl1]; exact vs_tail hl2
  refine ⟨⟨⟨_, hl1, hl2⟩, ?_, (by obtain ⟨lp, p1, p2, p3⟩ := h.pastOne; exact ⟨lp, by rw [p1, hp], fun p hpm => by have := p2 p hpm; omega, p3⟩), ?_, by rw [← hp, ← hH]; exact h.heap, by rw [← hp, ← hL]; exact h.laid, ?_⟩, hdrop, by rw [h1, hvs]; exact vs_at hi h2⟩
  · obtain ⟨lp, p1, p2⟩ := h.past
    exact ⟨lp, by rw [p1, hp], fun p hpm => ⟨by have := (p2 p hpm).1; omega, (p2 p hpm).2⟩⟩
  · obtain ⟨ln, n1, n2, n3⟩ := h.news
    rcases hn with hn | ⟨p, o, hn, hpi, ho, hk, hg⟩
    · exact ⟨ln, by rw [n1, hn], fun q hq => ⟨by have := (n2 q hq).1; omega, (n2 q hq).2⟩, n3⟩
    · refine ⟨ln ++ [p], by rw [n1, hn]; simp, ?_, ?_⟩
      · intro q hq
        rcases List.mem_append.1 hq with hq | hq
        · exact ⟨by have := (n2 q hq).1; omega, (n2 q hq).2⟩
        · simp at hq; subst hq
          exact ⟨by omega, o, by rw [hpi]; exact ho, hk, by rw [hpi, hdrop]; exact hg⟩
      · intro q hq q' hq' e
        rcases List.mem_append.1 hq with hq1 | hq1 <;> rcases List.mem_append.1 hq' with hq2 | hq2
        · exact n3 q hq1 q' hq2 e
        · have h1 := (n2 q hq1).1
          have h2 : q' = p := by simpa using hq2
          rw [h2] at e; omega
        · have h1 := (n2 q' hq2).1
          have h2 : q = p := by simpa using hq1
          rw [h2] at e; omega
        · have h1 : q = p := by simpa using hq1
          have h2 : q' = p := by simpa using hq2
          rw [h1, h2]
  · intro sn hsn k hk1 hk2 hk3
    exact h.seen sn (hs sn hsn) k (by rw [hp]; exact hk1) hk2 (fun k' p a b c => hk3 k' p (by rw [← hp]; exact a) b c)

theorem draw_facts (hok : drawOk ops = true) : ∀ (rest : List Oper) (i : Nat) (ms : List Nat) (s s' : DSt), (drawC P K ops rest ms i).run R base T s = some s' → ops.drop i = rest → ms = (masks ops).drop i → i + rest.length = ops.length → s.vs.length = i →
    Ext P ops base T s s' i ∧ ∀ j o, i ≤ j → ops[j]? = some o → OpFact P K R ops base T s' j o := by
  intro rest
  induction rest with
  | nil =>
    intro i ms s s' h _ _ hi _
    have hi' : i = ops.length := by simpa using hi
    have h' : s = s' := by simpa [drawC] using h
    subst h'
    refine ⟨⟨⟨[], rfl, by simp [hi']⟩, ⟨[], rfl, fun p hp => (by cases hp)⟩, ⟨[], rfl, fun p hp => (by cases hp), List.Pairwise.nil⟩, ⟨[], rfl, fun p hp => (by cases hp), fun p hp => (by cases hp)⟩, ?_, ?_, ?_⟩, ?_⟩
    · simp [stH]
    · simp [stL]
    · intro sn _ k h1 h2; omega
    · intro j o hj ho
      have := (List.getElem?_eq_some_iff.1 ho).1
      omega
  | cons o rest ih =>
    intro i ms s s' h hdrop hms hi hvs
    have ho : ops[i]? = some o := by
      have : (ops.drop i)[0]? = some o := by rw [hdrop]; rfl
      simpa using this
    have hdrop' : ops.drop (i + 1) = rest := by
      have : (ops.drop i).drop 1 = rest := by rw [hdrop]; rfl
      rwa [List.drop_drop] at this
    have hlt : i < ops.length := (List.getElem?_eq_some_iff.1 ho).1
    have hml : (masks ops).length = ops.length := by simp [masks, masksF_length]
    have hms' : ms = maskAt ops i :: (masks ops).drop (i + 1) := by
      rw [hms, List.drop_eq_getElem_cons (by omega)]
      congr 1
      simp [maskAt, List.getD_eq_getElem?_getD, hml, hlt]
    rw [hms'] at h
    simp only [drawC] at h
    have more : ∀ s1, (drawC P K ops rest ((masks ops).drop (i + 1)) (i + 1)).run R base T s1 = some s' → s1.vs.length = i + 1 → Ext P ops base T s1 s' (i + 1) ∧ ∀ j o, i + 1 ≤ j → ops[j]? = some o → OpFact P K R ops base T s' j o :=
      fun s1 h1 h2 => ih (i + 1) _ s1 s' h1 hdrop' rfl (by simp at hi; omega) h2
    have join : (∀ j o, i + 1 ≤ j → ops[j]? = some o → OpFact P K R ops base T s' j o) → OpFact P K R ops base T s' i o → ∀ j o, i ≤ j → ops[j]? = some o → OpFact P K R ops base T s' j o := by
      intro h1 h2 j o' hj ho'
      by_cases e : j = i
      · subst e; rw [ho] at ho'; cases ho'; exact h2
      · exact h1 j o' (by omega) ho'
    have hgo : (guardC ops i o).run s.vs = some true → (drawOpC P K ops i (maskAt ops i) o (drawC P K ops rest ((masks ops).drop (i + 1)) (i + 1))).run R base T s = some s' →
        Ext P ops base T s s' i ∧ ∀ j o, i ≤ j → ops[j]? = some o → OpFact P K R ops base T s' j o := by
      intro hg h
      unfold drawOpC at h
      split at h
      · rename_i hk
        simp only [] at h
        unfold drawVal at h
        split at h
        · rename_i v hv
          obtain ⟨e1, f1⟩ := more _ h (by simp [hvs])
          obtain ⟨e2, d1, d2⟩ := e1.calm (s := s) hlt rfl rfl rfl rfl (.inl rfl) (fun sn h => h)
          refine ⟨e2, join f1 ⟨true, by rw [d1]; exact hg, fun hb => (by cases hb), fun _ => ⟨v, d2, ?_⟩⟩⟩
          rw [d1]
          exact ⟨fun _ H' => by rw [pure_indep hk H' s.H]; exact hv, fun h1 => by omega, fun h1 => by omega, fun h1 => absurd hk h1⟩
        · cases h
      · rename_i hk
        simp only [] at h
        unfold drawRead at h
        split at h
        · rename_i v hv
          split at h
          · rename_i hps
            obtain ⟨e1, f1⟩ := more _ h (by simp [hvs])
            obtain ⟨e2, d1, d2⟩ := e1.calm (s := s) hlt rfl rfl rfl rfl (.inl rfl) (fun sn h => List.mem_cons_of_mem _ h)
            refine ⟨e2, join f1 ⟨true, by rw [d1]; exact hg, fun hb => (by cases hb), fun _ => ⟨v, d2, ?_⟩⟩⟩
            rw [d1]
            refine ⟨fun h1 => by omega, fun _ => ?_, fun h1 => by omega, fun _ h1 => absurd hk h1⟩
            obtain ⟨lp, hp, _⟩ := e2.past
            obtain ⟨ln, hn, _⟩ := e2.news
            have hnews : ∀ p ∈ s.news, p ∈ s'.news := fun p hp => by rw [hn]; exact List.mem_append_right _ hp
            intro k hk1 hk2 hk3
            by_cases c1 : k < s.past.length
            · have hrev : s'.past.reverse[k]? = s.past[s.past.length - 1 - k]? := by rw [hp]; exact rev_old c1
              obtain ⟨p, hpp⟩ : ∃ p, s.past[s.past.length - 1 - k]? = some p := ⟨s.past[s.past.length - 1 - k], by rw [List.getElem?_eq_getElem]⟩
              refine ⟨s.news, hnews, ?_⟩
              have := pastSame_get hps (s.past.length - 1 - k) p hpp (fun q' p' hq' hp' => by
                have hq : q' < s.past.length := (List.getElem?_eq_some_iff.1 hp').1
                refine hk3 (s.past.length - 1 - q') p' (by omega) ?_
                rw [hp, rev_old (by omega)]
                have : s.past.length - 1 - (s.past.length - 1 - q') = q' := by omega
                rw [this]; exact hp')
              simp only [stH, stL, hrev, hpp]
              exact this
            · by_cases c2 : k = s.past.length
              · subst c2
                refine ⟨s.news, hnews, ?_⟩
                rw [e2.heap, e2.laid]
                exact hv
              · have := e1.seen ⟨i, maskAt ops i, s.vs, v⟩ (List.mem_cons_self ..) k (by show s.past.length < k; omega) hk1 (fun k' p _ h2 h3 => hk2 k' p h2 h3)
                simpa [readAt, ho] using this
          · cases h
        · cases h
      · rename_i hk
        simp only [] at h
        unfold drawNew at h
        split at h
        · rename_i v obj hv
          obtain ⟨e1, f1⟩ := more _ h (by simp [hvs])
          obtain ⟨e2, d1, d2⟩ := e1.calm (s := s) hlt rfl rfl rfl rfl (.inr ⟨⟨i, obj⟩, o, rfl, rfl, ho, hk, hg⟩) (fun sn h => h)
          refine ⟨e2, join f1 ⟨true, by rw [d1]; exact hg, fun hb => (by cases hb), fun _ => ⟨v, d2, ?_⟩⟩⟩
          rw [d1]
          refine ⟨fun h1 => by omega, fun h1 => by omega, fun _ => ⟨obj, hv, ?_⟩, fun _ _ h1 => absurd hk h1⟩
          obtain ⟨ln, hn, _⟩ := e1.news
          rw [hn]; exact List.mem_append_right _ (List.mem_cons_self ..)
        · cases h
      · rename_i hk0 hk1 hk2
        simp only [] at h
        split at h
        · rename_i hch
          unfold drawEff at h
          split at h
          · rename_i v H1 hv
            split at h
            · rename_i seen1 hs1
              obtain ⟨e1, f1⟩ := more _ h (by simp [hvs])
              obtain ⟨l, v1, v2⟩ := e1.vs
              obtain ⟨lp, p1, p2⟩ := e1.past
              obtain ⟨ln, n1, n2, n3⟩ := e1.news
              have hl1 : s'.vs = (l ++ [v]) ++ s.vs := by rw [v1]; simp
              have hl2 : (l ++ [v]).length = ops.length - i := by simp; omega
              have d1 : s'.vs.drop (ops.length - i) = s.vs := by rw [hl1]; exact vs_tail hl2
              have d2 : s'.vs[ops.length - 1 - i]? = some v := by rw [v1]; exact vs_at hlt v2
              have hrt : s'.past.reverse[s.past.length]? = some ⟨i, s.H, s.laid⟩ := by rw [p1]; exact rev_at
              have hheap : stH s' (s.past.length + 1) = H1 := e1.heap
              have hlaid : stL s' (s.past.length + 1) = Nat.lor s.laid (maskAt ops i) := e1.laid
              have hnews : ∀ p ∈ s.news, p ∈ s'.news := fun p hp => by rw [n1]; exact List.mem_append_right _ hp
              have hkk : kindOf P o ≠ 0 ∧ kindOf P o ≠ 1 ∧ kindOf P o ≠ 2 := ⟨hk0, hk1, hk2⟩
              refine ⟨⟨⟨_, hl1, hl2⟩, ⟨lp ++ [⟨i, s.H, s.laid⟩], by rw [p1]; simp, ?_⟩, (by
                  obtain ⟨lq, q1, q2, q3⟩ := e1.pastOne
                  refine ⟨lq ++ [⟨i, s.H, s.laid⟩], by rw [q1]; simp, ?_, ?_⟩
                  · intro q hq
                    rcases List.mem_append.1 hq with hq | hq
                    · have := q2 q hq; omega
                    · simp at hq; subst hq; exact Nat.le_refl _
                  · rw [List.pairwise_append]
                    refine ⟨q3, List.pairwise_singleton _ _, fun q hq q' hq' => ?_⟩
                    simp at hq'; subst hq'
                    have := q2 q hq
                    show i < q.i
                    omega), ⟨ln, n1, fun q hq => ⟨by have := (n2 q hq).1; omega, (n2 q hq).2⟩, n3⟩, by simp [stH, hrt], by simp [stL, hrt], ?_⟩, ?_⟩
              · intro q hq
                rcases List.mem_append.1 hq with hq | hq
                · exact ⟨by have := (p2 q hq).1; omega, (p2 q hq).2⟩
                · simp at hq; subst hq
                  exact ⟨Nat.le_refl _, o, ho, hkk.1, hkk.2.1, hkk.2.2, by rw [d1]; exact hg⟩
              · intro sn hsn k hk1 hk2 hk3
                have hm := hk3 s.past.length ⟨i, s.H, s.laid⟩ (by omega) (by omega) hrt
                obtain ⟨g1, g2⟩ := seenStay_get hs1 sn hsn hm
                by_cases c : k = s.past.length + 1
                · subst c
                  exact ⟨s.news, hnews, by rw [hheap, hlaid]; exact g2⟩
                · exact e1.seen sn g1 k (by show s.past.length + 1 < k; omega) hk2 (fun k' p a b c => hk3 k' p (by have : s.past.length + 1 ≤ k' := a; omega) b c)
              · refine join f1 ⟨true, by rw [d1]; exact hg, fun hb => (by cases hb), fun _ => ⟨v, d2, ?_⟩⟩
                rw [d1]
                refine KindFact.mk (fun h1 => absurd h1 hkk.1) (fun h1 => absurd h1 hkk.2.1) (fun h1 => absurd h1 hkk.2.2) (fun _ _ _ => ⟨s.past.length, ⟨i, s.H, s.laid⟩, hrt, rfl, ?_, hlaid, s.news, hnews, by rw [hheap]; exact hv⟩)
                intro p0 hne hp0
                rw [p1] at hp0
                have hp0' : (lp ++ ([⟨i, s.H, s.laid⟩] : List Past) ++ s.past).reverse[s.past.length - 1]? = some p0 := by simpa using hp0
                rw [rev_old (by omega)] at hp0'
                have : s.past.length - 1 - (s.past.length - 1) = 0 := by omega
                rw [this] at hp0'
                cases hsp : s.past with
                | nil => rw [hsp] at hne; simp at hne
                | cons q r =>
                  rw [hsp] at hp0' hch
                  simp at hp0'
                  subst hp0'
                  exact hch
            · cases h
          · cases h
        · cases h
    unfold drawGuardC at h
    split at h
    · rename_i hg
      exact hgo (by simp [guardC, hg]) h
    · rename_i hg
      simp only [] at h
      split at h
      · rename_i hgr
        exact hgo hgr h
      · rename_i hgr
        obtain ⟨e1, f1⟩ := more _ h (by simp [hvs])
        obtain ⟨e2, d1, d2⟩ := e1.calm (s := s) hlt rfl rfl rfl rfl (.inl rfl) (fun sn h => h)
        exact ⟨e2, join f1 ⟨false, by rw [d1]; exact hgr, fun _ => d2, fun hb => (by cases hb)⟩⟩
      · cases h
end Go.Proofs.YtpmildboffolkaaGreat.Abs

namespace Go.Proofs.YtpmildboffolkaaGreat.Abs
variable {P : Program} {K : Hooks} {R : Rec}

/-! ### Whatever the order -/
theorem layM_next (base mask laid : Nat) : ∀ (news : List Pend) (H : AHeap), (layM base mask laid news H).next = H.next
  | [], _ => rfl
  | p :: r, H => by
    simp only [layM]
    split
    · simp only [layAt]; exact layM_next base mask laid r H
    · exact layM_next base mask laid r H

theorem layM_get_out {base mask laid b : Nat} : ∀ {news : List Pend} {H : AHeap}, (∀ p ∈ news, Nat.testBit mask p.i = true → Nat.testBit laid p.i = false → b ≠ base + p.i) → (layM base mask laid news H).get b = H.get b
  | [], _, _ => rfl
  | p :: r, H, h => by
    have ih := layM_get_out (H := H) (fun q hq => h q (List.mem_cons_of_mem _ hq))
    simp only [layM]
    split
    · rename_i hc
      simp only [Bool.and_eq_true, Bool.not_eq_true'] at hc
      have hne : ¬ (b = Nat.add base p.i) := h p (List.mem_cons_self ..) hc.1 hc.2
      simp only [layAt, AHeap.get, Tr.get_set]
      rw [if_neg hne]
      exact ih
    · exact ih

theorem layM_get_in {base mask laid : Nat} : ∀ {news : List Pend} {H : AHeap} {p : Pend}, p ∈ news → (∀ q ∈ news, q.i = p.i → q = p) → Nat.testBit mask p.i = true → Nat.testBit laid p.i = false → (layM base mask laid news H).get (base + p.i) = some ⟨p.obj, none⟩
  | [], _, p, h, _, _, _ => by cases h
  | q :: r, H, p, h, hu, h1, h2 => by
    simp only [layM]
    by_cases e : q.i = p.i
    · have := hu q (List.mem_cons_self ..) e
      subst this
      rw [h1, h2]
      simp [layAt, AHeap.get, Tr.get_set]
    · have hp : p ∈ r := by
        rcases List.mem_cons.1 h with rfl | h
        · exact absurd rfl e
        · exact h
      have ih := layM_get_in (base := base) (H := H) hp (fun q' hq' => hu q' (List.mem_cons_of_mem _ hq')) h1 h2
      split
      · simp only [layAt, AHeap.get, Tr.get_set]
        have : ¬ (base + p.i = Nat.add base q.i) := by intro e'; apply e; have : base + p.i = base + q.i := e'; omega
        rw [if_neg this]
        exact ih
      · exact ih

/-- what lies in such a heap -/
theorem layM_get {base mask laid : Nat} {b : Nat} {e : AEnt} : ∀ {news : List Pend} {H : AHeap}, (layM base mask laid news H).get b = some e →
    H.get b = some e ∨ ∃ p ∈ news, b = base + p.i ∧ Nat.testBit mask p.i = true ∧ Nat.testBit laid p.i = false ∧ e = ⟨p.obj, none⟩
  | [], _, h => .inl h
  | q :: r, H, h => by
    simp only [layM] at h
    split at h
    · rename_i hc
      simp only [Bool.and_eq_true, Bool.not_eq_true'] at hc
      simp only [layAt, AHeap.get, Tr.get_set] at h
      split at h
      · rename_i hb
        cases h
        exact .inr ⟨q, List.mem_cons_self .., hb, hc.1, hc.2, rfl⟩
      · rcases layM_get (news := r) (H := H) h with h | ⟨p, hp, h⟩
        · exact .inl h
        · exact .inr ⟨p, List.mem_cons_of_mem _ hp, h⟩
    · rcases layM_get h with h | ⟨p, hp, h⟩
      · exact .inl h
      · exact .inr ⟨p, List.mem_cons_of_mem _ hp, h⟩

theorem Step.shrink {ρ ρ' : Env} {H A G : AHeap} {w w' : World} (h : Step P ρ H w ρ' A w') (hn : G.next = A.next) (hsub : ∀ b e, G.get b = some e → A.get b = some e) : Step P ρ H w ρ' G w' :=
  ⟨h.le, h.rel.sub hn hsub, by rw [hn]; exact h.next, h.news, h.size, h.frame, fun b e r hb hr hlt => h.img b e r (hsub b e hb) hr hlt, h.same⟩

/-- a frame within a region that draws: who of X has been -/
structure Inv (P : Program) (ops : List Oper) (base : Nat) (s' : DSt) (nt : Nat) (ρ0 : Env) (H0 : AHeap) (w0 : World) (a0 : Act) (X : Nat → Bool) (k : Nat) (ρ : Env) (A : AHeap) (a : Act) (w : World) : Prop where
  effs : ∀ (k' : Nat) (p : Past), s'.past.reverse[k']? = some p → (X p.i = true ↔ k' < k)
  kle : k ≤ s'.past.length
  closed : ∀ j, X j = true → j < ops.length ∧ ∀ x, Nat.testBit (maskAt ops j) x = true → X x = true
  step : Step P ρ0 H0 w0 ρ A w
  next : A.next = (stH s' k).next
  room : base + ops.length ≤ (stH s' k).next
  inA : ∀ b e, A.get b = some e → (stH s' k).get b = some e ∨ ∃ p ∈ s'.news, b = base + p.i ∧ X p.i = true ∧ Nat.testBit (stL s' k) p.i = false ∧ e = ⟨p.obj, none⟩
  old : ∀ b e, (stH s' k).get b = some e → A.get b = some e
  made : ∀ p ∈ s'.news, X p.i = true → Nat.testBit (stL s' k) p.i = false → A.get (base + p.i) = some ⟨p.obj, none⟩
  bare : ∀ j, j < ops.length → Nat.testBit (stL s' k) j = false → (stH s' k).get (base + j) = none
  laid : ∀ x, Nat.testBit (stL s' k) x = true → X x = true
  unborn : ∀ j, j < ops.length → (X j = true → ∀ p ∈ s'.news, p.i ≠ j) → ρ.blk (base + j) = none
  defers : a.defers = a0.defers
  size : a.tmps.size = nt
  done : ∀ j o d, X j = true → ops[j]? = some o → o.dst = some d → ∃ v c, s'.vs[ops.length - 1 - j]? = some v ∧ v.conc ρ = some c ∧ a.tmps[d]? = some c
  rest : ∀ t, (∀ j o, X j = true → ops[j]? = some o → o.dst ≠ some t) → a.tmps[t]? = a0.tmps[t]?

section
variable {ops : List Oper} {base nt kept : Nat} {s' : DSt} {ρ0 ρ : Env} {H0 A : AHeap} {w0 w : World} {a0 a : Act} {X : Nat → Bool} {k : Nat} {T : Tr AV}

/-- the operands of an operation whose turn may be -/
theorem Inv.opds (hok : drawOk ops = true) (h : Inv P ops base s' nt ρ0 H0 w0 a0 X k ρ A a w) (hT : TRel ρ0 kept nt T a0.tmps) {i : Nat} {o : Oper} (ho : ops[i]? = some o) (hX : X i = false) (hm : ∀ x, Nat.testBit (maskAt ops i) x = true → X x = true) :
    OpdOk ρ ops i T (s'.vs.drop (ops.length - i)) a.eval o.op.operands.toList := by
  intro x hx v hv
  cases x with
  | tmp t =>
    have hslot : t ∈ opSlots o := by
      simp only [opSlots, List.mem_filterMap]
      exact ⟨.tmp t, hx, rfl⟩
    have hlt : i < ops.length := (List.getElem?_eq_some_iff.1 ho).1
    simp only [opdC] at hv
    split at hv
    · rename_i q hq
      obtain ⟨h1, o', h2, h3⟩ := backTo_some hq
      have hv : (nthC q).run (s'.vs.drop (ops.length - i)) = some v := hv
      rw [nthC_eq, List.getElem?_drop] at hv
      have hne : i - 1 - q ≠ i := by omega
      have hXj : X (i - 1 - q) = true := by
        rcases slot_apart hok ho hslot h2 h3 hne with h4 | h4
        · exact hm _ h4
        · have := (mask_lt hok h4).1; omega
      obtain ⟨v', c, g1, g2, g3⟩ := h.done _ o' t hXj h2 h3
      have : ops.length - 1 - (i - 1 - q) = ops.length - i + q := by omega
      rw [this, hv] at g1; cases g1
      rw [g2]
      simp [Act.eval, Array.getD_eq_getD_getElem?, g3]
    · rename_i hq
      have hnone := backTo_none hq
      have hr := h.rest t (fun j o' hXj ho' hd => by
        have hne : j ≠ i := by intro e; subst e; rw [hX] at hXj; cases hXj
        rcases slot_apart hok ho hslot ho' hd hne with h4 | h4
        · exact hnone j o' (mask_lt hok h4).1 ho' hd
        · have := (h.closed j hXj).2 i h4
          rw [hX] at this; cases this)
      obtain ⟨_, c, g1, g2⟩ := hT.2 t v hv
      rw [AV.conc_mono h.step.le v c g1]
      simp [Act.eval, Array.getD_eq_getD_getElem?, hr, g2]
  | const c =>
    simp only [opdC] at hv
    exact ofLit_conc hv
  | func f =>
    simp only [opdC] at hv
    cases hv
    rfl
  | global g => simp [opdC] at hv

/-- the guard of an operation whose turn may be -/
theorem Inv.guard {opsA : Array Oper} (hops : opsA.toList = ops) (hok : drawOk ops = true) (h : Inv P ops base s' nt ρ0 H0 w0 a0 X k ρ A a w) {i : Nat} {o : Oper} (ho : ops[i]? = some o) (hm : ∀ x, Nat.testBit (maskAt ops i) x = true → X x = true) {r : Bool}
    (hg : (guardC ops i o).run (s'.vs.drop (ops.length - i)) = some r) : Region.wanted o (yielded opsA a.tmps) = r := by
  have hA : ∀ j : Nat, opsA[j]? = ops[j]? := fun j => by rw [← hops]; simp
  have hlt : i < ops.length := (List.getElem?_eq_some_iff.1 ho).1
  unfold guardC at hg
  unfold Region.wanted
  split at hg <;> rename_i hgd
  · rw [hgd]; simpa using hg
  · rename_i j want
    rw [hgd]
    simp only []
    split at hg
    · rename_i hj
      have hj' : j < i := by simpa [Nat.blt_eq] using hj
      split at hg
      · rename_i o' ho'
        split at hg <;> rename_i hd
        · simp only [] at hg
          rename_i d
          have hXj : X j = true := hm j (guard_in hok ho hgd)
          obtain ⟨v, c, g1, g2, g3⟩ := h.done j o' d hXj ho' hd
          rw [nthC_eq, List.getElem?_drop] at hg
          have hidx : ops.length - i + (i.sub 1).sub j = ops.length - 1 - j := by
            show ops.length - i + (i - 1 - j) = _
            omega
          rw [hidx, g1] at hg
          rcases wantedV_eq hg with ⟨b, hb, hr⟩ | ⟨l, hb, hr⟩
          · cases hb
            cases g2
            simp [yielded, hA, ho', hd, g3, hr]
          · cases hb
            obtain ⟨vs', _, rfl⟩ := conc_tuple.1 g2
            simp [yielded, hA, ho', hd, g3, hr]
        · simp only [] at hg
          cases hg
          simp [yielded, hA, ho', hd]
      · cases hg
    · cases hg

/-- the slots behind one more operation -/
theorem Inv.slots (h : Inv P ops base s' nt ρ0 H0 w0 a0 X k ρ A a w) (honce : Once ops) (hin : Within nt ops) {i : Nat} {o : Oper} (ho : ops[i]? = some o) (hX : X i = false) {ρ' : Env} (hle : ρ.Le ρ') {v : AV} {c : Value} (hv : s'.vs[ops.length - 1 - i]? = some v) (hc : v.conc ρ' = some c) :
    (a.put o.dst c).defers = a0.defers ∧ (a.put o.dst c).tmps.size = nt ∧
    (∀ j o' d, (j == i || X j) = true → ops[j]? = some o' → o'.dst = some d → ∃ v c', s'.vs[ops.length - 1 - j]? = some v ∧ v.conc ρ' = some c' ∧ (a.put o.dst c).tmps[d]? = some c') ∧
    (∀ t, (∀ j o', (j == i || X j) = true → ops[j]? = some o' → o'.dst ≠ some t) → (a.put o.dst c).tmps[t]? = a0.tmps[t]?) := by
  refine ⟨?_, ?_, ?_, ?_⟩
  · cases hd : o.dst <;> simp [Act.put, h.defers]
  · cases hd : o.dst <;> simp [Act.put, h.size]
  · intro j o' d hj ho' hd'
    by_cases e : j = i
    · subst e
      rw [ho] at ho'; cases ho'
      refine ⟨v, c, hv, hc, ?_⟩
      have := hin j o d ho hd'
      simp [Act.put, hd', h.size, this]
    · have hXj : X j = true := by simpa [e] using hj
      obtain ⟨v', c', g1, g2, g3⟩ := h.done j o' d hXj ho' hd'
      refine ⟨v', c', g1, AV.conc_mono hle _ _ g2, ?_⟩
      cases hd : o.dst with
      | none => simpa [Act.put] using g3
      | some d2 =>
        have hne : d2 ≠ d := by
          intro e'; subst e'
          rcases Nat.lt_or_gt_of_ne e with h1 | h1
          · exact honce j i o' o d2 h1 ho' ho hd' hd
          · exact honce i j o o' d2 h1 ho ho' hd hd'
        simp only [Act.put]
        rw [Array.getElem?_setIfInBounds_ne hne]; exact g3
  · intro t ht
    have h1 := h.rest t (fun j o' hj => ht j o' (by simp [hj]))
    have h2 := ht i o (by simp) ho
    cases hd : o.dst with
    | none => simpa [Act.put] using h1
    | some d2 =>
      rw [hd] at h2
      have : d2 ≠ t := fun e' => h2 (by rw [e'])
      simp only [Act.put]
      rw [Array.getElem?_setIfInBounds_ne this]; exact h1
end
end Go.Proofs.YtpmildboffolkaaGreat.Abs

namespace Go.Proofs.YtpmildboffolkaaGreat.Abs
variable {P : Program} {K : Hooks} {R : Rec}

/-- a heap with some of the new blocks laid -/
def layX (base : Nat) (f : Nat → Bool) : List Pend → AHeap → AHeap
  | [], H => H
  | p :: r, H => match f p.i with
    | true => layAt (layX base f r H) (base + p.i) p.obj
    | false => layX base f r H

theorem layX_next (base : Nat) (f : Nat → Bool) : ∀ (news : List Pend) (H : AHeap), (layX base f news H).next = H.next
  | [], _ => rfl
  | p :: r, H => by
    simp only [layX]
    split
    · simp only [layAt]; exact layX_next base f r H
    · exact layX_next base f r H

theorem layX_get_out {base b : Nat} {f : Nat → Bool} : ∀ {news : List Pend} {H : AHeap}, (∀ p ∈ news, f p.i = true → b ≠ base + p.i) → (layX base f news H).get b = H.get b
  | [], _, _ => rfl
  | p :: r, H, h => by
    have ih := layX_get_out (H := H) (fun q hq => h q (List.mem_cons_of_mem _ hq))
    simp only [layX]
    split
    · rename_i hc
      have hne := h p (List.mem_cons_self ..) hc
      simp only [layAt, AHeap.get, Tr.get_set]
      rw [if_neg hne]
      exact ih
    · exact ih

theorem layX_get_in {base : Nat} {f : Nat → Bool} : ∀ {news : List Pend} {H : AHeap} {p : Pend}, p ∈ news → (∀ q ∈ news, q.i = p.i → q = p) → f p.i = true → (layX base f news H).get (base + p.i) = some ⟨p.obj, none⟩
  | [], _, p, h, _, _ => by cases h
  | q :: r, H, p, h, hu, h1 => by
    simp only [layX]
    by_cases e : q.i = p.i
    · have := hu q (List.mem_cons_self ..) e
      subst this
      rw [h1]
      simp [layAt, AHeap.get, Tr.get_set]
    · have hp : p ∈ r := by
        rcases List.mem_cons.1 h with rfl | h
        · exact absurd rfl e
        · exact h
      have ih := layX_get_in (base := base) (f := f) (H := H) hp (fun q' hq' => hu q' (List.mem_cons_of_mem _ hq')) h1
      split
      · simp only [layAt, AHeap.get, Tr.get_set]
        have : ¬ (base + p.i = base + q.i) := by intro e'; apply e; omega
        rw [if_neg this]
        exact ih
      · exact ih

theorem layX_get {base : Nat} {f : Nat → Bool} {b : Nat} {e : AEnt} : ∀ {news : List Pend} {H : AHeap}, (layX base f news H).get b = some e → H.get b = some e ∨ ∃ p ∈ news, b = base + p.i ∧ f p.i = true ∧ e = ⟨p.obj, none⟩
  | [], _, h => .inl h
  | q :: r, H, h => by
    simp only [layX] at h
    split at h
    · rename_i hc
      simp only [layAt, AHeap.get, Tr.get_set] at h
      split at h
      · rename_i hb
        cases h
        exact .inr ⟨q, List.mem_cons_self .., hb, hc, rfl⟩
      · rcases layX_get (news := r) (H := H) h with h | ⟨p, hp, h⟩
        · exact .inl h
        · exact .inr ⟨p, List.mem_cons_of_mem _ hp, h⟩
    · rcases layX_get h with h | ⟨p, hp, h⟩
      · exact .inl h
      · exact .inr ⟨p, List.mem_cons_of_mem _ hp, h⟩

/-- what is known of the whole region -/
structure Known (P : Program) (K : Hooks) (R : Rec) (ops : List Oper) (base : Nat) (T : Tr AV) (s' : DSt) : Prop where
  ok : drawOk ops = true
  facts : ∀ j o, ops[j]? = some o → OpFact P K R ops base T s' j o
  pastOk : ∀ (k : Nat) (p : Past), s'.past.reverse[k]? = some p → ∃ o, ops[p.i]? = some o ∧ kindOf P o ≠ 0 ∧ kindOf P o ≠ 1 ∧ kindOf P o ≠ 2 ∧ (guardC ops p.i o).run (s'.vs.drop (ops.length - p.i)) = some true
  pastOne : s'.past.Pairwise (fun p q => q.i < p.i)
  newsOk : ∀ p ∈ s'.news, ∃ o, ops[p.i]? = some o ∧ kindOf P o = 2 ∧ (guardC ops p.i o).run (s'.vs.drop (ops.length - p.i)) = some true
  newsOne : ∀ p ∈ s'.news, ∀ q ∈ s'.news, p.i = q.i → p = q

section
variable {ops : List Oper} {base nt kept : Nat} {s' : DSt} {ρ0 ρ : Env} {H0 A : AHeap} {w0 w : World} {a0 a : Act} {X : Nat → Bool} {k : Nat} {T : Tr AV}

/-- one more has been that is no effect: the same world or a block more -/
theorem Inv.calm (hKn : Known P K R ops base T s') (h : Inv P ops base s' nt ρ0 H0 w0 a0 X k ρ A a w) (hin : Within nt ops) {i : Nat} {o : Oper} (ho : ops[i]? = some o) (hX : X i = false) (hm : ∀ x, Nat.testBit (maskAt ops i) x = true → X x = true)
    {v : AV} {c : Value} (hv : s'.vs[ops.length - 1 - i]? = some v) (hc : v.conc ρ = some c) (hnews : ∀ p ∈ s'.news, p.i ≠ i) (hpast : ∀ (k' : Nat) (p : Past), s'.past.reverse[k']? = some p → p.i ≠ i) :
    Inv P ops base s' nt ρ0 H0 w0 a0 (fun j => j == i || X j) k ρ A (a.put o.dst c) w := by
  have hlt : i < ops.length := (List.getElem?_eq_some_iff.1 ho).1
  obtain ⟨s1, s2, s3, s4⟩ := h.slots (distinct_once (drawOk_parts hKn.ok).2) hin ho hX (.refl ρ) hv hc
  refine ⟨?_, h.kle, ?_, h.step, h.next, h.room, ?_, h.old, ?_, h.bare, fun x hx => by simp [h.laid x hx], ?_, s1, s2, s3, s4⟩
  · intro k' p hp
    have := hpast k' p hp
    simp only [Bool.or_eq_true, beq_iff_eq, this, false_or]
    exact h.effs k' p hp
  · intro j hj
    by_cases e : j = i
    · subst e; exact ⟨hlt, fun x hx => by simp [hm x hx]⟩
    · have hXj : X j = true := by simpa [e] using hj
      exact ⟨(h.closed j hXj).1, fun x hx => by simp [(h.closed j hXj).2 x hx]⟩
  · intro b e hb
    rcases h.inA b e hb with h1 | ⟨p, p1, p2, p3, p4, p5⟩
    · exact .inl h1
    · exact .inr ⟨p, p1, p2, by simp [p3], p4, p5⟩
  · intro p hp hXp hl
    have := hnews p hp
    exact h.made p hp (by simpa [this] using hXp) hl
  · intro j hj hXj
    exact h.unborn j hj (fun hx => hXj (by simp [hx]))

/-- one more has been: it made a block -/
theorem Inv.made' (hKn : Known P K R ops base T s') (h : Inv P ops base s' nt ρ0 H0 w0 a0 X k ρ A a w) (hbase : base = H0.next) (hin : Within nt ops) {i : Nat} {o : Oper} (ho : ops[i]? = some o) (hX : X i = false) (hm : ∀ x, Nat.testBit (maskAt ops i) x = true → X x = true)
    {v : AV} {c : Value} {obj : AObj} {robj : Obj} {cap : Nat} {w' : World} (hv : s'.vs[ops.length - 1 - i]? = some v) (hp : (⟨i, obj⟩ : Pend) ∈ s'.news) (hpast : ∀ (k' : Nat) (p : Past), s'.past.reverse[k']? = some p → p.i ≠ i)
    (hw : w'.heap = w.heap.push robj) (hs : Same w w') (hc : v.conc (ρ.ext (base + i) w.heap.size cap) = some c) (hob : ORel P (ρ.ext (base + i) w.heap.size cap) (base + i) obj robj) :
    Inv P ops base s' nt ρ0 H0 w0 a0 (fun j => j == i || X j) k (ρ.ext (base + i) w.heap.size cap) (layAt A (base + i) obj) (a.put o.dst c) w' := by
  have hlt : i < ops.length := (List.getElem?_eq_some_iff.1 ho).1
  have hnone := h.unborn i hlt (fun hx => by rw [hX] at hx; cases hx)
  have hroom := h.room
  have hnl : Nat.testBit (stL s' k) i = false := by
    cases hb : Nat.testBit (stL s' k) i with
    | false => rfl
    | true => have := h.laid i hb; rw [hX] at this; cases this
  obtain ⟨r1, r2⟩ := lay_step (nx := A.next) (n := cap) h.step.rel hw hs hnone (Nat.le_refl _) (by rw [h.next]; omega) hob
  obtain ⟨s1, s2, s3, s4⟩ := h.slots (distinct_once (drawOk_parts hKn.ok).2) hin ho hX r2 hv hc
  have get' : ∀ b, (layAt A (base + i) obj).get b = if b = base + i then some ⟨obj, none⟩ else A.get b := by
    intro b; simp [layAt, AHeap.get, Tr.get_set]
  refine ⟨?_, h.kle, ?_, ?_, h.next, h.room, ?_, ?_, ?_, h.bare, fun x hx => by simp [h.laid x hx], ?_, s1, s2, s3, s4⟩
  · intro k' p hp
    have := hpast k' p hp
    simp only [Bool.or_eq_true, beq_iff_eq, this, false_or]
    exact h.effs k' p hp
  · intro j hj
    by_cases e : j = i
    · subst e; exact ⟨hlt, fun x hx => by simp [hm x hx]⟩
    · have hXj : X j = true := by simpa [e] using hj
      exact ⟨(h.closed j hXj).1, fun x hx => by simp [(h.closed j hXj).2 x hx]⟩
  · refine ⟨h.step.le.trans r2, r1, h.step.next, ?_, by rw [hw]; simp; have := h.step.size; omega, ?_, ?_, h.step.same.trans hs⟩
    · intro b c' hb
      by_cases e : b = base + i
      · right; omega
      · rw [Env.ext_other _ _ _ e] at hb; exact h.step.news b c' hb
    · intro r hr hno
      rw [hw, Array.getElem?_push, if_neg (by have := h.step.size; omega)]
      exact h.step.frame r hr hno
    · intro b e r hb hr hlt'
      rw [get'] at hb
      by_cases e' : b = base + i
      · subst e'
        simp at hr
        have := h.step.size
        omega
      · rw [if_neg e'] at hb
        rw [Env.ext_other _ _ _ e'] at hr
        exact h.step.img b e r hb hr hlt'
  · intro b e hb
    rw [get'] at hb
    by_cases e' : b = base + i
    · rw [if_pos e'] at hb
      cases hb
      exact .inr ⟨⟨i, obj⟩, hp, e', by simp, hnl, rfl⟩
    · rw [if_neg e'] at hb
      rcases h.inA b e hb with h1 | ⟨p, p1, p2, p3, p4, p5⟩
      · exact .inl h1
      · exact .inr ⟨p, p1, p2, by simp [p3], p4, p5⟩
  · intro b e hb
    rw [get']
    by_cases e' : b = base + i
    · rw [e', h.bare i hlt hnl] at hb; cases hb
    · rw [if_neg e']; exact h.old b e hb
  · intro p hpm hXp hl
    rw [get']
    by_cases e' : p.i = i
    · have : p = ⟨i, obj⟩ := hKn.newsOne p hpm _ hp e'
      subst this
      simp
    · rw [if_neg (by omega)]
      exact h.made p hpm (by simpa [e'] using hXp) hl
  · intro j hj hXj
    have hji : j ≠ i := by intro e; subst e; exact hXj (by simp) _ hp rfl
    rw [Env.ext_other _ _ _ (by omega)]
    exact h.unborn j hj (fun hx => hXj (by simp [hx]))

/-- the heap that an operation sees at least -/
theorem Inv.least (h : Inv P ops base s' nt ρ0 H0 w0 a0 X k ρ A a w) {mask : Nat} (hm : ∀ x, Nat.testBit mask x = true → X x = true) {nw : List Pend} (hnw : ∀ p ∈ nw, p ∈ s'.news) :
    ∀ b e, (layM base mask (stL s' k) nw (stH s' k)).get b = some e → A.get b = some e := by
  intro b e hb
  rcases layM_get hb with h1 | ⟨p, p1, p2, p3, p4, p5⟩
  · exact h.old b e h1
  · rw [p2, p5]; exact h.made p (hnw p p1) (hm _ p3) p4

/-- one more has been: an effect -/
theorem Inv.effect (hKn : Known P K R ops base T s') (h : Inv P ops base s' nt ρ0 H0 w0 a0 X k ρ A a w) (hin : Within nt ops) {i : Nat} {o : Oper} (ho : ops[i]? = some o) (hX : X i = false) (hm : ∀ x, Nat.testBit (maskAt ops i) x = true → X x = true)
    {v : AV} {c : Value} {p0 : Past} {nw : List Pend} {ρ' : Env} {w' : World} (hv : s'.vs[ops.length - 1 - i]? = some v) (hnews : ∀ p ∈ s'.news, p.i ≠ i) (hnw : ∀ p ∈ nw, p ∈ s'.news) (hp0 : s'.past.reverse[k]? = some p0) (hp0i : p0.i = i)
    (hone : ∀ (k' : Nat) (p : Past), s'.past.reverse[k']? = some p → p.i = i → k' = k)
    (hlaid : stL s' (k + 1) = stL s' k ||| maskAt ops i) (hs : Step P ρ (layM base (maskAt ops i) (stL s' k) nw (stH s' k)) w ρ' (stH s' (k + 1)) w') (hc : v.conc ρ' = some c) :
    ∃ A', Inv P ops base s' nt ρ0 H0 w0 a0 (fun j => j == i || X j) (k + 1) ρ' A' (a.put o.dst c) w' := by
  have hlt : i < ops.length := (List.getElem?_eq_some_iff.1 ho).1
  have hk : k < s'.past.length := by have := (List.getElem?_eq_some_iff.1 hp0).1; simpa using this
  obtain ⟨s1, s2, s3, s4⟩ := h.slots (distinct_once (drawOk_parts hKn.ok).2) hin ho hX hs.le hv hc
  have hGn : (layM base (maskAt ops i) (stL s' k) nw (stH s' k)).next = (stH s' k).next := layM_next ..
  have hroom' : base + ops.length ≤ (stH s' (k + 1)).next := by have h1 := hs.next; have h2 := h.room; rw [hGn] at h1; omega
  have bits : ∀ x, Nat.testBit (stL s' (k + 1)) x = true ↔ (Nat.testBit (stL s' k) x = true ∨ Nat.testBit (maskAt ops i) x = true) := by
    intro x; rw [hlaid, Nat.testBit_or]; simp
  have nbits : ∀ x, Nat.testBit (stL s' (k + 1)) x = false → Nat.testBit (stL s' k) x = false ∧ Nat.testBit (maskAt ops i) x = false := by
    intro x hx
    rw [hlaid, Nat.testBit_or] at hx
    simpa using hx
  have Gnone : ∀ j, j < ops.length → Nat.testBit (stL s' (k + 1)) j = false → (layM base (maskAt ops i) (stL s' k) nw (stH s' k)).get (base + j) = none := by
    intro j hj hb
    obtain ⟨b1, b2⟩ := nbits j hb
    rw [layM_get_out (fun p _ h1 _ => by intro e; have : p.i = j := by omega
                                         rw [this, b2] at h1; cases h1)]
    exact h.bare j hj b1
  have nb : ∀ j, j < ops.length → (X j = true → ∀ p ∈ s'.news, p.i ≠ j) → ρ'.blk (base + j) = none := by
    intro j hj hXj
    cases hb : ρ'.blk (base + j) with
    | none => rfl
    | some cc =>
      rcases hs.news _ _ hb with h1 | h1
      · rw [h.unborn j hj hXj] at h1; cases h1
      · rw [hGn] at h1; have := h.room; omega
  have bare' : ∀ j, j < ops.length → Nat.testBit (stL s' (k + 1)) j = false → (stH s' (k + 1)).get (base + j) = none := by
    intro j hj hb
    cases hg : (stH s' (k + 1)).get (base + j) with
    | none => rfl
    | some e =>
      exfalso
      obtain ⟨cc, oo, k1, k2, k3⟩ := hs.rel.obj _ _ hg
      by_cases hq : X j = true ∧ ∃ p ∈ s'.news, p.i = j
      · obtain ⟨hXj, p, hp, hpj⟩ := hq
        have hAj : A.get (base + j) = some ⟨p.obj, none⟩ := by
          have := h.made p hp (by rw [hpj]; exact hXj) (by rw [hpj]; exact (nbits j hb).1)
          rwa [hpj] at this
        obtain ⟨cA, oA, a1, a2, a3⟩ := h.step.rel.obj _ _ hAj
        have hcc : cc = cA := by
          have := (hs.le _ _ a1).1
          rw [k1] at this; exact Option.some.inj this
        subst hcc
        have hclt := (Array.getElem?_eq_some_iff.1 a2).1
        obtain ⟨b0, e0, g1, g2⟩ := hs.img _ _ cc hg k1 hclt
        rcases h.step.rel.sep _ _ _ _ _ hAj (h.least hm hnw _ _ g1) a1 g2 with e1 | ⟨e1, _⟩
        · rw [← e1, Gnone j hj hb] at g1; cases g1
        · cases e1
      · have := nb j hj (fun hXj p hp hpj => hq ⟨hXj, p, hp, hpj⟩)
        rw [this] at k1; cases k1
  refine ⟨layX base (fun j => (j == i || X j) && !Nat.testBit (stL s' (k + 1)) j) s'.news (stH s' (k + 1)), ?_⟩
  have uniq : ∀ p ∈ s'.news, ∀ q ∈ s'.news, q.i = p.i → q = p := fun p hp q hq e => hKn.newsOne q hq p hp e
  have newsLt : ∀ p ∈ s'.news, p.i < ops.length := fun p hp => by
    obtain ⟨o', ho', _⟩ := hKn.newsOk p hp
    exact (List.getElem?_eq_some_iff.1 ho').1
  have astep : Step P ρ A w ρ' (layX base (fun j => (j == i || X j) && !Nat.testBit (stL s' (k + 1)) j) s'.news (stH s' (k + 1))) w' := by
    refine frame_step h.step.rel (by rw [hGn, h.next]) (h.least hm hnw) hs (layX_next ..) ?_
    intro b e hb
    rcases layX_get hb with h1 | ⟨p, p1, p2, p3, p4⟩
    · exact .inl h1
    · right
      simp only [Bool.and_eq_true, Bool.not_eq_true'] at p3
      have hpi := hnews p p1
      have hXp : X p.i = true := by simpa [hpi] using p3.1
      have hl := nbits p.i p3.2
      refine ⟨?_, ?_, by rw [p4]⟩
      · rw [p2, p4]; exact h.made p p1 hXp hl.1
      · rw [p2]; exact Gnone p.i (newsLt p p1) p3.2
  refine ⟨?_, by omega, ?_, h.step.trans astep, layX_next .., hroom', ?_, ?_, ?_, bare', ?_, ?_, s1, s2, s3, s4⟩
  · intro k' p hp
    by_cases e : p.i = i
    · have := hone k' p hp e
      subst this
      simp [e]
    · simp only [Bool.or_eq_true, beq_iff_eq, e, false_or]
      rw [h.effs k' p hp]
      constructor
      · intro; omega
      · intro hk'
        rcases Nat.lt_or_ge k' k with h1 | h1
        · exact h1
        · have : k' = k := by omega
          subst this
          rw [hp0] at hp; cases hp
          exact absurd hp0i e
  · intro j hj
    by_cases e : j = i
    · subst e; exact ⟨hlt, fun x hx => by simp [hm x hx]⟩
    · have hXj : X j = true := by simpa [e] using hj
      exact ⟨(h.closed j hXj).1, fun x hx => by simp [(h.closed j hXj).2 x hx]⟩
  · intro b e hb
    rcases layX_get hb with h1 | ⟨p, p1, p2, p3, p4⟩
    · exact .inl h1
    · simp only [Bool.and_eq_true, Bool.not_eq_true'] at p3
      exact .inr ⟨p, p1, p2, p3.1, p3.2, p4⟩
  · intro b e hb
    rw [layX_get_out (fun p hp hf e' => ?_)]
    · exact hb
    · simp only [Bool.and_eq_true, Bool.not_eq_true'] at hf
      rw [e', bare' p.i (newsLt p hp) hf.2] at hb; cases hb
  · intro p hp hXp hl
    exact layX_get_in hp (uniq p hp) (by simp only [Bool.and_eq_true, Bool.not_eq_true']; exact ⟨hXp, hl⟩)
  · intro x hx
    rcases (bits x).1 hx with h1 | h1
    · simp [h.laid x h1]
    · simp [hm x h1]
  · intro j hj hXj
    exact nb j hj (fun hx => hXj (by simp [hx]))
end
end Go.Proofs.YtpmildboffolkaaGreat.Abs

namespace Go.Proofs.YtpmildboffolkaaGreat.Abs
variable {P : Program} {K : Hooks} {R : Rec}

section
variable {ops : List Oper} {base nt kept : Nat} {s' : DSt} {ρ0 ρ : Env} {H0 A : AHeap} {w0 w : World} {a0 a : Act} {X : Nat → Bool} {k : Nat} {T : Tr AV}

/-- one operation whose turn may be -/
theorem Inv.stepOp (hK : HooksOk P K) (hR : RecOk P R) {opsA : Array Oper} (hops : opsA.toList = ops) (hKn : Known P K R ops base T s') (h : Inv P ops base s' nt ρ0 H0 w0 a0 X k ρ A a w) (hT : TRel ρ0 kept nt T a0.tmps) (hbase : base = H0.next) (hin : Within nt ops)
    (ro : Option Nat) {i : Nat} {o : Oper} (ho : ops[i]? = some o) (hX : X i = false) (hm : ∀ x, Nat.testBit (maskAt ops i) x = true → X x = true) {K' : Act → World → Prop} {Q : Exit → Act → World → Prop}
    (hn : ∀ k' ρ' A' a' w', Inv P ops base s' nt ρ0 H0 w0 a0 (fun j => j == i || X j) k' ρ' A' a' w' → K' a' w') : wpOpIn (fenceOf ro) 0 P opsA Q i K' a w := by
  have hoA : opsA[i]? = some o := by rw [← hops] at ho; simpa using ho
  have hlt : i < ops.length := (List.getElem?_eq_some_iff.1 ho).1
  obtain ⟨b, hg, hf, ht⟩ := hKn.facts i o ho
  have hw := h.guard hops hKn.ok ho hm hg
  have noNews : (kindOf P o ≠ 2 ∨ b = false) → ∀ p ∈ s'.news, p.i ≠ i := by
    intro hc p hp e
    obtain ⟨o', ho', h1, h2⟩ := hKn.newsOk p hp
    rw [e, ho] at ho'; cases ho'
    rw [e, hg] at h2
    rcases hc with hc | hc
    · exact hc h1
    · rw [hc] at h2; cases h2
  have noPast : (kindOf P o = 0 ∨ kindOf P o = 1 ∨ kindOf P o = 2 ∨ b = false) → ∀ (k' : Nat) (p : Past), s'.past.reverse[k']? = some p → p.i ≠ i := by
    intro hc k' p hp e
    obtain ⟨o', ho', h0, h1, h2, h3⟩ := hKn.pastOk k' p hp
    rw [e, ho] at ho'; cases ho'
    rw [e, hg] at h3
    rcases hc with hc | hc | hc | hc
    · exact h0 hc
    · exact h1 hc
    · exact h2 hc
    · rw [hc] at h3; cases h3
  simp only [wpOpIn, hoA]
  cases b with
  | false =>
    rw [hw]
    refine ⟨fun f _ => fenceOf_fn ro f, ?_⟩
    exact hn k ρ A _ w (h.calm hKn hin ho hX hm (hf rfl) (c := undef) rfl (noNews (.inr rfl)) (noPast (.inr (.inr (.inr rfl)))))
  | true =>
    rw [hw]
    simp only [if_true]
    obtain ⟨v, hv, hkf⟩ := ht rfl
    have hx := h.opds hKn.ok hT ho hX hm
    by_cases k0 : kindOf P o = 0
    · obtain ⟨c, h1, h2⟩ := readC_sound h.step.rel hx (hkf.pure k0 A)
      exact wpIn_of_lands (post := fun c' w' => c' = c ∧ w' = w) ro (readC_noDefer (hkf.pure k0 A)) (by rw [h2]; exact ⟨rfl, rfl⟩)
        (fun c' w' ⟨e1, e2⟩ => by subst e1 e2; exact hn k ρ A _ _ (h.calm hKn hin ho hX hm hv h1 (noNews (.inl (by omega))) (noPast (.inl k0))))
    · by_cases k1 : kindOf P o = 1
      · obtain ⟨nw, n1, n2⟩ := hkf.read k1 k h.kle (fun k' p hk' hp => by
            cases hb : Nat.testBit (maskAt ops p.i) i with
            | false => rfl
            | true =>
              have := (h.closed p.i ((h.effs k' p hp).2 hk')).2 i hb
              rw [hX] at this; cases this) (fun k' p hk' hp => by
            cases hb : Nat.testBit (maskAt ops i) p.i with
            | false => rfl
            | true =>
              have := (h.effs k' p hp).1 (hm _ hb)
              omega)
        have hsub := h.step.rel.sub (by rw [layM_next, h.next]) (h.least hm n1)
        obtain ⟨c, h1, h2⟩ := readC_sound hsub hx n2
        exact wpIn_of_lands (post := fun c' w' => c' = c ∧ w' = w) ro (readC_noDefer n2) (by rw [h2]; exact ⟨rfl, rfl⟩)
          (fun c' w' ⟨e1, e2⟩ => by subst e1 e2; exact hn k ρ A _ _ (h.calm hKn hin ho hX hm hv h1 (noNews (.inl (by omega))) (noPast (.inr (.inl k1)))))
      · by_cases k2 : kindOf P o = 2
        · obtain ⟨obj, n1, n2⟩ := hkf.new k2
          obtain ⟨c, w2, robj, cap, h1, h2, h3, h4, h5⟩ := newC_sound (w := w) (h.unborn i hlt (fun hx => by rw [hX] at hx; cases hx)) hx n1
          exact wpIn_of_lands (post := fun c' w' => c' = c ∧ w' = w2) ro (newC_noDefer n1) (by rw [h1]; exact ⟨rfl, rfl⟩)
            (fun c' w' ⟨e1, e2⟩ => by subst e1 e2; exact hn k _ _ _ _ (h.made' hKn hbase hin ho hX hm hv n2 (noPast (.inr (.inr (.inl k2)))) h2 h3 h4 h5))
        · obtain ⟨kk, p, p1, p2, p3, p4, nw, n1, n2⟩ := hkf.eff k0 k1 k2
          have hkk : kk = k := by
            have h1 : ¬ kk < k := fun hc => by
              have := (h.effs kk p p1).2 hc
              rw [p2, hX] at this; cases this
            rcases Nat.lt_or_ge k kk with h2 | h2
            · exfalso
              have hkl : kk < s'.past.length := by have := (List.getElem?_eq_some_iff.1 p1).1; simpa using this
              obtain ⟨pp, hpp⟩ : ∃ pp, s'.past.reverse[kk - 1]? = some pp := ⟨s'.past.reverse[kk - 1]'(by simp; omega), by rw [List.getElem?_eq_getElem]⟩
              have := (h.effs (kk - 1) pp hpp).1 (hm _ (p3 pp (by omega) hpp))
              omega
            · omega
          subst hkk
          have hpl : stL s' kk = p.laid := by simp [stL, p1]
          have hpH : stH s' kk = p.H := by simp [stH, p1]
          rw [← hpl, ← hpH] at n2
          have hsub := h.step.rel.sub (by rw [layM_next, h.next]) (h.least hm n1)
          refine wpIn_of_lands ro (effC_noDefer n2) (effC_sound hK hR hsub hx n2) ?_
          rintro c w2 ⟨ρ2, hs, hc⟩
          obtain ⟨A', hI⟩ := h.effect hKn hin ho hX hm hv (noNews (.inl k2)) n1 p1 p2 (fun k' q hq hqi => by
            -- an effect stands once in the chain
            have e1 := h.effs k' q hq
            rw [hqi, hX] at e1
            have e2 : ¬ k' < kk := fun hc => by have := e1.2 hc; cases this
            rcases Nat.lt_or_ge kk k' with h3 | h3
            · exfalso
              have hpw : s'.past.reverse.Pairwise (fun p q => p.i < q.i) := List.pairwise_reverse.2 hKn.pastOne
              have h4 := (List.getElem?_eq_some_iff.1 p1)
              have h5 := (List.getElem?_eq_some_iff.1 hq)
              have := List.pairwise_iff_getElem.1 hpw kk k' h4.1 h5.1 h3
              rw [h4.2, h5.2, p2, hqi] at this
              omega
            · omega) (by rw [hpl]; exact p4) hs hc
          exact hn _ _ _ _ _ hI

theorem listed_set {listed : Array Bool} {i : Nat} (hi : i < listed.size) : (fun j => (listed.setIfInBounds i true).getD j false) = fun j => (j == i || listed.getD j false) := by
  funext j
  simp only [Array.getD_eq_getD_getElem?, Array.getElem?_setIfInBounds]
  by_cases e : i = j
  · subst e; simp [hi]
  · have : (j == i) = false := by simp; omega
    simp [e, this]

theorem plainE_binds (e : Edge) : plainE e = Region.binds .any e := by
  unfold plainE Region.binds
  cases e.ground <;> rfl

theorem ready_iff {opsA : Array Oper} {listed : Array Bool} (hs : listed.size = opsA.size) {i : Nat} : i ∈ Region.ready .any opsA listed ↔ ∃ o, opsA[i]? = some o ∧ listed.getD i false = false ∧ ∀ e ∈ edgesOf o, listed.getD e false = true := by
  unfold Region.ready
  rw [List.mem_filter, List.mem_range]
  constructor
  · rintro ⟨h1, h2⟩
    simp only [Bool.and_eq_true] at h2
    have ho : opsA[i]? = some opsA[i] := by simp [h1]
    refine ⟨opsA[i], ho, ?_, ?_⟩
    · have := h2.1
      simp only [Array.getD_eq_getD_getElem?] at this ⊢
      have hl : i < listed.size := by omega
      simp [hl] at this ⊢
      exact this
    · intro e he
      rw [ho] at h2
      have h3 := h2.2
      simp only [Option.map_some, Option.getD_some, Array.all_eq_true'] at h3
      simp only [edgesOf, List.mem_map, List.mem_filter] at he
      obtain ⟨ed, ⟨he1, he2⟩, rfl⟩ := he
      have := h3 ed (by simpa using he1)
      rw [plainE_binds] at he2
      simpa [he2] using this
  · rintro ⟨o, h1, h2, h3⟩
    have hi := (Array.getElem?_eq_some_iff.1 h1).1
    refine ⟨hi, ?_⟩
    simp only [Bool.and_eq_true]
    refine ⟨?_, ?_⟩
    · simp only [Array.getD_eq_getD_getElem?] at h2 ⊢
      have hl : i < listed.size := by omega
      simp [hl] at h2 ⊢
      exact h2
    · rw [h1]
      simp only [Option.map_some, Option.getD_some, Array.all_eq_true']
      intro e he
      cases hb : Region.binds .any e with
      | false => simp
      | true =>
        have : e.on ∈ edgesOf o := by
          simp only [edgesOf, List.mem_map, List.mem_filter]
          exact ⟨e, ⟨by simpa using he, by rw [plainE_binds]; exact hb⟩, rfl⟩
        simp [h3 _ this]

theorem any_walk (hK : HooksOk P K) (hR : RecOk P R) {opsA : Array Oper} (hops : opsA.toList = ops) (hKn : Known P K R ops base T s') (hT : TRel ρ0 kept nt T a0.tmps) (hbase : base = H0.next) (hin : Within nt ops) (ro : Option Nat) {Q : Exit → Act → World → Prop}
    (hQ : ∀ X k ρ A a w, (∀ j, j < ops.length → X j = true) → Inv P ops base s' nt ρ0 H0 w0 a0 X k ρ A a w → Q .normal a w) :
    ∀ (fuel : Nat) (listed : Array Bool) (k : Nat) (ρ : Env) (A : AHeap) (a : Act) (w : World), listed.size = opsA.size → listed.toList.count false = fuel → Inv P ops base s' nt ρ0 H0 w0 a0 (fun j => listed.getD j false) k ρ A a w →
      wpAnyIn (fenceOf ro) 0 P .any opsA Q fuel listed a w := by
  have hsz : opsA.size = ops.length := by rw [← hops]; simp
  have all : ∀ (listed : Array Bool), listed.size = opsA.size → Region.ready .any opsA listed = [] → ∀ j, j < ops.length → listed.getD j false = true := by
    intro listed hl hr j
    induction j using Nat.strongRecOn with
    | ind j ih =>
      intro hj
      cases hx : listed.getD j false with
      | true => rfl
      | false =>
        exfalso
        obtain ⟨o, ho⟩ : ∃ o, ops[j]? = some o := ⟨ops[j], by simp [hj]⟩
        have hoA : opsA[j]? = some o := by rw [← hops] at ho; simpa using ho
        have : j ∈ Region.ready .any opsA listed := (ready_iff hl).2 ⟨o, hoA, hx, fun e he => by
          have := edge_lt hKn.ok ho he
          exact ih e this (by omega)⟩
        rw [hr] at this; cases this
  intro fuel
  induction fuel with
  | zero =>
    intro listed k ρ A a w hl hc hI
    have hall : ∀ j, j < ops.length → listed.getD j false = true := by
      intro j hj
      have hj' : j < listed.size := by omega
      cases hx : listed.getD j false with
      | true => rfl
      | false =>
        exfalso
        have hm : false ∈ listed.toList := by
          rw [List.mem_iff_getElem?]
          refine ⟨j, ?_⟩
          simp only [Array.getD_eq_getD_getElem?] at hx
          simp [hj'] at hx ⊢
          exact hx
        have := List.count_pos_iff.2 hm
        omega
    refine ⟨?_, hQ _ k ρ A a w hall hI⟩
    cases hr : Region.ready .any opsA listed with
    | nil => rfl
    | cons j r =>
      exfalso
      have : j ∈ Region.ready .any opsA listed := by rw [hr]; exact List.mem_cons_self ..
      obtain ⟨o, h1, h2, _⟩ := (ready_iff hl).1 this
      have hj : j < ops.length := by have := (Array.getElem?_eq_some_iff.1 h1).1; omega
      rw [hall j hj] at h2; cases h2
  | succ fuel ih =>
    intro listed k ρ A a w hl hc hI
    refine ⟨fun hr => hQ _ k ρ A a w (all listed hl hr) hI, ?_⟩
    intro i hi
    obtain ⟨o, h1, h2, h3⟩ := (ready_iff hl).1 hi
    have hiA := (Array.getElem?_eq_some_iff.1 h1).1
    have ho : ops[i]? = some o := by rw [← hops]; simpa using h1
    refine hI.stepOp hK hR hops hKn hT hbase hin ro ho h2 ?_ ?_
    · intro x hx
      obtain ⟨e, he, h4⟩ := (mask_bit hKn.ok ho).1 hx
      rcases h4 with rfl | h4
      · exact h3 x he
      · exact (hI.closed e (h3 e he)).2 x h4
    · intro k' ρ' A' a' w' hI'
      refine ih _ k' ρ' A' a' w' (by simpa using hl) ?_ (by rw [listed_set (by omega)]; exact hI')
      have hil : i < listed.toList.length := by simp; omega
      have hfalse : listed.toList[i] = false := by
        simp only [Array.getD_eq_getD_getElem?] at h2
        have : i < listed.size := by omega
        simpa [this] using h2
      rw [Array.toList_setIfInBounds, List.count_set hil]
      simp [hfalse, hc]

/-- regions that draw their order -/
theorem draw_ok (hK : HooksOk P K) (hmix : P.follows .mixedOrders = true) : ∀ R, RecOk P R → DrawOk P K R := by
  intro R hR kept nt id opsA T ds a ro ρ H w out hH hT hD hok h hg
  refine wpIn_region_any hmix ?_
  unfold drawOut at h
  split at h
  · rename_i s' hs
    unfold keepOut at h
    split at h
    · rename_i T' hk
      subst h
      obtain ⟨hE, hF⟩ := draw_facts hok opsA.toList 0 (masks opsA.toList) ⟨[], ⟨Nat.add H.next opsA.toList.length, H.tr⟩, 0, [], [], []⟩ s' hs (by simp) (by simp) (by simp) rfl
      obtain ⟨lv, v1, v2⟩ := hE.vs
      obtain ⟨lp, p1, p2⟩ := hE.past
      obtain ⟨lq, q1, q2, q3⟩ := hE.pastOne
      obtain ⟨ln, n1, n2, n3⟩ := hE.news
      have hpast : s'.past = lp := by rw [p1]; simp
      have hpast' : s'.past = lq := by rw [q1]; simp
      have hnews : s'.news = ln := by rw [n1]; simp
      have hKn : Known P K R opsA.toList H.next T s' := by
        refine ⟨hok, fun j o ho => hF j o (Nat.zero_le _) ho, ?_, by rw [hpast']; exact q3, ?_, ?_⟩
        · intro k p hp
          have : p ∈ s'.past := List.mem_reverse.1 (List.mem_of_getElem? hp)
          rw [hpast] at this
          exact (p2 p this).2
        · intro p hp
          rw [hnews] at hp
          exact (n2 p hp).2
        · rw [hnews]; exact n3
      have hin : Within nt opsA.toList := fun j o d h1 h2 => keepC_within hk j o d (List.getElem?_eq_some_iff.1 h1).1 h1 h2
      have h0H : stH s' 0 = ⟨H.next + opsA.toList.length, H.tr⟩ := hE.heap
      have h0L : stL s' 0 = 0 := hE.laid
      have s0 : Step P ρ H w ρ ⟨H.next + opsA.toList.length, H.tr⟩ { w with drawn := w.drawn + 1 } := by
        have hb : Step P ρ H w ρ H { w with drawn := w.drawn + 1 } := .heap_eq hH rfl ⟨rfl, rfl, rfl⟩
        refine ⟨hb.le, ⟨hb.rel.obj, hb.rel.sep, fun b c hbc => by have := hb.rel.fresh b c hbc; show b < H.next + opsA.toList.length; omega⟩, by show H.next ≤ H.next + _; omega, hb.news, hb.size, hb.frame, hb.img, hb.same⟩
      have hI : Inv P opsA.toList H.next s' nt ρ H w a (fun j => (Array.replicate opsA.size false).getD j false) 0 ρ ⟨H.next + opsA.toList.length, H.tr⟩ a { w with drawn := w.drawn + 1 } := by
        have hX : ∀ j, (Array.replicate opsA.size false).getD j false = false := by
          intro j
          simp only [Array.getD_eq_getD_getElem?]
          by_cases hj : j < opsA.size <;> simp [hj]
        refine ⟨?_, by omega, ?_, s0, by rw [h0H], by rw [h0H]; exact Nat.le_refl _, ?_, ?_, ?_, ?_, ?_, ?_, rfl, hT.1, ?_, ?_⟩
        · intro k' p _
          simp only [hX]
          constructor
          · intro h; cases h
          · intro h; omega
        · intro j hj; simp only [hX] at hj; cases hj
        · intro b e hb; rw [h0H]; exact .inl hb
        · intro b e hb; rw [h0H] at hb; exact hb
        · intro p _ hp; simp only [hX] at hp; cases hp
        · intro j _ _
          rw [h0H]
          cases hb : (⟨H.next + opsA.toList.length, H.tr⟩ : AHeap).get (H.next + j) with
          | none => rfl
          | some e =>
            obtain ⟨c, _, h1, _⟩ := hH.obj _ e hb
            have := hH.fresh _ _ h1
            omega
        · intro x hx; rw [h0L] at hx; simp at hx
        · intro j _ _
          cases hb : ρ.blk (H.next + j) with
          | none => rfl
          | some c => have := hH.fresh _ _ hb; omega
        · intro j o d hj; simp only [hX] at hj; cases hj
        · intro t _; rfl
      refine any_walk hK hR rfl hKn hT rfl hin ro ?_ opsA.size (Array.replicate opsA.size false) 0 ρ _ a _ (by simp) (by simp) hI
      intro X k ρ' A a' w' hall hI'
      have hkm : k = s'.past.length := by
        rcases Nat.lt_or_ge k s'.past.length with h1 | h1
        · exfalso
          obtain ⟨pp, hpp⟩ : ∃ pp, s'.past.reverse[k]? = some pp := ⟨s'.past.reverse[k]'(by simpa using h1), by rw [List.getElem?_eq_getElem]⟩
          obtain ⟨o, ho, _⟩ := hKn.pastOk k pp hpp
          have := (hI'.effs k pp hpp).1 (hall _ (List.getElem?_eq_some_iff.1 ho).1)
          omega
        · have := hI'.kle; omega
      have hrn : s'.past.reverse[k]? = none := by rw [hkm]; simp
      have hSH : stH s' k = s'.H := by simp [stH, hrn]
      have hSL : stL s' k = s'.laid := by simp [stL, hrn]
      have hvs : s'.vs.length = opsA.toList.length := by rw [v1]; simp [v2]
      refine ⟨ρ', hI'.step.shrink (by rw [layM_next, hI'.next, hSH]) ?_, ?_, ?_⟩
      · intro b e hb
        rcases layM_get hb with h1 | ⟨p, g1, g2, g3, g4, g5⟩
        · exact hI'.old b e (by rw [hSH]; exact h1)
        · obtain ⟨o, ho, _⟩ := hKn.newsOk p g1
          have := hI'.made p g1 (hall _ (List.getElem?_eq_some_iff.1 ho).1) (by rw [hSL]; exact g4)
          rw [g2, g5]; exact this
      · refine keep_sound (ρ := ρ') (a0 := a) ⟨hI'.defers, hI'.size, hvs, ?_, ?_⟩ (hT.mono hI'.step.le) hk
        · intro j o d hj ho hd
          exact hI'.done j o d (hall j hj) ho hd
        · intro t ht
          exact hI'.rest t (fun j o _ ho => ht j o (List.getElem?_eq_some_iff.1 ho).1 ho)
      · rw [hI'.defers]; exact hD.mono hI'.step.le
    · subst h; exact hg.elim
  · subst h; exact hg.elim
end
end Go.Proofs.YtpmildboffolkaaGreat.Abs

namespace Go.Proofs.YtpmildboffolkaaGreat.Abs
variable {P : Program}

/-! ## Functions taken by what they come to -/
def ExtOk (P : Program) (f : Nat) (h : List AV → AHeap → Res) : Prop :=
  ∀ args H v H', h args H = .ok v H' → ∀ ρ w cargs, HRel P ρ H w → AV.concL ρ args = some cargs → Lands P ((callFunc f cargs.toArray).run P w) (Post P ρ H w v H')

theorem run_extern {f : Nat} {fn : Func} {e : Array Value → Sem Value} (hfn : P.funcs[f]? = some fn) (hn : (fn.name == "runtime.NumGoroutine") = false) (hb : fn.body.isNone = true) (hx : Extern.findNext fn = none) (he : Extern.find fn = some e) (args : Array Value) (w : World) :
    (callFunc f args).run P w = (do pure (Next.value (← e args)) : Sem Next).run P w := by
  simp only [callFunc, Sem.run_bind, run_program, Result.andThen, hfn, hn, hb, hx, he, run_mark, if_true, Bool.false_eq_true, if_false]

theorem clone_ok {f : Nat} {fn : Func} (hfn : P.funcs[f]? = some fn) (hn : (fn.name == "runtime.NumGoroutine") = false) (hb : fn.body.isNone = true) (hx : Extern.findNext fn = none) (he : Extern.find fn = some Extern.MapsClone.clone) : ExtOk P f cloneHook := by
  intro args H v H' h ρ w cargs hH hargs
  rw [run_extern hfn hn hb hx he]
  unfold cloneHook at h
  split at h
  · rename_i t r
    split at h
    · rename_i es c hes
      cases h
      obtain ⟨x, xs, h1, h2, rfl⟩ := concL_cons.1 hargs
      simp [AV.concL] at h2
      subst h2
      obtain ⟨m, h3, rfl⟩ := conc_iface.1 h1
      obtain ⟨cr, h4, rfl⟩ := conc_map.1 h3
      obtain ⟨cr', l, g1, g2, g3, g4⟩ := hH.mapO' hes
      rw [h4] at g2; cases g2
      have hle := Env.le_ext ρ H.next w.heap.size 0 hH.free_next
      have hrun : (Extern.MapsClone.clone #[.iface t (.map (some cr))]).run P w = .ok (.iface t (.map (some w.heap.size))) (w.alloc (.map l.toArray c)) := by
        change Sem.run P (do
          match ← getObj cr with
          | .map entries clock => do pure (Value.iface t (.map (some (← newObj (.map entries clock)))))
          | _ => stuck "maps.clone: a map expected") w = _
        simp [run_getObj_map g4, Result.andThen]
      rw [run_v hrun]
      exact ⟨_, new_step (n := 0) (obj := .map l.toArray c) hH rfl ⟨rfl, rfl, rfl⟩ ⟨l, concE_mono hle _ _ g3, rfl⟩, by simp [AV.conc]⟩
    · cases h
  · cases h

theorem bytesLess_asymm : ∀ {a b : List UInt8}, Op.bytesLess a b = true → Op.bytesLess b a = false
  | [], [], h => by simp [Op.bytesLess] at h
  | [], _ :: _, _ => by simp [Op.bytesLess]
  | _ :: _, [], h => by simp [Op.bytesLess] at h
  | x :: a, y :: b, h => by
    simp only [Op.bytesLess, Bool.or_eq_true, Bool.and_eq_true, decide_eq_true_eq, beq_iff_eq] at h
    simp only [Op.bytesLess, Bool.or_eq_false_iff, Bool.and_eq_false_iff, decide_eq_false_iff_not]
    rcases h with h | ⟨rfl, h⟩
    · refine ⟨fun h' => ?_, .inl ?_⟩
      · exact absurd (UInt8.lt_trans h h') (UInt8.lt_irrefl _)
      · simp; intro e; subst e; exact absurd h (UInt8.lt_irrefl _)
    · exact ⟨UInt8.lt_irrefl _, .inr (bytesLess_asymm h)⟩

theorem compareBytes_less : ∀ (a b : List UInt8), Lib.compareBytes a b = if Op.bytesLess a b then -1 else if Op.bytesLess b a then 1 else 0
  | [], [] => by simp [Lib.compareBytes, Op.bytesLess]
  | [], _ :: _ => by simp [Lib.compareBytes, Op.bytesLess]
  | _ :: _, [] => by simp [Lib.compareBytes, Op.bytesLess]
  | x :: a, y :: b => by
    simp only [Lib.compareBytes, Op.bytesLess]
    by_cases h1 : x < y
    · simp [h1]
    · by_cases h2 : y < x
      · have hne : (x == y) = false := by simp; intro e; subst e; exact absurd h2 (UInt8.lt_irrefl _)
        have hne' : (y == x) = false := by simp; intro e; subst e; exact absurd h2 (UInt8.lt_irrefl _)
        simp [h1, h2, hne]
      · have he : x = y := by
          rcases UInt8.lt_or_lt_of_ne (a := x) (b := y) with h
          by_cases e : x = y
          · exact e
          · rcases h e with h | h
            · exact absurd h h1
            · exact absurd h h2
        subst he
        simp [h1, compareBytes_less a b]

theorem cmp_ok {f : Nat} {fn : Func} (hfn : P.funcs[f]? = some fn) (hn : (fn.name == "runtime.NumGoroutine") = false) (hb : fn.body.isNone = true) (hx : Extern.findNext fn = none) (he : Extern.find fn = some Extern.BytealgCompare.compare) : ExtOk P f cmpHook := by
  intro args H v H' h ρ w cargs hH hargs
  rw [run_extern hfn hn hb hx he]
  unfold cmpHook at h
  split at h
  · rename_i la a lb b
    cases h
    obtain ⟨x, xs, h1, h2, rfl⟩ := concL_cons.1 hargs
    obtain ⟨y, ys, h3, h4, rfl⟩ := concL_cons.1 h2
    simp [AV.concL] at h4
    subst h4
    obtain ⟨ha, rfl⟩ := conc_str.1 h1
    obtain ⟨hb', rfl⟩ := conc_str.1 h3
    have hrun : (Extern.BytealgCompare.compare #[strV la a, strV lb b]).run P w = .ok (.int .i64 (Lib.compareBytes (bytesL la a) (bytesL lb b))) w := Lib.run_compareString (P := P) ⟨(bytesL la a).toArray⟩ ⟨(bytesL lb b).toArray⟩ w
    have harr : [strV la a, strV lb b].toArray = #[strV la a, strV lb b] := rfl
    rw [harr]
    rw [run_v hrun]
    refine ⟨ρ, .refl hH, ?_⟩
    obtain ⟨l1, l2⟩ := less_strCmp ha hb'
    show some _ = some _
    congr 2
    rw [compareBytes_less]
    simp only [l1, l2]
    cases strCmp la a lb b <;> rfl
  · cases h

theorem overlaps_ok {f st bt e z : Nat} {fn : Func} (hfn : P.funcs[f]? = some fn) (hn : (fn.name == "runtime.NumGoroutine") = false) (hb : fn.body.isNone = true) (hx : Extern.findNext fn = none)
    (he : Extern.find fn = some (Extern.SlicesOverlaps.overlaps #[st, st] #[bt])) (hst : sliT P st = some e) (hz : sizeT P e = some z) : ExtOk P f overlapsHook := by
  intro args H v H' h ρ w cargs hH hargs
  rw [run_extern hfn hn hb hx he]
  unfold overlapsHook at h
  split at h
  · rename_i b o l c b' o' l' c'
    split at h
    · rename_i hc
      cases h
      simp only [Bool.and_eq_true, Bool.not_eq_true'] at hc
      obtain ⟨hne, h1, h2⟩ := hc
      have hbb : b ≠ b' := by intro e'; subst e'; simp at hne
      obtain ⟨x, xs, g1, g2, rfl⟩ := concL_cons.1 hargs
      obtain ⟨y, ys, g3, g4, rfl⟩ := concL_cons.1 g2
      simp [AV.concL] at g4
      subst g4
      obtain ⟨cb, n, k1, rfl, _, _⟩ := conc_slice g1
      obtain ⟨cb', n', k2, rfl, _, _⟩ := conc_slice g3
      unfold loneRow at h1
      split at h1
      · rename_i ls el op hg
        unfold fullRow at h2
        split at h2
        · rename_i hd tl' el' op' lk' hg'
          obtain ⟨ca, oa, a1, a2, arr, fz, rfl, ra⟩ := hH.obj b _ hg
          obtain ⟨ca', oa', b1, b2, arr', fz', rfl, rb⟩ := hH.obj b' _ hg'
          rw [k1] at a1; cases a1
          rw [k2] at b1; cases b1
          have hcc : cb ≠ cb' := by
            intro e'; subst e'
            rcases hH.sep _ _ _ _ _ hg hg' k1 k2 with e1 | ⟨e1, _⟩
            · exact hbb e1
            · cases e1
          have hfz : fz = (0, 0) := ra.plain (by rw [← ra.kind]; rfl)
          subst hfz
          have hfr : ∀ off, w.frozen? ⟨cb, off, none⟩ = false := by
            intro off; simp [World.frozen?, a2]
          have hne0 : arr'.size ≠ 0 := by
            obtain ⟨vs, r1, r2, r3⟩ := rb.cells
            obtain ⟨r4, _⟩ := concC_cells.1 r1
            have hl := concL_length r4
            cases op' with
            | false => have := r2 rfl; rw [← Array.length_toList, this, hl]; simp
            | true => obtain ⟨r, hr⟩ := r3 rfl; rw [← Array.length_toList, hr, List.length_append, hl]; simp
          have hrun := Lib.run_overlaps_apart w st bt e (sliT_eq hst) z (run_sizeT hz) ⟨cb, o, none⟩ ⟨cb', o', none⟩ l n l' n' hcc el el' arr.size arr'.size (by simp [World.shape?, a2]) (by simp [World.shape?, b2]) hne0 (hfr o) (hfr _)
          rw [run_v hrun]
          exact ⟨ρ, .refl hH, rfl⟩
        · cases h2
      · cases h1
    · cases h
  · cases h

theorem findM_eq (name : String) : ∀ (l : List Method), findM name l = l.find? (fun x => x.name == name)
  | [] => rfl
  | m :: l => by
    unfold findM
    rw [List.find?_cons]
    by_cases h : m.name = name
    · simp [h]
    · have h' : (m.name == name) = false := by simpa using h
      simp only [h, decide_false, h']
      exact findM_eq name l

theorem inv_ok {name : String} {t f : Nat} (h : hookInv P name t = some f) (v : Value) (w : World) : (method (P.types.size + Made.depth) t v name).run P w = .ok (f, v) w := by
  unfold hookInv at h
  split at h
  · rename_i i hi
    split at h
    · rename_i m hm
      have hfind : i.methods.find? (fun x => x.name == name) = some m := by
        rw [← Array.find?_toList, ← findM_eq]; exact hm
      have hd : P.types.size + Made.depth = (P.types.size + (Made.depth - 1)) + 1 := rfl
      split at h
      · rename_i g hp hf
        split at h
        · rename_i hs
          cases h
          have hu : ∃ fs, P.underlying t = some (.struct fs) := by
            unfold isStructT at hs
            split at hs
            · rename_i d hd
              split at hs
              · rename_i fs hf; exact ⟨fs, by rw [hd, fieldsD_eq hf]⟩
              · cases hs
            · cases hs
          obtain ⟨fs, hu⟩ := hu
          rw [hd]
          unfold method
          simp only [Sem.run_bind, typeInfo, run_program, Result.andThen, hi, hfind, Sem.run_pure, hp, follow, hf]
          simp [receiverAt, Place.get, run_underlying hu, Result.andThen]
        · cases h
      · rename_i g hp hf
        split at h
        · rename_i hs
          cases h
          have hu : ∃ e, P.underlying t = some (.pointer e) := by
            unfold isPtrT at hs
            split at hs
            · rename_i e he; exact ⟨e, he⟩
            · cases hs
          obtain ⟨e, hu⟩ := hu
          rw [hd]
          unfold method
          simp only [Sem.run_bind, typeInfo, run_program, Result.andThen, hi, hfind, Sem.run_pure, hp, follow, hf]
          simp [receiverAt, Place.get, run_underlying hu, Result.andThen]
        · cases h
      · cases h
    · cases h
  · cases h
end Go.Proofs.YtpmildboffolkaaGreat.Abs
