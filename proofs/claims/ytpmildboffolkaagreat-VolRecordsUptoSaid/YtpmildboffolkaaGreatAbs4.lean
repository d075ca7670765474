/-
  Calls, regions in the order of the text, code and functions of the interpreter are sound; the conditions stand in each theorem.
-/
import Derived.Test.YtpmildboffolkaaGreatAbs3
import Derived.RangeFuncCalls
import Derived.LoopNIn
import Derived.Scope
set_option linter.unusedVariables false
set_option linter.unusedSimpArgs false
namespace Go.Proofs.YtpmildboffolkaaGreat.Abs
variable {P : Program} {ρ : Env} {H : AHeap} {w : World}

/-! ## Calls -/
/-- what an operation's run leads to -/
def Lands (P : Program) (r : Result Next) (post : Value → World → Prop) : Prop :=
  match r with
  | .ok (.value v) w' => post v w'
  | .ok .skip w' => post undef w'
  | .ok (.enter f args) w' => CallsIn Fence.wide 0 P f args w' fun e w'' => ∃ v, e = .returned v ∧ post v w''
  | .ok (.round l f tmps assign body) w' => RoundIn Fence.wide 0 P l f tmps assign body w' fun e w'' => ∃ v, e = .returned v ∧ post v w''
  | _ => False

def Post (P : Program) (ρ : Env) (H : AHeap) (w : World) (v : AV) (H' : AHeap) (c : Value) (w' : World) : Prop :=
  ∃ ρ', Step P ρ H w ρ' H' w' ∧ v.conc ρ' = some c

theorem Lands.mono {r : Result Next} {p q : Value → World → Prop} (h : Lands P r p) (hpq : ∀ v w, p v w → q v w) : Lands P r q := by
  unfold Lands at h ⊢
  split at h
  · exact hpq _ _ h
  · exact hpq _ _ h
  · exact CallsIn.mono h fun e w' ⟨v, h1, h2⟩ => ⟨v, h1, hpq _ _ h2⟩
  · exact RoundIn.mono h fun e w' ⟨v, h1, h2⟩ => ⟨v, h1, hpq _ _ h2⟩
  · exact h.elim

/-- the fence of a frame: a plain one, or a round's -/
def fenceOf : Option Nat → Fence
  | none => Fence.wide
  | some l => Fence.wide.inRound l

theorem Lands.upon {r : Result Next} {post : Value → World → Prop} {o : Oper} {a : Act} {next : Act → World → Prop} {Q : Exit → Act → World → Prop} (ro : Option Nat) (h : Lands P r post) (hn : ∀ v w, post v w → next (a.put o.dst v) w) :
    o.uponIn (fenceOf ro) 0 P a next Q r := by
  unfold Lands at h
  split at h
  · exact hn _ _ h
  · exact hn _ _ h
  · rename_i f args w'
    rw [Oper.uponIn_enter]
    refine ⟨by cases ro <;> simp [fenceOf, Fence.wide], ?_⟩
    have h' : CallsIn (fenceOf ro) 0 P f args w' fun e w'' => ∃ v, e = .returned v ∧ post v w'' := by
      cases ro with
      | none => exact h
      | some l => exact CallsIn.inRound l h
    refine CallsIn.mono h' fun e w'' ⟨v, h1, h2⟩ => ?_
    subst h1
    exact hn _ _ h2
  · rename_i l f tmps assign body w'
    rw [Oper.uponIn_round]
    refine ⟨by cases ro <;> simp [fenceOf, Fence.wide], ?_⟩
    have h' : RoundIn (fenceOf ro) 0 P l f tmps assign body w' fun e w'' => ∃ v, e = .returned v ∧ post v w'' := by
      cases ro with
      | none => exact h
      | some l => exact h
    refine RoundIn.mono h' fun e w'' ⟨v, h1, h2⟩ => ?_
    subst h1
    exact hn _ _ h2
  · exact h.elim

structure HooksOk (P : Program) (K : Hooks) : Prop where
  ext : ∀ f h args H v H', K.ext f = some h → h args H = .ok v H' → ∀ ρ w cargs, HRel P ρ H w → AV.concL ρ args = some cargs → Lands P ((callFunc f cargs.toArray).run P w) (Post P ρ H w v H')
  inv : ∀ name t f, K.inv name t = some f → ∀ v w, (method (P.types.size + Made.depth) t v name).run P w = .ok (f, v) w

def CallOk (P : Program) (call : Nat → List AV → AHeap → Res) : Prop :=
  ∀ f args H v H', call f args H = .ok v H' → ∀ ρ w cargs, HRel P ρ H w → AV.concL ρ args = some cargs →
    (callFunc f cargs.toArray).run P w = .ok (.enter f cargs.toArray) w ∧ CallsIn Fence.wide 0 P f cargs.toArray w fun e w'' => ∃ c, e = .returned c ∧ Post P ρ H w v H' c w''

/-- the marks of ranges over functions -/
def DRel (ρ : Env) : List Nat → List Deferred → Prop
  | [], [] => True
  | d :: ds, x :: xs => (∃ c, ρ.blk d = some c ∧ x = { target := .collected c, args := #[] }) ∧ DRel ρ ds xs
  | _, _ => False
theorem DRel.mono {ρ ρ' : Env} (h : ρ.Le ρ') : ∀ {ds : List Nat} {xs : List Deferred}, DRel ρ ds xs → DRel ρ' ds xs
  | [], [], _ => trivial
  | [], _ :: _, k => k.elim
  | _ :: _, [], k => k.elim
  | _ :: _, _ :: _, ⟨⟨c, h1, h2⟩, k⟩ => ⟨⟨c, (h _ _ h1).1, h2⟩, DRel.mono h k⟩

/-- how code is left -/
def OutPost (P : Program) (ρ : Env) (H : AHeap) (w : World) (kept nt : Nat) (out : Out) (e : Exit) (a : Act) (w' : World) : Prop :=
  match out, e with
  | .norm T ds H', .normal => ∃ ρ', Step P ρ H w ρ' H' w' ∧ TRel ρ' kept nt T a.tmps ∧ DRel ρ' ds a.defers
  | .ex .ret T ds H', .ret => ∃ ρ', Step P ρ H w ρ' H' w' ∧ TRel ρ' kept nt T a.tmps ∧ DRel ρ' ds a.defers
  | .ex (.exit i) T ds H', .exit j => i = j ∧ ∃ ρ', Step P ρ H w ρ' H' w' ∧ TRel ρ' kept nt T a.tmps ∧ DRel ρ' ds a.defers
  | .ex (.goto i) T ds H', .goto j => i = j ∧ ∃ ρ', Step P ρ H w ρ' H' w' ∧ TRel ρ' kept nt T a.tmps ∧ DRel ρ' ds a.defers
  | _, _ => False

def Out.good : Out → Prop
  | .bad => False
  | _ => True

theorem OutPost.pre {ρ ρ1 : Env} {H H1 : AHeap} {w w1 : World} {kept nt : Nat} {out : Out} {e : Exit} {a : Act} {w' : World} (h : Step P ρ H w ρ1 H1 w1) (k : OutPost P ρ1 H1 w1 kept nt out e a w') : OutPost P ρ H w kept nt out e a w' := by
  unfold OutPost at k ⊢
  split at k
  · obtain ⟨ρ', k1, k2⟩ := k; exact ⟨ρ', h.trans k1, k2⟩
  · obtain ⟨ρ', k1, k2⟩ := k; exact ⟨ρ', h.trans k1, k2⟩
  · obtain ⟨k0, ρ', k1, k2⟩ := k; exact ⟨k0, ρ', h.trans k1, k2⟩
  · obtain ⟨k0, ρ', k1, k2⟩ := k; exact ⟨k0, ρ', h.trans k1, k2⟩
  · exact k.elim

def CodeOk (P : Program) (code : Nat → Nat → Code → Nat → Tr AV → AHeap → Out) : Prop :=
  ∀ kept nt c l T H, (code kept nt c l T H).good → ∀ ρ w cl a, HRel P ρ H w → ρ.blk l = some cl → TRel ρ kept nt T a.tmps → a.defers = [] →
    c.wpIn (fenceOf (some cl)) 0 P (OutPost P ρ H w kept nt (code kept nt c l T H)) a w

structure RecOk (P : Program) (R : Rec) : Prop where
  call : CallOk P R.call
  code : CodeOk P R.code

theorem asLoop_eq {e : Option AEnt} {st : LoopState} {pd : Option Code} {q : ALoop} (h : asLoop e = some (st, pd, q)) : e = some ⟨.loop st pd q, none⟩ := by
  unfold asLoop at h
  split at h
  · cases h; rfl
  · cases h

theorem HRel.loop (hH : HRel P ρ H w) {l : Nat} {st : LoopState} {pd : Option Code} {q : ALoop} (h : asLoop (H.get l) = some (st, pd, q)) :
    ∃ cl fn tm df, ρ.blk l = some cl ∧ w.heap[cl]? = some (.loop { state := st, pending := pd, fn := fn, tmps := tm, params := q.params.toArray, assign := q.assign, body := q.body, defers := df }) ∧ ρ.blk q.defers = some df ∧ TRel ρ q.kept q.nt q.tmps tm := by
  obtain ⟨cl, o, h1, h2, h3⟩ := hH.obj l _ (asLoop_eq h)
  obtain ⟨fn, tm, df, rfl, h4, h5⟩ := h3
  exact ⟨cl, fn, tm, df, h1, h2, h4, h5⟩

/-- a loop's record is changed -/
theorem loop_put (hH : HRel P ρ H w) {l cl : Nat} {st st' : LoopState} {pd pd' : Option Code} {q : ALoop} (h : asLoop (H.get l) = some (st, pd, q)) (hcl : ρ.blk l = some cl) {r : Loop} (hr : w.heap[cl]? = some (.loop r)) :
    Step P ρ H w ρ (H.put l none (.loop st' pd' q)) (w.putObj cl (.loop { r with state := st', pending := pd' })) := by
  obtain ⟨cl', fn, tm, df, h1, h2, h3, h4⟩ := hH.loop h
  rw [hcl] at h1; cases h1
  rw [hr] at h2
  cases h2
  exact set_step hH (asLoop_eq h) hcl hr ⟨fn, tm, df, rfl, h3, h4⟩

theorem TRel.set {kept nt : Nat} {T : Tr AV} {tmps : Array Value} (h : TRel ρ kept nt T tmps) {p : Nat} {x : AV} {c : Value} (hx : x.conc ρ = some c) (hp : p < nt) :
    TRel ρ kept nt (match Nat.testBit kept p with | true => T.set p (some x) | false => T) (tmps.setIfInBounds p c) := by
  refine ⟨by simp [h.1], ?_⟩
  intro t y hy
  cases hk : Nat.testBit kept p with
  | true =>
    simp only [hk, Tr.get_set] at hy
    by_cases e : t = p
    · subst e
      simp only [if_true, Option.some.injEq] at hy
      subst hy
      exact ⟨hk, c, hx, by simp [h.1, hp]⟩
    · simp only [e, if_false] at hy
      obtain ⟨h1, v, h2, h3⟩ := h.2 t y hy
      have : p ≠ t := fun e' => e e'.symm
      exact ⟨h1, v, h2, by rw [Array.getElem?_setIfInBounds_ne this]; exact h3⟩
  | false =>
    simp only [hk] at hy
    obtain ⟨h1, v, h2, h3⟩ := h.2 t y hy
    have : p ≠ t := by intro e'; subst e'; rw [hk] at h1; cases h1
    exact ⟨h1, v, h2, by rw [Array.getElem?_setIfInBounds_ne this]; exact h3⟩

theorem setParams_sound {kept nt : Nat} : ∀ {ps : List Nat} {as : List AV} {cs : List Value} {T T' : Tr AV} {tmps : Array Value}, TRel ρ kept nt T tmps → AV.concL ρ as = some cs → setParams kept nt ps as T = some T' →
    ps.length = cs.length ∧ TRel ρ kept nt T' ((ps.zip cs).foldl (fun tmps (p : Nat × Value) => tmps.setIfInBounds p.1 p.2) tmps)
  | [], [], cs, T, T', tmps, h, hc, hs => by
    simp only [setParams] at hs
    cases hs
    cases hc
    exact ⟨rfl, h⟩
  | [], _ :: _, cs, T, T', tmps, h, hc, hs => by simp [setParams] at hs
  | _ :: _, [], cs, T, T', tmps, h, hc, hs => by simp [setParams] at hs
  | p :: ps, a :: as, cs, T, T', tmps, h, hc, hs => by
    obtain ⟨x, xs, h1, h2, rfl⟩ := concL_cons.1 hc
    simp only [setParams] at hs
    split at hs
    · rename_i hlt
      have hlt' : p < nt := by simpa [Nat.blt_eq] using hlt
      obtain ⟨k1, k2⟩ := setParams_sound (h.set h1 hlt') h2 hs
      exact ⟨by simp [k1], k2⟩
    · cases hs

theorem leaveRound_sound (hH : HRel P ρ H w) {l cl : Nat} (hcl : ρ.blk l = some cl) {jump : Option Code} {v : AV} {H' : AHeap} (h : leaveRound l jump H = .ok v H') :
    ∃ c w', (Instr.endRound cl jump).run P w = .ok c w' ∧ Post P ρ H w v H' c w' := by
  unfold leaveRound at h
  split at h
  · rename_i st pd q ha
    obtain ⟨cl', fn, tm, df, h1, h2, h3, h4⟩ := hH.loop ha
    rw [hcl] at h1; cases h1
    have hr := run_endRound (P := P) jump h2
    split at h
    · cases h
      exact ⟨_, _, hr, ρ, loop_put (st' := .ready) (pd' := none) hH ha hcl h2, rfl⟩
    · rename_i c
      cases h
      exact ⟨_, _, hr, ρ, loop_put (st' := .done) (pd' := some c) hH ha hcl h2, rfl⟩
  · cases h

theorem roundV_sound {R : Rec} (hR : RecOk P R) (hH : HRel P ρ H w) {l cl : Nat} (hcl : ρ.blk l = some cl) {args : List AV} {cs : List Value} (hargs : AV.concL ρ args = some cs) {v : AV} {H' : AHeap} (h : roundV R l args H = .ok v H') :
    Lands P ((Instr.yield cl cs.toArray).run P w) (Post P ρ H w v H') := by
  unfold roundV at h
  split at h
  · rename_i st pd q ha
    obtain ⟨cl', fn, tm, df, h1, h2, h3, h4⟩ := hH.loop ha
    rw [hcl] at h1; cases h1
    split at h
    · rename_i T hT
      obtain ⟨hl, hTR⟩ := setParams_sound h4 hargs hT
      have hy := run_yield (P := P) (args := cs.toArray) h2 (by simp [hl])
      rw [hy]
      show RoundIn _ _ _ _ _ _ _ _ _ _
      refine roundIn_of_wpIn trivial ?_
      have hz : ((q.params.toArray.zip cs.toArray).foldl (fun (tmps : Array Value) (x : Nat × Value) => match x with | (t, a) => tmps.setIfInBounds t a) tm) = (q.params.zip cs).foldl (fun tmps (p : Nat × Value) => tmps.setIfInBounds p.1 p.2) tm := by
        simp
      unfold roundBody at h
      split at h
      · rename_i T1 H1 hc1
        have hw := hR.code q.kept q.nt q.assign l T H (by rw [hc1]; trivial) ρ w cl { tmps := (q.params.zip cs).foldl (fun tmps (p : Nat × Value) => tmps.setIfInBounds p.1 p.2) tm, defers := [] } hH hcl hTR rfl
        rw [hc1] at hw
        rw [hz]
        refine wpIn_mono hw ?_
        intro e a w1 ho
        unfold OutPost at ho
        split at ho <;> rename_i hout <;> try (simp at hout; done)
        · cases hout
          obtain ⟨ρ1, s1, t1, d1⟩ := ho
          show ∃ w₂, _ ∧ _
          split at h
          · rename_i st1 pd1 q1 ha1
            split at h
            · rename_i hready
              obtain ⟨cl1, fn1, tm1, df1, g1, g2, g3, g4⟩ := s1.rel.loop ha1
              have hcl1 : ρ1.blk l = some cl := (s1.le _ _ hcl).1
              rw [hcl1] at g1; cases g1
              have hst : st1 = .ready := by cases st1 <;> simp_all [isReady]
              subst hst
              refine ⟨_, run_beginRound g2 rfl, ?_⟩
              have s2 := loop_put (st' := .busy) (pd' := pd1) s1.rel ha1 hcl1 g2
              have hd : a.defers = [] := by
                cases hda : a.defers with
                | nil => rfl
                | cons x y => rw [hda] at d1; exact d1.elim
              cases hc2 : R.code q.kept q.nt q.body l T1 (H1.put l none (.loop .busy pd1 q1)) with
              | bad => rw [hc2] at h; simp [endRoundV] at h
              | norm T2 ds2 H2 =>
                have hw2 := hR.code q.kept q.nt q.body l T1 (H1.put l none (.loop .busy pd1 q1)) (by rw [hc2]; trivial) ρ1 _ cl a s2.rel hcl1 t1 hd
                rw [hc2] at hw2 h
                refine wpIn_mono hw2 ?_
                intro e2 a2 w2 ho2
                unfold OutPost at ho2
                split at ho2 <;> rename_i hout <;> try (simp at hout; done)
                · cases hout
                  simp only [endRoundV] at h
                  obtain ⟨ρ2, s3, _, _⟩ := ho2
                  obtain ⟨c, w3, k1, k2⟩ := leaveRound_sound s3.rel ((s3.le _ _ hcl1).1) h
                  obtain ⟨ρ3, s4, k3⟩ := k2
                  exact ⟨c, w3, k1, c, rfl, ρ3, ((s1.trans s2).trans s3).trans s4, k3⟩
                · exact ho2.elim
              | ex e0 T2 ds2 H2 =>
                have hw2 := hR.code q.kept q.nt q.body l T1 (H1.put l none (.loop .busy pd1 q1)) (by rw [hc2]; trivial) ρ1 _ cl a s2.rel hcl1 t1 hd
                rw [hc2] at hw2 h
                refine wpIn_mono hw2 ?_
                intro e2 a2 w2 ho2
                unfold OutPost at ho2
                split at ho2 <;> rename_i hout <;> try (simp at hout; done)
                · cases hout
                  simp only [endRoundV] at h
                  obtain ⟨ρ2, s3, _, _⟩ := ho2
                  obtain ⟨c, w3, k1, k2⟩ := leaveRound_sound s3.rel ((s3.le _ _ hcl1).1) h
                  obtain ⟨ρ3, s4, k3⟩ := k2
                  exact ⟨c, w3, k1, c, rfl, ρ3, ((s1.trans s2).trans s3).trans s4, k3⟩
                · cases hout
                  simp only [endRoundV] at h
                  obtain ⟨rfl, ρ2, s3, _, _⟩ := ho2
                  obtain ⟨c, w3, k1, k2⟩ := leaveRound_sound s3.rel ((s3.le _ _ hcl1).1) h
                  obtain ⟨ρ3, s4, k3⟩ := k2
                  exact ⟨c, w3, k1, c, rfl, ρ3, ((s1.trans s2).trans s3).trans s4, k3⟩
                · cases hout
                  simp only [endRoundV] at h
                  obtain ⟨rfl, ρ2, s3, _, _⟩ := ho2
                  obtain ⟨c, w3, k1, k2⟩ := leaveRound_sound s3.rel ((s3.le _ _ hcl1).1) h
                  obtain ⟨ρ3, s4, k3⟩ := k2
                  exact ⟨c, w3, k1, c, rfl, ρ3, ((s1.trans s2).trans s3).trans s4, k3⟩
                · exact ho2.elim
            · cases h
          · cases h
        · exact ho.elim
      · cases h
    · cases h
  · cases h
end Go.Proofs.YtpmildboffolkaaGreat.Abs

namespace Go.Proofs.YtpmildboffolkaaGreat.Abs
variable {P : Program} {ρ : Env} {H : AHeap} {w : World}

theorem okH_eq {x : Option AHeap} {v : AV} {H' : AHeap} (h : okH x = .ok v H') : x = some H' ∧ v = AV.undef := by
  cases x <;> simp [okH] at h
  exact ⟨by rw [h.2], h.1.symm⟩

theorem Did.lands {s : Sem Value} {v : AV} {H' : AHeap} (h : Did P ρ H w s v H') : Lands P ((do pure (Next.value (← s)) : Sem Next).run P w) (Post P ρ H w v H') := by
  obtain ⟨ρ', w', c, h1, h2, h3⟩ := h
  rw [run_v h1]
  exact ⟨ρ', h2, h3⟩
theorem DidU.lands {s : Sem Unit} {H' : AHeap} (h : DidU P ρ H w s H') : Lands P ((do s; pure Next.skip : Sem Next).run P w) (Post P ρ H w AV.undef H') := by
  obtain ⟨ρ', w', h1, h2⟩ := h
  have : (do s; pure Next.skip : Sem Next).run P w = .ok .skip w' := by simp [Sem.run_bind, h1, Result.andThen]
  rw [this]
  exact ⟨ρ', h2, rfl⟩

section
variable {K : Hooks} {R : Rec}

theorem callAt_sound (hK : HooksOk P K) (hR : RecOk P R) (hH : HRel P ρ H w) {f : Nat} {args : List AV} {cs : List Value} (hargs : AV.concL ρ args = some cs) {v : AV} {H' : AHeap} (h : callAt K R f args H = .ok v H') :
    Lands P ((callFunc f cs.toArray).run P w) (Post P ρ H w v H') := by
  have call : R.call f args H = .ok v H' → Lands P ((callFunc f cs.toArray).run P w) (Post P ρ H w v H') := by
    intro h
    obtain ⟨h1, h2⟩ := hR.call f args H v H' h ρ w cs hH hargs
    rw [h1]
    exact h2
  unfold callAt at h
  split at h
  · rename_i g hg
    unfold orCall at h
    split at h
    · rename_i v1 H1 hx
      cases h
      exact hK.ext f g args H _ _ hg hx ρ w cs hH hargs
    · exact call h
  · exact call h

theorem conc_func {f : Nat} {a b : List AV} {c : Value} (h : (AV.func f a b).conc ρ = some c) : ∃ x y, AV.concL ρ a = some x ∧ AV.concL ρ b = some y ∧ c = .func (.func f) x.toArray y.toArray := by
  simp only [AV.conc] at h
  split at h
  · rename_i x y h1 h2
    cases h
    exact ⟨x, y, h1, h2, rfl⟩
  · cases h

theorem who_fn {x : AV} {f : Nat} {a b : List AV} (h : x.who = .fn f a b) : x = .func f a b := by
  cases x <;> simp [AV.who] at h
  obtain ⟨rfl, rfl, rfl⟩ := h; rfl
theorem who_round {x : AV} {l : Nat} (h : x.who = .round l) : x = .yield l := by
  cases x <;> simp [AV.who] at h
  subst h; rfl

theorem callV_sound (hK : HooksOk P K) (hR : RecOk P R) (hH : HRel P ρ H w) {fv : AV} {cf : Value} (hf : fv.conc ρ = some cf) {args : List AV} {cs : List Value} (hargs : AV.concL ρ args = some cs) {v : AV} {H' : AHeap}
    (h : callV K R fv args H = .ok v H') : Lands P ((do let d ← Deferred.ofValue cf cs.toArray; invoke d.target d.args : Sem Next).run P w) (Post P ρ H w v H') := by
  unfold callV at h
  split at h
  · rename_i f first captured hw
    rw [who_fn hw] at hf
    obtain ⟨x, y, h1, h2, rfl⟩ := conc_func hf
    have := callAt_sound hK hR hH (concL_append h1 (concL_append hargs h2)) h
    have e : (do let d ← Deferred.ofValue (.func (.func f) x.toArray y.toArray) cs.toArray; invoke d.target d.args : Sem Next).run P w = (callFunc f (x ++ (cs ++ y)).toArray).run P w := by
      simp [Deferred.ofValue, invoke]
    rw [e]
    exact this
  · rename_i l hw
    rw [who_round hw] at hf
    have hf' : ∃ cl, ρ.blk l = some cl ∧ cf = .func (.yield cl) #[] #[] := by
      simp only [AV.conc] at hf
      split at hf
      · rename_i cl hcl; cases hf; exact ⟨cl, hcl, rfl⟩
      · cases hf
    obtain ⟨cl, h1, rfl⟩ := hf'
    have := roundV_sound hR hH h1 hargs h
    have e : (do let d ← Deferred.ofValue (.func (.yield cl) #[] #[]) cs.toArray; invoke d.target d.args : Sem Next).run P w = (Instr.yield cl cs.toArray).run P w := by
      simp [Deferred.ofValue, invoke]
    rw [e]
    exact this
  · cases h

variable {ops : List Oper} {i : Nat} {T : Tr AV} {vs : List AV} {ev : Operand → Value}

theorem eff2_eq {a b : Ev (Option AV)} {f : AHeap → AV → AV → Res} {v : AV} {H' : AHeap} (h : (eff2 a b f).run T vs R H = .ok v H') : ∃ x y, a.run T vs = some x ∧ b.run T vs = some y ∧ f H x y = .ok v H' := by
  simp only [eff2] at h
  split at h
  · split at h
    · exact ⟨_, _, by assumption, by assumption, h⟩
    · cases h
  · cases h
theorem eff1_eq {a : Ev (Option AV)} {f : AHeap → AV → Res} {v : AV} {H' : AHeap} (h : (eff1 a f).run T vs R H = .ok v H') : ∃ x, a.run T vs = some x ∧ f H x = .ok v H' := by
  simp only [eff1] at h
  split at h
  · exact ⟨_, by assumption, h⟩
  · cases h

theorem cons1 (a : Value) (L : List Value) : #[a] ++ L.toArray = (a :: L).toArray := by simp
theorem ext1 (a : Value) (L : List Value) : (a :: L).toArray.extract 1 (a :: L).toArray.size = L.toArray := by
  apply Array.ext'
  simp [List.extract]

theorem effC_sound (hK : HooksOk P K) (hR : RecOk P R) {o : Oper} {v : AV} {H' : AHeap} (hH : HRel P ρ H w) (hx : OpdOk ρ ops i T vs ev o.op.operands.toList) (h : (effC P K ops i o).run T vs R H = .ok v H') :
    Lands P ((execOp ev o).run P w) (Post P ρ H w v H') := by
  unfold effC at h
  split at h <;> rename_i hop
  · rename_i t a x
    obtain ⟨p, y, h1, h2, h3⟩ := eff2_eq h
    obtain ⟨h4, rfl⟩ := okH_eq h3
    have := (storeC_sound hH (hx a (by simp [hop, Op.operands]) _ h1) (hx x (by simp [hop, Op.operands]) _ h2) h4).lands
    simpa only [execOp, hop] using this
  · rename_i t m k x
    simp only [] at h
    split at h
    · rename_i m' hm
      split at h
      · rename_i k' hk
        split at h
        · rename_i x' hx'
          obtain ⟨h4, rfl⟩ := okH_eq h
          have := (mapUpdateC_sound hH (hx m (by simp [hop, Op.operands]) _ hm) (hx k (by simp [hop, Op.operands]) _ hk) (hx x (by simp [hop, Op.operands]) _ hx') h4).lands
          simpa only [execOp, hop] using this
        · cases h
      · cases h
    · cases h
  · rename_i t m k x
    simp only [] at h
    split at h
    · rename_i m' hm
      split at h
      · rename_i k' hk
        split at h
        · rename_i x' hx'
          obtain ⟨h4, rfl⟩ := okH_eq h
          have := (mapUpdateC_sound hH (hx m (by simp [hop, Op.operands]) _ hm) (hx k (by simp [hop, Op.operands]) _ hk) (hx x (by simp [hop, Op.operands]) _ hx') h4).lands
          simpa only [execOp, hop] using this
        · cases h
      · cases h
    · cases h
  · rename_i src dst x
    simp only [] at h
    split at h
    · rename_i el hel
      obtain ⟨y, h1, h2⟩ := eff1_eq h
      have := (sameV_sound hH (hx x (by simp [hop, Op.operands]) _ h1) hel h2).lands
      simpa only [execOp, hop] using this
    · simp [noEff] at h
  · rename_i it
    obtain ⟨y, h1, h2⟩ := eff1_eq h
    have := (nextV_sound (ty := o.type) hH (hx it (by simp [hop, Op.operands]) _ h1) h2).lands
    simpa only [execOp, hop] using this
  · rename_i t x
    obtain ⟨y, h1, h2⟩ := eff1_eq h
    have := (rangeV_sound hH (hx x (by simp [hop, Op.operands]) _ h1) h2).lands
    simpa only [execOp, hop] using this
  · rename_i c
    split at h <;> rename_i hcal
    · rename_i f
      simp only [] at h
      split at h
      · rename_i as has
        split at h
        · rename_i fv hfv
          have ha := opdsC_sound (hx.sub (by simp +contextual [hop, Op.operands, Call.operands])) has
          have := callV_sound hK hR hH (hx f (by simp [hop, Op.operands, Call.operands, hcal]) _ hfv) ha h
          rw [arr_map] at this
          have e : (execOp ev o).run P w = (do let d ← Deferred.ofValue (ev f) (c.args.map ev); invoke d.target d.args : Sem Next).run P w := by
            simp only [execOp, hop, resolve, hcal]
          rw [e]
          exact this
        · cases h
      · cases h
    · rename_i r name
      simp only [] at h
      split at h
      · rename_i as has
        split at h
        · rename_i rv hrv
          split at h
          · rename_i t x hif
            split at h
            · rename_i f hinv
              have ha := opdsC_sound (hx.sub (by simp +contextual [hop, Op.operands, Call.operands])) has
              have h0 := hx r (by simp [hop, Op.operands, Call.operands, hcal]) _ hrv
              rw [asIface_eq hif] at h0
              obtain ⟨cx, h1, h2⟩ := conc_iface.1 h0
              have hargs : AV.concL ρ (x :: as) = some (cx :: c.args.toList.map ev) := concL_cons.2 ⟨_, _, h1, ha, rfl⟩
              have := callAt_sound hK hR hH hargs h
              have e : (execOp ev o).run P w = (callFunc f (cx :: c.args.toList.map ev).toArray).run P w := by
                have hm := hK.inv name t f hinv cx w
                simp only [execOp, hop, resolve, hcal, Sem.run_bind, Sem.run_pure, Result.andThen, invoke]
                rw [← arr_map ev c.args, cons1]
                have e0 : ((ev r :: c.args.toList.map ev).toArray)[0]? = some (ev r) := by simp
                rw [e0]
                simp only [ext1, h2, callMethod, Sem.run_bind, run_program, Result.andThen, hm, cons1]
              rw [e]
              exact this
            · cases h
          · cases h
        · cases h
      · cases h
    · split at h
      · rename_i s x st xt hxs hts
        obtain ⟨y, z, h1, h2, h3⟩ := eff2_eq h
        have hxs' : c.args = #[s, x] := by rw [← hxs]
        have hts' : c.argTypes = #[st, xt] := by rw [← hts]
        obtain ⟨cs, hcs⟩ := run_call_builtin P w ev hop hcal
        have := (appendC_sound (ty := o.type) hH (hx s (by simp [hop, Op.operands, Call.operands, hcal, hxs']) _ h1) (hx x (by simp [hop, Op.operands, Call.operands, hcal, hxs']) _ h2) h3).lands
        rw [hcs, hxs', hts', List.map_toArray]
        exact this
      · simp [noEff] at h
    · split at h
      · rename_i s x st xt hxs hts
        obtain ⟨y, z, h1, h2, h3⟩ := eff2_eq h
        have hxs' : c.args = #[s, x] := by rw [← hxs]
        have hts' : c.argTypes = #[st, xt] := by rw [← hts]
        obtain ⟨cs, hcs⟩ := run_call_builtin P w ev hop hcal
        have := (copyC_sound (t2 := xt) (ty := o.type) hH (hx s (by simp [hop, Op.operands, Call.operands, hcal, hxs']) _ h1) (hx x (by simp [hop, Op.operands, Call.operands, hcal, hxs']) _ h2) h3).lands
        rw [hcs, hxs', hts', List.map_toArray]
        exact this
      · simp [noEff] at h
    · split at h
      · rename_i s x st xt hxs hts
        obtain ⟨y, z, h1, h2, h3⟩ := eff2_eq h
        obtain ⟨h4, rfl⟩ := okH_eq h3
        have hxs' : c.args = #[s, x] := by rw [← hxs]
        have hts' : c.argTypes = #[st, xt] := by rw [← hts]
        obtain ⟨cs, hcs⟩ := run_call_builtin P w ev hop hcal
        have := (deleteC_sound (t2 := xt) (ty := o.type) hH (hx s (by simp [hop, Op.operands, Call.operands, hcal, hxs']) _ h1) (hx x (by simp [hop, Op.operands, Call.operands, hcal, hxs']) _ h2) h4).lands
        rw [hcs, hxs', hts', List.map_toArray]
        exact this
      · simp [noEff] at h
    · split at h
      · rename_i s st hxs hts
        obtain ⟨y, h1, h3⟩ := eff1_eq h
        have hxs' : c.args = #[s] := by rw [← hxs]
        have hts' : c.argTypes = #[st] := by rw [← hts]
        obtain ⟨cs, hcs⟩ := run_call_builtin P w ev hop hcal
        have := (clearC_sound (ty := o.type) hH (hx s (by simp [hop, Op.operands, Call.operands, hcal, hxs']) _ h1) h3).lands
        rw [hcs, hxs', hts', List.map_toArray]
        exact this
      · simp [noEff] at h
    · simp [noEff] at h
  · simp [noEff] at h
end
end Go.Proofs.YtpmildboffolkaaGreat.Abs

namespace Go.Proofs.YtpmildboffolkaaGreat.Abs
variable {P : Program} {ρ : Env} {H : AHeap} {w : World}

/-! ## Regions in the order of the text -/
/-- a frame within a region: the first i operations have been -/
structure VRel (ρ : Env) (ops : List Oper) (nt : Nat) (a0 : Act) (i : Nat) (vs : List AV) (a : Act) : Prop where
  defers : a.defers = a0.defers
  size : a.tmps.size = nt
  len : vs.length = i
  done : ∀ j o d, j < i → ops[j]? = some o → o.dst = some d → ∃ v c, vs[i - 1 - j]? = some v ∧ v.conc ρ = some c ∧ a.tmps[d]? = some c
  rest : ∀ t, (∀ j o, j < i → ops[j]? = some o → o.dst ≠ some t) → a.tmps[t]? = a0.tmps[t]?

theorem VRel.mono {ρ ρ' : Env} (h : ρ.Le ρ') {ops : List Oper} {nt : Nat} {a0 : Act} {i : Nat} {vs : List AV} {a : Act} (k : VRel ρ ops nt a0 i vs a) : VRel ρ' ops nt a0 i vs a :=
  ⟨k.defers, k.size, k.len, fun j o d h1 h2 h3 => let ⟨v, c, h4, h5, h6⟩ := k.done j o d h1 h2 h3; ⟨v, c, h4, AV.conc_mono h v c h5, h6⟩, k.rest⟩

def Once (ops : List Oper) : Prop := ∀ (j k : Nat) (o o' : Oper) (d : Nat), j < k → ops[j]? = some o → ops[k]? = some o' → o.dst = some d → o'.dst ≠ some d
def Within (nt : Nat) (ops : List Oper) : Prop := ∀ (j : Nat) (o : Oper) (d : Nat), ops[j]? = some o → o.dst = some d → d < nt

theorem dsts_mem : ∀ {ops : List Oper} {j : Nat} {o : Oper} {d : Nat}, ops[j]? = some o → o.dst = some d → d ∈ dsts ops
  | [], j, o, d, h, _ => by simp at h
  | x :: ops, 0, o, d, h, hd => by
    simp at h; subst h
    simp [dsts, hd]
  | x :: ops, j + 1, o, d, h, hd => by
    have := dsts_mem (by simpa using h) hd
    simp only [dsts]
    split
    · exact List.mem_cons_of_mem _ this
    · exact this

theorem distinct_once : ∀ {ops : List Oper}, distinct (dsts ops) = true → Once ops
  | [], _ => fun j k o o' d _ h1 _ _ => by simp at h1
  | x :: ops, h => by
    intro j k o o' d hjk h1 h2 hd hd'
    have htail : distinct (dsts ops) = true := by
      simp only [dsts] at h
      split at h
      · simp only [distinct, Bool.and_eq_true] at h; exact h.2
      · exact h
    cases k with
    | zero => omega
    | succ k =>
      cases j with
      | zero =>
        simp at h1; subst h1
        have hm := dsts_mem (by simpa using h2) hd'
        simp only [dsts, hd, distinct, Bool.and_eq_true] at h
        rw [memN_eq] at h
        have := h.1
        simp only [Bool.not_eq_true'] at this
        rw [List.contains_eq_mem] at this
        simp [hm] at this
      | succ j => exact distinct_once htail j k o o' d (by omega) (by simpa using h1) (by simpa using h2) hd hd'

theorem nthC_eq : ∀ (k : Nat) (l : List AV), (nthC k).run l = l[k]?
  | 0, [] => rfl
  | 0, _ :: _ => rfl
  | k + 1, [] => by simp [nthC, tl, nthC_eq k]
  | k + 1, _ :: l => by simp [nthC, tl, nthC_eq k]

theorem optBeq_eq {a b : Option Nat} : optBeq a b = true ↔ a = b := by
  cases a <;> cases b <;> simp [optBeq]

theorem backTo_some {ops : List Oper} {t : Nat} : ∀ {i k : Nat}, backTo ops t i = some k → k < i ∧ ∃ o, ops[i - 1 - k]? = some o ∧ o.dst = some t
  | 0, k, h => by simp [backTo] at h
  | i + 1, k, h => by
    simp only [backTo] at h
    split at h
    · rename_i hb
      cases h
      split at hb
      · rename_i o ho
        exact ⟨by omega, o, by simpa using ho, optBeq_eq.1 hb⟩
      · cases hb
    · split at h
      · rename_i k' hk
        cases h
        obtain ⟨h1, o, h2, h3⟩ := backTo_some hk
        refine ⟨by omega, o, ?_, h3⟩
        have : i + 1 - 1 - (k' + 1) = i - 1 - k' := by omega
        rw [this]; exact h2
      · cases h

theorem backTo_none {ops : List Oper} {t : Nat} : ∀ {i : Nat}, backTo ops t i = none → ∀ j o, j < i → ops[j]? = some o → o.dst ≠ some t
  | 0, _, j, o, hj, _ => by omega
  | i + 1, h, j, o, hj, ho => by
    simp only [backTo] at h
    split at h
    · cases h
    · rename_i hb
      split at h
      · cases h
      · rename_i hk
        by_cases e : j = i
        · subst e
          rw [ho] at hb
          simp only [] at hb
          intro hd
          rw [hd] at hb
          simp [optBeq] at hb
        · exact backTo_none hk j o (by omega) ho

/-- the operands of the i-th operation -/
theorem opd_ok {ops : List Oper} {kept nt : Nat} {a0 a : Act} {i : Nat} {vs : List AV} {T : Tr AV} (hV : VRel ρ ops nt a0 i vs a) (hT : TRel ρ kept nt T a0.tmps) (xs : List Operand) : OpdOk ρ ops i T vs a.eval xs := by
  intro x _ v hv
  cases x with
  | tmp t =>
    simp only [opdC] at hv
    split at hv
    · rename_i k hk
      obtain ⟨h1, o, h2, h3⟩ := backTo_some hk
      have hv : (nthC k).run vs = some v := hv
      rw [nthC_eq] at hv
      obtain ⟨v', c, g1, g2, g3⟩ := hV.done _ o t (by omega) h2 h3
      have : i - 1 - (i - 1 - k) = k := by omega
      rw [this] at g1
      rw [hv] at g1; cases g1
      rw [g2]
      simp [Act.eval, Array.getD_eq_getD_getElem?, g3]
    · rename_i hk
      have hr := hV.rest t (backTo_none hk)
      obtain ⟨_, c, g1, g2⟩ := hT.2 t v hv
      rw [g1]
      simp [Act.eval, Array.getD_eq_getD_getElem?, hr, g2]
  | const c =>
    simp only [opdC] at hv
    exact ofLit_conc hv
  | func f =>
    simp only [opdC] at hv
    cases hv
    rfl
  | global g => simp [opdC] at hv

/-- one more operation has been -/
theorem VRel.step {ops : List Oper} {nt : Nat} {a0 a : Act} {i : Nat} {vs : List AV} {o : Oper} {v : AV} {c : Value} (h : VRel ρ ops nt a0 i vs a) (ho : ops[i]? = some o) (hc : v.conc ρ = some c) (honce : Once ops) (hin : Within nt ops) :
    VRel ρ ops nt a0 (i + 1) (v :: vs) (a.put o.dst c) := by
  refine ⟨?_, ?_, by simp [h.len], ?_, ?_⟩
  · cases hd : o.dst <;> simp [Act.put, h.defers]
  · cases hd : o.dst <;> simp [Act.put, h.size]
  · intro j o' d hj ho' hd'
    by_cases e : j = i
    · subst e
      rw [ho] at ho'; cases ho'
      refine ⟨v, c, by simp, hc, ?_⟩
      have := hin j o d ho hd'
      simp [Act.put, hd', h.size, this]
    · obtain ⟨v', c', g1, g2, g3⟩ := h.done j o' d (by omega) ho' hd'
      refine ⟨v', c', ?_, g2, ?_⟩
      · have : i + 1 - 1 - j = (i - 1 - j) + 1 := by omega
        rw [this, List.getElem?_cons_succ]; exact g1
      · cases hd : o.dst with
        | none => simpa [Act.put] using g3
        | some d2 =>
          have hne := honce j i o' o d (by omega) ho' ho hd'
          rw [hd] at hne
          have : d2 ≠ d := fun e' => hne (by rw [e'])
          simp only [Act.put]
          rw [Array.getElem?_setIfInBounds_ne this]; exact g3
  · intro t ht
    have h1 := h.rest t (fun j o' hj => ht j o' (by omega))
    have h2 := ht i o (by omega) ho
    cases hd : o.dst with
    | none => simpa [Act.put] using h1
    | some d2 =>
      rw [hd] at h2
      have : d2 ≠ t := fun e' => h2 (by rw [e'])
      simp only [Act.put]
      rw [Array.getElem?_setIfInBounds_ne this]; exact h1

theorem wantedV_eq {want r : Bool} {x : Option AV} (h : wantedV want x = some r) : (∃ b, x = some (.bool b) ∧ r = (b == want)) ∨ (∃ l, x = some (.tuple l) ∧ r = false) := by
  unfold wantedV at h
  split at h
  · rename_i b
    cases h
    left
    exact ⟨b, rfl, by cases want <;> cases b <;> rfl⟩
  · cases h
    right
    exact ⟨_, rfl, rfl⟩
  · cases h

/-- a guard, seen and kept -/
theorem guardC_sound {opsA : Array Oper} {ops : List Oper} {nt : Nat} {a0 a : Act} {i : Nat} {vs : List AV} {o : Oper} {r : Bool} (hops : opsA.toList = ops) (hV : VRel ρ ops nt a0 i vs a) (h : (guardC ops i o).run vs = some r) : Region.wanted o (yielded opsA a.tmps) = r := by
  have hA : ∀ j : Nat, opsA[j]? = ops[j]? := fun j => by rw [← hops]; simp
  unfold guardC at h
  unfold Region.wanted
  split at h <;> rename_i hg
  · rw [hg]; simpa using h
  · rename_i j want
    rw [hg]
    simp only []
    split at h
    · rename_i hj
      have hj' : j < i := by simpa [Nat.blt_eq] using hj
      split at h
      · rename_i o' ho'
        split at h <;> rename_i hd
        · simp only [] at h
          rename_i d
          obtain ⟨v, c, g1, g2, g3⟩ := hV.done j o' d hj' ho' hd
          rw [nthC_eq] at h
          have hidx : (i.sub 1).sub j = i - 1 - j := rfl
          rw [hidx, g1] at h
          rcases wantedV_eq h with ⟨b, hb, hr⟩ | ⟨l, hb, hr⟩
          · cases hb
            cases g2
            simp [yielded, hA, ho', hd, g3, hr]
          · cases hb
            obtain ⟨vs', _, rfl⟩ := conc_tuple.1 g2
            simp [yielded, hA, ho', hd, g3, hr]
        · simp only [] at h
          cases h
          simp [yielded, hA, ho', hd]
      · cases h
    · cases h

theorem keepC_get {kept nt : Nat} {ops : List Oper} : ∀ {i : Nat} {vs : List AV} {T T' : Tr AV}, (keepC kept nt ops i).run vs T = some T' → ∀ t x, T'.get t = some x →
    (∃ j o, j < i ∧ ops[j]? = some o ∧ o.dst = some t ∧ vs[i - 1 - j]? = some x ∧ Nat.testBit kept t = true) ∨ (T.get t = some x ∧ (Nat.testBit kept t = true → ∀ j o, j < i → ops[j]? = some o → o.dst ≠ some t))
  | 0, vs, T, T', h, t, x, hx => by
    simp only [keepC] at h
    cases h
    exact .inr ⟨hx, fun _ j o hj => by omega⟩
  | i + 1, vs, T, T', h, t, x, hx => by
    have up : ∀ vs0 T1, (keepC kept nt ops i).run (tl vs0) T = some T1 → T1.get t = some x → (∀ o, ops[i]? = some o → Nat.testBit kept t = true → o.dst ≠ some t) →
        (∃ j o, j < i + 1 ∧ ops[j]? = some o ∧ o.dst = some t ∧ vs0[i + 1 - 1 - j]? = some x ∧ Nat.testBit kept t = true) ∨ (T.get t = some x ∧ (Nat.testBit kept t = true → ∀ j o, j < i + 1 → ops[j]? = some o → o.dst ≠ some t)) := by
      intro vs0 T1 h1 h2 h3
      rcases keepC_get h1 t x h2 with ⟨j, o, g1, g2, g3, g4, g5⟩ | ⟨g1, g2⟩
      · left
        refine ⟨j, o, by omega, g2, g3, ?_, g5⟩
        cases vs0 with
        | nil => simp [tl] at g4
        | cons y ys =>
          have : i + 1 - 1 - j = (i - 1 - j) + 1 := by omega
          rw [this, List.getElem?_cons_succ]
          exact g4
      · right
        refine ⟨g1, fun hk j o hj ho => ?_⟩
        by_cases e : j = i
        · subst e; exact h3 o ho hk
        · exact g2 hk j o (by omega) ho
    simp only [keepC] at h
    split at h
    · rename_i o ho
      split at h
      · rename_i d hd
        split at h
        · split at h
          · rename_i hk
            simp only [] at h
            split at h
            · rename_i v vs'
              split at h
              · rename_i T1 hT1
                cases h
                have hx' : (T1.set d (some v)).get t = some x := hx
                rw [Tr.get_set] at hx'
                by_cases e : t = d
                · subst e
                  simp only [if_true, Option.some.injEq] at hx'
                  subst hx'
                  exact .inl ⟨i, o, by omega, ho, hd, by simp, hk⟩
                · simp only [e, if_false] at hx'
                  exact up (v :: vs') T1 hT1 hx' (fun o' ho' _ => by rw [ho] at ho'; cases ho'; rw [hd]; intro e'; exact e (Option.some.inj e').symm)
              · cases h
            · cases h
          · rename_i hk
            exact up vs T' h hx (fun o' ho' hkt => by
              rw [ho] at ho'; cases ho'; rw [hd]; intro e'; rw [Option.some.inj e'] at hk; rw [hk] at hkt; cases hkt)
        · cases h
      · rename_i hd
        exact up vs T' h hx (fun o' ho' _ => by rw [ho] at ho'; cases ho'; rw [hd]; simp)
    · cases h

theorem keepC_within {kept nt : Nat} {ops : List Oper} : ∀ {i : Nat} {vs : List AV} {T T' : Tr AV}, (keepC kept nt ops i).run vs T = some T' → ∀ j o d, j < i → ops[j]? = some o → o.dst = some d → d < nt
  | 0, _, _, _, _, j, _, _, hj, _, _ => by omega
  | i + 1, vs, T, T', h, j, o, d, hj, ho, hd => by
    have key : (∃ vs0 T1, (keepC kept nt ops i).run vs0 T = some T1) ∧ (∀ o' d', ops[i]? = some o' → o'.dst = some d' → d' < nt) := by
      simp only [keepC] at h
      split at h
      · rename_i o1 ho1
        split at h
        · rename_i d1 hd1
          split at h
          · rename_i hlt
            have hlt' : d1 < nt := by simpa [Nat.blt_eq] using hlt
            refine ⟨?_, fun o' d' h1 h2 => by rw [ho1] at h1; cases h1; rw [hd1] at h2; cases h2; exact hlt'⟩
            split at h
            · simp only [] at h
              split at h
              · split at h
                · exact ⟨_, _, by assumption⟩
                · cases h
              · cases h
            · exact ⟨_, _, h⟩
          · cases h
        · rename_i hd1
          exact ⟨⟨_, _, h⟩, fun o' d' h1 h2 => by rw [ho1] at h1; cases h1; rw [hd1] at h2; cases h2⟩
      · cases h
    obtain ⟨⟨vs0, T1, h1⟩, h2⟩ := key
    by_cases e : j = i
    · subst e; exact h2 o d ho hd
    · exact keepC_within h1 j o d (by omega) ho hd

theorem keep_sound {kept nt : Nat} {ops : List Oper} {a0 a : Act} {vs : List AV} {T T' : Tr AV} (hV : VRel ρ ops nt a0 ops.length vs a) (hT : TRel ρ kept nt T a0.tmps) (h : (keepC kept nt ops ops.length).run vs T = some T') : TRel ρ kept nt T' a.tmps := by
  refine ⟨hV.size, fun t x hx => ?_⟩
  rcases keepC_get h t x hx with ⟨j, o, g1, g2, g3, g4, g5⟩ | ⟨g1, g2⟩
  · obtain ⟨v, c, k1, k2, k3⟩ := hV.done j o t g1 g2 g3
    rw [k1] at g4; cases g4
    exact ⟨g5, c, k2, k3⟩
  · obtain ⟨h1, c, h2, h3⟩ := hT.2 t x g1
    exact ⟨h1, c, h2, by rw [hV.rest t (g2 h1)]; exact h3⟩
end Go.Proofs.YtpmildboffolkaaGreat.Abs

namespace Go.Proofs.YtpmildboffolkaaGreat.Abs
variable {P : Program} {ρ : Env} {H : AHeap} {w : World} {K : Hooks} {R : Rec}

theorem fenceOf_fn (ro : Option Nat) (f : FuncId) : (fenceOf ro).fn f := by cases ro <;> trivial

theorem readC_noDefer {ops : List Oper} {i : Nat} {T : Tr AV} {vs : List AV} {o : Oper} {v : AV} (h : (readC P ops i o).run T vs H = some v) : ∀ c, o.op ≠ .defer c := by
  intro c hc
  simp [readC, hc, noEv] at h
theorem newC_noDefer {ops : List Oper} {i name : Nat} {T : Tr AV} {vs : List AV} {o : Oper} {v : AV × AObj} (h : (newC P ops i o).run T vs name = some v) : ∀ c, o.op ≠ .defer c := by
  intro c hc
  simp [newC, hc, noNew] at h
theorem effC_noDefer {ops : List Oper} {i : Nat} {T : Tr AV} {vs : List AV} {o : Oper} {v : AV} {H' : AHeap} (h : (effC P K ops i o).run T vs R H = .ok v H') : ∀ c, o.op ≠ .defer c := by
  intro c hc
  simp [effC, hc, noEff] at h

/-- one operation, that has been, hands on -/
theorem wpIn_of_lands {o : Oper} {a : Act} {post : Value → World → Prop} {next : Act → World → Prop} {Q : Exit → Act → World → Prop} (ro : Option Nat) (hd : ∀ c, o.op ≠ .defer c) (h : Lands P ((execOp a.eval o).run P w) post)
    (hn : ∀ v w, post v w → next (a.put o.dst v) w) : o.wpIn (fenceOf ro) 0 P a w next Q := by
  refine ⟨fun f _ => fenceOf_fn ro f, ?_⟩
  rw [Oper.semAt_eq _ _ _ hd]
  exact h.upon ro hn

theorem seq_sound (hK : HooksOk P K) (hR : RecOk P R) {opsA : Array Oper} {ops : List Oper} (hops : opsA.toList = ops) {kept nt : Nat} {a0 : Act} {T : Tr AV} (honce : Once ops) (hin : Within nt ops) (ro : Option Nat) {Q : Exit → Act → World → Prop} :
    ∀ (rest : List Oper) (i : Nat) (vs : List AV) (H : AHeap) (w : World) (ρ : Env) (a : Act) (vs' : List AV) (H' : AHeap),
      i + rest.length = ops.length → ops.drop i = rest → (seqC P K ops rest i).run R T vs H = some (vs', H') → HRel P ρ H w → VRel ρ ops nt a0 i vs a → TRel ρ kept nt T a0.tmps →
      (∀ ρ' w' a', Step P ρ H w ρ' H' w' → VRel ρ' ops nt a0 ops.length vs' a' → Q .normal a' w') →
      wpOpsIn (fenceOf ro) 0 P opsA Q (List.range' i rest.length) a w := by
  intro rest
  induction rest with
  | nil =>
    intro i vs H w ρ a vs' H' hil hdrop h hH hV hT hq
    simp only [seqC] at h
    cases h
    simp only [List.length_nil, List.range'_zero, wpOpsIn]
    have hi : i = ops.length := by simpa using hil
    subst hi
    exact hq ρ w a (.refl hH) hV
  | cons o rest ih =>
    intro i vs H w ρ a vs' H' hil hdrop h hH hV hT hq
    have ho : ops[i]? = some o := by
      have : (ops.drop i)[0]? = some o := by rw [hdrop]; rfl
      simpa using this
    have hdrop' : ops.drop (i + 1) = rest := by
      have : (ops.drop i).drop 1 = rest := by rw [hdrop]; rfl
      rwa [List.drop_drop] at this
    have hoA : opsA[i]? = some o := by rw [← hops] at ho; simpa using ho
    simp only [List.length_cons, List.range'_succ]
    simp only [wpOpsIn, hoA]
    simp only [seqC] at h
    -- the operation itself
    have hgo : ∀ {H1 : AHeap}, (seqOpC P K ops i o (seqC P K ops rest (i + 1))).run R T vs H = some (vs', H1) → H1 = H' → o.wpIn (fenceOf ro) 0 P a w (wpOpsIn (fenceOf ro) 0 P opsA Q (List.range' (i + 1) rest.length)) Q := by
      intro H1 hh he
      subst he
      have hx := opd_ok hV hT o.op.operands.toList
      have fin : ∀ (v : AV) (H2 : AHeap) (c : Value) (w2 : World) (ρ2 : Env), Step P ρ H w ρ2 H2 w2 → v.conc ρ2 = some c → (seqC P K ops rest (i + 1)).run R T (v :: vs) H2 = some (vs', H1) →
          wpOpsIn (fenceOf ro) 0 P opsA Q (List.range' (i + 1) rest.length) (a.put o.dst c) w2 := by
        intro v H2 c w2 ρ2 hs hc hrun
        exact ih (i + 1) (v :: vs) H2 w2 ρ2 (a.put o.dst c) vs' H1 (by simp at hil; omega) hdrop' hrun hs.rel ((hV.mono hs.le).step ho hc honce hin) (hT.mono hs.le) (fun ρ' w' a' hs' hv' => hq ρ' w' a' (hs.trans hs') hv')
      unfold seqOpC at hh
      split at hh
      · simp only [] at hh
        unfold seqVal at hh
        split at hh
        · rename_i v hv
          obtain ⟨c, h1, h2⟩ := readC_sound hH hx hv
          exact wpIn_of_lands (post := fun c' w' => c' = c ∧ w' = w) ro (readC_noDefer hv) (by rw [h2]; exact ⟨rfl, rfl⟩) (fun c' w' ⟨e1, e2⟩ => by subst e1 e2; exact fin v H c' w' ρ (.refl hH) h1 hh)
        · cases hh
      · simp only [] at hh
        unfold seqVal at hh
        split at hh
        · rename_i v hv
          obtain ⟨c, h1, h2⟩ := readC_sound hH hx hv
          exact wpIn_of_lands (post := fun c' w' => c' = c ∧ w' = w) ro (readC_noDefer hv) (by rw [h2]; exact ⟨rfl, rfl⟩) (fun c' w' ⟨e1, e2⟩ => by subst e1 e2; exact fin v H c' w' ρ (.refl hH) h1 hh)
        · cases hh
      · simp only [] at hh
        unfold seqNew at hh
        split at hh
        · rename_i v obj hv
          obtain ⟨c, w2, robj, cap, h1, h2, h3, h4, h5⟩ := newC_sound (w := w) hH.free_next hx hv
          exact wpIn_of_lands (post := fun c' w' => c' = c ∧ w' = w2) ro (newC_noDefer hv) (by rw [h1]; exact ⟨rfl, rfl⟩) (fun c' w' ⟨e1, e2⟩ => by
            subst e1 e2
            exact fin v (H.new obj) c' w' _ (new_step hH h2 h3 h5) h4 hh)
        · cases hh
      · simp only [] at hh
        unfold seqStep at hh
        split at hh
        · rename_i v H2 hv
          exact wpIn_of_lands ro (effC_noDefer hv) (effC_sound hK hR hH hx hv) (fun c w2 ⟨ρ2, hs, hc⟩ => fin v H2 c w2 ρ2 hs hc hh)
        · cases hh
    unfold seqGuardC at h
    split at h
    · rename_i hg
      have hw : Region.wanted o (yielded opsA a.tmps) = true := by simp [Region.wanted, hg]
      rw [hw]
      exact hgo h rfl
    · rename_i hg
      simp only [] at h
      split at h
      · rename_i hgr
        rw [guardC_sound hops hV hgr]
        exact hgo h rfl
      · rename_i hgr
        rw [guardC_sound hops hV hgr]
        refine ⟨fun f _ => fenceOf_fn ro f, ?_⟩
        exact ih (i + 1) (AV.undef :: vs) H w ρ (a.put o.dst undef) vs' H' (by simp at hil; omega) hdrop' h hH (hV.step ho (v := AV.undef) rfl honce hin) hT hq
      · cases h

/-- a region that is run in the order of the text -/
theorem region_seq (hK : HooksOk P K) (hR : RecOk P R) {kept nt id : Nat} {opsA : Array Oper} {T : Tr AV} {ds : List Nat} {a : Act} (ro : Option Nat) (hH : HRel P ρ H w) (hT : TRel ρ kept nt T a.tmps) (hD : DRel ρ ds a.defers)
    (hdist : distinct (dsts opsA.toList) = true) {out : Out} (h : seqOut (keepC kept nt opsA.toList opsA.toList.length) T ds ((seqC P K opsA.toList opsA.toList 0).run R T [] H) = out) (hg : out.good) :
    (Code.region id opsA false).wpIn (fenceOf ro) 0 P (OutPost P ρ H w kept nt out) a w := by
  refine wpIn_region ?_
  unfold seqOut at h
  split at h
  · rename_i vs H' hs
    unfold keepOut at h
    split at h
    · rename_i T' hk
      subst h
      have hin : Within nt opsA.toList := fun j o d h1 h2 => keepC_within hk j o d (by rw [List.getElem?_eq_some_iff] at h1; exact h1.1) h1 h2
      have hr : List.range opsA.size = List.range' 0 opsA.toList.length := by rw [List.range_eq_range']; simp
      rw [hr]
      refine seq_sound hK hR rfl (distinct_once hdist) hin ro opsA.toList 0 [] H w ρ a vs H' (by simp) rfl hs hH ⟨rfl, hT.1, rfl, fun j o d hj => by omega, fun t _ => rfl⟩ hT ?_
      intro ρ' w' a' s1 hV
      exact ⟨ρ', s1, keep_sound hV (hT.mono s1.le) hk, by rw [hV.defers]; exact hD.mono s1.le⟩
    · subst h; exact hg.elim
  · subst h; exact hg.elim
end Go.Proofs.YtpmildboffolkaaGreat.Abs

namespace Go.Proofs.YtpmildboffolkaaGreat.Abs
variable {P : Program} {ρ : Env} {H : AHeap} {w : World} {K : Hooks} {R : Rec}

/-! ## Code -/
def RoRel (ρ : Env) : Option Nat → Option Nat → Prop
  | none, none => True
  | some l, some c => ρ.blk l = some c
  | _, _ => False
theorem RoRel.mono {ρ ρ' : Env} (h : ρ.Le ρ') {r ro : Option Nat} (k : RoRel ρ r ro) : RoRel ρ' r ro := by
  cases r <;> cases ro <;> first | exact k | exact (h _ _ k).1

/-- what is wanted of regions that draw -/
def DrawOk (P : Program) (K : Hooks) (R : Rec) : Prop :=
  ∀ (kept nt id : Nat) (opsA : Array Oper) (T : Tr AV) (ds : List Nat) (a : Act) (ro : Option Nat) (ρ : Env) (H : AHeap) (w : World) (out : Out), HRel P ρ H w → TRel ρ kept nt T a.tmps → DRel ρ ds a.defers →
    drawOk opsA.toList = true →
    drawOut (keepC kept nt opsA.toList opsA.toList.length) H.next opsA.toList.length T ds ((drawC P K opsA.toList opsA.toList (masks opsA.toList) 0).run R H.next T ⟨[], ⟨Nat.add H.next opsA.toList.length, H.tr⟩, 0, [], [], []⟩) = out → out.good →
    (Code.region id opsA true).wpIn (fenceOf ro) 0 P (OutPost P ρ H w kept nt out) a w

def CodeSpec (P : Program) (K : Hooks) (R : Rec) (kept nt : Nat) (c : Code) : Prop :=
  ∀ (r ro : Option Nat) (ρ : Env) (H : AHeap) (w : World) (T : Tr AV) (ds : List Nat) (a : Act) (out : Out), RoRel ρ r ro → HRel P ρ H w → TRel ρ kept nt T a.tmps → DRel ρ ds a.defers →
    (codeC P K kept nt c).run R r T ds H = out → out.good → c.wpIn (fenceOf ro) 0 P (OutPost P ρ H w kept nt out) a w

/-- an operand at the beginning of a frame's stretch -/
theorem opd_outer {kept nt : Nat} {a : Act} {T : Tr AV} (hT : TRel ρ kept nt T a.tmps) {x : Operand} {v : AV} (h : (opdC [] 0 x).run T [] = some v) : v.conc ρ = some (a.eval x) :=
  opd_ok (ops := []) (i := 0) (nt := nt) (a0 := a) (a := a) ⟨rfl, hT.1, rfl, fun j o d hj => by omega, fun t _ => rfl⟩ hT [x] x (by simp) v h

theorem outPost_norm {kept nt : Nat} {T : Tr AV} {ds : List Nat} {H' : AHeap} {e : Exit} {a : Act} {w' : World} (h : OutPost P ρ H w kept nt (.norm T ds H') e a w') : e = .normal ∧ ∃ ρ', Step P ρ H w ρ' H' w' ∧ TRel ρ' kept nt T a.tmps ∧ DRel ρ' ds a.defers := by
  unfold OutPost at h
  split at h <;> rename_i hout <;> try (simp at hout; done)
  · cases hout; exact ⟨rfl, h⟩
  · exact h.elim

theorem outPost_ex {kept nt : Nat} {x : AExit} {T : Tr AV} {ds : List Nat} {H' : AHeap} {e : Exit} {a : Act} {w' : World} (h : OutPost P ρ H w kept nt (.ex x T ds H') e a w') : e ≠ .normal ∧ ((x = .ret ∧ e = .ret) ∨ (∃ i, x = .exit i ∧ e = .exit i) ∨ (∃ i, x = .goto i ∧ e = .goto i)) ∧
    ∃ ρ', Step P ρ H w ρ' H' w' ∧ TRel ρ' kept nt T a.tmps ∧ DRel ρ' ds a.defers := by
  unfold OutPost at h
  split at h <;> rename_i hout <;> try (simp at hout; done)
  · cases hout; exact ⟨by simp, .inl ⟨rfl, rfl⟩, h⟩
  · cases hout; obtain ⟨rfl, h⟩ := h; exact ⟨by simp, .inr (.inl ⟨_, rfl, rfl⟩), h⟩
  · cases hout; obtain ⟨rfl, h⟩ := h; exact ⟨by simp, .inr (.inr ⟨_, rfl, rfl⟩), h⟩
  · exact h.elim

theorem outPost_of_ex {kept nt : Nat} {x : AExit} {T : Tr AV} {ds : List Nat} {H' : AHeap} {e : Exit} {a : Act} {w' : World} (hx : (x = .ret ∧ e = .ret) ∨ (∃ i, x = .exit i ∧ e = .exit i) ∨ (∃ i, x = .goto i ∧ e = .goto i))
    (h : ∃ ρ', Step P ρ H w ρ' H' w' ∧ TRel ρ' kept nt T a.tmps ∧ DRel ρ' ds a.defers) : OutPost P ρ H w kept nt (.ex x T ds H') e a w' := by
  rcases hx with ⟨rfl, rfl⟩ | ⟨i, rfl, rfl⟩ | ⟨i, rfl, rfl⟩
  · exact h
  · exact ⟨rfl, h⟩
  · exact ⟨rfl, h⟩

theorem then_ex {next : Act → World → Prop} {Q : Exit → Act → World → Prop} {e : Exit} {a : Act} {w : World} (he : e ≠ .normal) (h : Q e a w) : Exit.then next Q e a w := by
  cases e <;> first | exact absurd rfl he | exact h

variable {kept nt : Nat}

theorem spec_seq {x y : Code} (hx : CodeSpec P K R kept nt x) (hy : CodeSpec P K R kept nt y) : CodeSpec P K R kept nt (.seq x y) := by
  intro r ro ρ H w T ds a out hro hH hT hD h hg
  simp only [codeC] at h
  refine wpIn_seq ?_
  cases h1 : (codeC P K kept nt x).run R r T ds H with
  | bad => rw [h1] at h; simp only [seqK] at h; subst h; exact hg.elim
  | norm T1 ds1 H1 =>
    rw [h1] at h
    simp only [seqK] at h
    refine wpIn_mono (hx r ro ρ H w T ds a _ hro hH hT hD h1 trivial) ?_
    intro e a1 w1 ho
    obtain ⟨rfl, ρ1, s1, t1, d1⟩ := outPost_norm ho
    exact wpIn_mono (hy r ro ρ1 H1 w1 T1 ds1 a1 out (hro.mono s1.le) s1.rel t1 d1 h hg) fun e2 a2 w2 ho2 => ho2.pre s1
  | ex x1 T1 ds1 H1 =>
    rw [h1] at h
    simp only [seqK] at h
    subst h
    refine wpIn_mono (hx r ro ρ H w T ds a _ hro hH hT hD h1 trivial) ?_
    intro e a1 w1 ho
    exact then_ex (outPost_ex ho).1 ho

theorem spec_block {id : Nat} {x : Code} (hx : CodeSpec P K R kept nt x) : CodeSpec P K R kept nt (.block id x) := by
  intro r ro ρ H w T ds a out hro hH hT hD h hg
  simp only [codeC] at h
  refine wpIn_block ?_
  cases h1 : (codeC P K kept nt x).run R r T ds H with
  | bad => rw [h1] at h; simp only [blockK] at h; subst h; exact hg.elim
  | norm T1 ds1 H1 =>
    rw [h1] at h
    simp only [blockK] at h
    subst h
    refine wpIn_mono (hx r ro ρ H w T ds a _ hro hH hT hD h1 trivial) ?_
    intro e a1 w1 ho
    obtain ⟨rfl, ho'⟩ := outPost_norm ho
    exact ho'
  | ex x1 T1 ds1 H1 =>
    rw [h1] at h
    refine wpIn_mono (hx r ro ρ H w T ds a _ hro hH hT hD h1 trivial) ?_
    intro e a1 w1 ho
    obtain ⟨he, hxe, hp⟩ := outPost_ex ho
    rcases hxe with ⟨rfl, rfl⟩ | ⟨i, rfl, rfl⟩ | ⟨i, rfl, rfl⟩
    · simp only [blockK] at h
      subst h
      exact hp
    · simp only [blockK] at h
      show if i = id then _ else _
      by_cases e' : i = id
      · subst e'
        have : Nat.beq i i = true := by simp
        rw [this] at h
        simp only [] at h
        subst h
        simp only [if_true]
        exact hp
      · have : Nat.beq i id = false := by rw [Bool.eq_false_iff]; intro hb; exact e' (Nat.eq_of_beq_eq_true hb)
        rw [this] at h
        simp only [] at h
        subst h
        simp only [e', if_false]
        exact ⟨rfl, hp⟩
    · simp only [blockK] at h
      subst h
      exact ⟨rfl, hp⟩

theorem stepR_scope {b : Frame} {a : Act} {k : List Item} {cs : List Frame} {w : World} {c : Code} : step P (lone (b.atR a (.code (.scope c) :: k)) cs w) = .next (lone (b.atR a (.code c :: .inScope c :: k)) cs w) :=
  step_lone_go (by simp [stepG, stepG.exec, Frame.atR])
theorem stepR_inScope {b : Frame} {a : Act} {k : List Item} {cs : List Frame} {w : World} {c : Code} : step P (lone (b.atR a (.inScope c :: k)) cs w) = .next (lone (b.atR a k) cs w) :=
  step_lone_go (by simp [stepG, stepG.exec, Frame.atR])

/-- a scope that the run does not jump in -/
theorem wpIn_scope_straight {F : Fence} {n : Nat} {Q : Exit → Act → World → Prop} {a : Act} {w : World} {c : Code} (h : c.wpIn F n P (Exit.noGoto Q) a w) : (Code.scope c).wpIn F n P Q a w := by
  intro b k cs hro hb hr
  have h0 : (lone (b.atR a (.code (.scope c) :: k)) cs w).fenced P F := fenced_calm hb hr rfl
  obtain ⟨e, a₁, w₁, hq, harr⟩ := h b (.inScope c :: k) cs hro hb hr
  cases e with
  | normal => exact ⟨.normal, a₁, w₁, hq, .head h0 stepR_scope (StepsIn.trans harr (.one (fenced_calm hb hr rfl) stepR_inScope))⟩
  | exit id' =>
    have hx : exitTo id' (.inScope c :: k) = exitTo id' k := by simp [exitTo]
    exact ⟨.exit id', a₁, w₁, hq, fun k' hk => .head h0 stepR_scope (harr.1 k' (by rw [hx]; exact hk)),
      fun hr' hk => let ⟨k₁, h1, h2⟩ := harr.2 hr' (by rw [hx]; exact hk); ⟨k₁, h1, .head h0 stepR_scope h2⟩⟩
  | goto l => exact hq.elim
  | ret => exact ⟨_, a₁, w₁, hq, .of_steps (.one h0 stepR_scope) harr⟩
  | panic ch => exact ⟨_, a₁, w₁, hq, .of_steps (.one h0 stepR_scope) harr⟩
  | outgrown => exact ⟨_, a₁, w₁, hq, .of_steps (.one h0 stepR_scope) harr⟩

theorem spec_scope {x : Code} (hx : CodeSpec P K R kept nt x) : CodeSpec P K R kept nt (.scope x) := by
  intro r ro ρ H w T ds a out hro hH hT hD h hg
  simp only [codeC] at h
  refine wpIn_scope_straight ?_
  cases h1 : (codeC P K kept nt x).run R r T ds H with
  | bad => rw [h1] at h; simp only [scopeK] at h; subst h; exact hg.elim
  | norm T1 ds1 H1 =>
    rw [h1] at h
    simp only [scopeK] at h
    subst h
    refine wpIn_mono (hx r ro ρ H w T ds a _ hro hH hT hD h1 trivial) ?_
    intro e a1 w1 ho
    obtain ⟨rfl, ho'⟩ := outPost_norm ho
    exact ho'
  | ex x1 T1 ds1 H1 =>
    rw [h1] at h
    refine wpIn_mono (hx r ro ρ H w T ds a _ hro hH hT hD h1 trivial) ?_
    intro e a1 w1 ho
    obtain ⟨he, hxe, hp⟩ := outPost_ex ho
    rcases hxe with ⟨rfl, rfl⟩ | ⟨i, rfl, rfl⟩ | ⟨i, rfl, rfl⟩
    · simp only [scopeK] at h
      subst h
      exact hp
    · simp only [scopeK] at h
      subst h
      exact ⟨rfl, hp⟩
    · simp only [scopeK] at h
      subst h
      exact hg.elim

theorem spec_cond {c : Operand} {x y : Code} (hx : CodeSpec P K R kept nt x) (hy : CodeSpec P K R kept nt y) : CodeSpec P K R kept nt (.cond c x y) := by
  intro r ro ρ H w T ds a out hro hH hT hD h hg
  simp only [codeC] at h
  unfold condK at h
  split at h <;> rename_i hc
  · have := opd_outer hT hc
    simp only [AV.conc, Option.some.injEq] at this
    exact wpIn_cond_true this.symm (hx r ro ρ H w T ds a out hro hH hT hD h hg)
  · have := opd_outer hT hc
    simp only [AV.conc, Option.some.injEq] at this
    exact wpIn_cond_false this.symm (hy r ro ρ H w T ds a out hro hH hT hD h hg)
  · subst h; exact hg.elim

theorem spec_loop {x : Code} (hx : CodeSpec P K R kept nt x) : CodeSpec P K R kept nt (.loop x) := by
  intro r ro ρ H w T ds a out hro hH hT hD h hg
  simp only [codeC] at h
  refine wpIn_loop_rounds loopFuel ?_
  have key : ∀ (n : Nat) (ρ : Env) (H : AHeap) (w : World) (T : Tr AV) (ds : List Nat) (a : Act), RoRel ρ r ro → HRel P ρ H w → TRel ρ kept nt T a.tmps → DRel ρ ds a.defers → loopF (codeC P K kept nt x) R r n T ds H = out →
      ∀ Q : Exit → Act → World → Prop, (∀ e a' w', OutPost P ρ H w kept nt out e a' w' → Q e a' w') → Code.roundsIn (fenceOf ro) 0 P x Q n a w := by
    intro n
    induction n with
    | zero => intro ρ H w T ds a _ _ _ _ h; simp only [loopF] at h; subst h; exact hg.elim
    | succ n ih =>
      intro ρ H w T ds a hro hH hT hD h Q hQ
      simp only [loopF] at h
      rw [roundsIn_succ]
      cases h1 : (codeC P K kept nt x).run R r T ds H with
      | bad => rw [h1] at h; simp only [loopK] at h; subst h; exact hg.elim
      | norm T1 ds1 H1 =>
        rw [h1] at h
        simp only [loopK] at h
        refine wpIn_mono (hx r ro ρ H w T ds a _ hro hH hT hD h1 trivial) ?_
        intro e a1 w1 ho
        obtain ⟨rfl, ρ1, s1, t1, d1⟩ := outPost_norm ho
        exact ih ρ1 H1 w1 T1 ds1 a1 (hro.mono s1.le) s1.rel t1 d1 h Q (fun e a' w' ho' => hQ e a' w' (ho'.pre s1))
      | ex x1 T1 ds1 H1 =>
        rw [h1] at h
        simp only [loopK] at h
        subst h
        refine wpIn_mono (hx r ro ρ H w T ds a _ hro hH hT hD h1 trivial) ?_
        intro e a1 w1 ho
        exact then_ex (outPost_ex ho).1 (hQ e a1 w1 ho)
  exact key loopFuel ρ H w T ds a hro hH hT hD h _ (fun _ _ _ ho => ho)

theorem endRange_good {l : Nat} {T : Tr AV} {ds : List Nat} {res : Res} {out : Out} (h : endRange l T ds res = out) (hg : out.good) : ∃ v H3 st pd q, res = .ok v H3 ∧ asLoop (H3.get l) = some (st, pd, q) ∧ st ≠ .busy ∧
    ((pd = none ∧ out = .norm T ds (H3.put l none (.loop .exhausted pd q))) ∨ (∃ c x, pd = some c ∧ out = .ex x T ds (H3.put l none (.loop .exhausted pd q)) ∧ ((c = .ret ∧ x = .ret) ∨ (∃ i, c = .exit i ∧ x = .exit i) ∨ (∃ i, c = .goto i ∧ x = .goto i)))) := by
  unfold endRange at h
  split at h
  · rename_i v H3
    split at h
    · rename_i st pd q ha
      cases st <;> simp only [] at h
      case busy => subst h; exact hg.elim
      all_goals
        refine ⟨v, H3, _, pd, q, rfl, ha, by simp, ?_⟩
        split at h
        · exact .inl ⟨rfl, h.symm⟩
        · exact .inr ⟨_, _, rfl, h.symm, .inl ⟨rfl, rfl⟩⟩
        · exact .inr ⟨_, _, rfl, h.symm, .inr (.inl ⟨_, rfl, rfl⟩)⟩
        · exact .inr ⟨_, _, rfl, h.symm, .inr (.inr ⟨_, rfl, rfl⟩)⟩
        · subst h; exact hg.elim
    · subst h; exact hg.elim
  · subst h; exact hg.elim

theorem range_tail (hR : RecOk P R) {f : Operand} {ro : Option Nat} {T : Tr AV} {ds : List Nat} {a : Act} {out : Out} {q : ALoop} {fn : FuncId} {tm : Array Value} {df : Nat} {mark : List Deferred}
    (hH : HRel P ρ H w) (hT : TRel ρ kept nt T a.tmps) (hD : DRel ρ ds (mark ++ a.defers)) (hdf : ρ.blk q.defers = some df) (hq : TRel ρ q.kept q.nt q.tmps tm) {fv : Option AV} (hf : ∀ v, fv = some v → v.conc ρ = some (a.eval f))
    (h : enterRange R fv q T ds H = out) (hg : out.good) {w1 : World} (hw1 : w1 = w.alloc (.loop { state := .ready, pending := none, fn := fn, tmps := tm, params := q.params.toArray, assign := q.assign, body := q.body, defers := df })) :
    ∃ (d : Deferred) (w₁' : World) (g : FuncId) (args : Array Value) (w₂ : World), (resolve a.eval (rangeCall f w.heap.size) 0).run P w1 = .ok d w₁' ∧ (invoke d.target d.args).run P w₁' = .ok (.enter g args) w₂ ∧
      CallsIn (fenceOf ro) 0 P g args w₂ (rangePost (fenceOf ro) 0 P w.heap.size (OutPost P ρ H w kept nt out) { a with defers := mark ++ a.defers }) := by
  unfold enterRange at h
  split at h
  · rename_i v
    split at h
    · rename_i g first captured hwho
      have hv := hf v rfl
      rw [who_fn hwho] at hv
      obtain ⟨x, y, h1, h2, h3⟩ := conc_func hv
      obtain ⟨rv, H3, st, pd, q3, hres, ha3, hst, hout⟩ := endRange_good h hg
      have snew : Step P ρ H w (ρ.ext H.next w.heap.size 0) (H.new (.loop .ready none q)) w1 := by
        have hle := Env.le_ext ρ H.next w.heap.size 0 hH.free_next
        refine new_step hH (by rw [hw1]; rfl) (by rw [hw1]; exact ⟨rfl, rfl, rfl⟩) ⟨fn, tm, df, rfl, (hle _ _ hdf).1, hq.mono hle⟩
      have hargs : AV.concL (ρ.ext H.next w.heap.size 0) (first ++ ([.yield H.next] ++ captured)) = some (x ++ ([Value.func (.yield w.heap.size) #[] #[]] ++ y)) := by
        refine concL_append (AV.concL_mono snew.le _ _ h1) (concL_append ?_ (AV.concL_mono snew.le _ _ h2))
        simp [AV.concL, AV.conc]
      obtain ⟨c1, c2⟩ := hR.call g _ _ rv H3 hres _ w1 _ snew.rel hargs
      refine ⟨{ target := .fn (.func g) y.toArray, args := x.toArray ++ #[Value.func (.yield w.heap.size) #[] #[]] }, w1, g, (x ++ ([Value.func (.yield w.heap.size) #[] #[]] ++ y)).toArray, w1, ?_, ?_, ?_⟩
      · have e0 : a.eval (.const (.func (.yield w.heap.size) #[] #[])) = .func (.yield w.heap.size) #[] #[] := rfl
        simp only [resolve, rangeCall, h3, Deferred.ofValue, List.map_toArray, List.map_cons, List.map_nil, e0]
        rfl
      · have e : (x.toArray ++ #[Value.func (.yield w.heap.size) #[] #[]]) ++ y.toArray = (x ++ ([Value.func (.yield w.heap.size) #[] #[]] ++ y)).toArray := by simp
        simp only [invoke, e]
        exact c1
      · have c2' : CallsIn (fenceOf ro) 0 P g (x ++ ([Value.func (.yield w.heap.size) #[] #[]] ++ y)).toArray w1 fun e w'' => ∃ c, e = .returned c ∧ Post P (ρ.ext H.next w.heap.size 0) (H.new (.loop .ready none q)) w1 rv H3 c w'' := by
          cases ro with
          | none => exact c2
          | some l => exact CallsIn.inRound l c2
        refine CallsIn.mono c2' ?_
        rintro e w3 ⟨c, rfl, ρ3, s3, _⟩
        have hl3 : ρ3.blk H.next = some w.heap.size := (s3.le _ _ (by simp)).1
        obtain ⟨cl, fn3, tm3, df3, k1, k2, k3, k4⟩ := s3.rel.loop ha3
        rw [hl3] at k1; cases k1
        have s4 := loop_put (st' := .exhausted) (pd' := pd) s3.rel ha3 hl3 k2
        have sall := (snew.trans s3).trans s4
        refine ⟨pd, _, run_endLoop k2 hst, ?_⟩
        rcases hout with ⟨rfl, rfl⟩ | ⟨cc, xx, rfl, rfl, hx⟩
        · exact ⟨ρ3, sall, hT.mono sall.le, hD.mono sall.le⟩
        · have hp : ∃ ρ', Step P ρ H w ρ' (H3.put H.next none (.loop .exhausted (some cc) q3)) (w3.putObj w.heap.size (.loop { state := .exhausted, pending := some cc, fn := fn3, tmps := tm3, params := q3.params.toArray, assign := q3.assign, body := q3.body, defers := df3 })) ∧ TRel ρ' kept nt T a.tmps ∧ DRel ρ' ds (mark ++ a.defers) := ⟨ρ3, sall, hT.mono sall.le, hD.mono sall.le⟩
          rcases hx with ⟨rfl, rfl⟩ | ⟨i, rfl, rfl⟩ | ⟨i, rfl, rfl⟩
          · exact wpIn_ret hp
          · exact wpIn_exit ⟨rfl, hp⟩
          · exact wpIn_goto ⟨rfl, hp⟩
    · subst h; exact hg.elim
  · subst h; exact hg.elim

theorem run_enterLoop_inner {fn : FuncId} {tmps : Array Value} {ps : Array Tmp} {assign body : Code} {l : Nat} {rec : Loop} (h : w.heap[l]? = some (.loop rec)) :
    (Instr.enterLoop fn tmps ps assign body (some l)).run P w =
      .ok (w.heap.size, []) (w.alloc (.loop { state := .ready, pending := none, fn, tmps, params := ps, assign, body, defers := rec.defers })) := by
  unfold Instr.enterLoop
  simp only [Sem.run_bind, run_newObj_alloc, Result.andThen, Sem.run_pure, run_getLoop h]

theorem spec_range (hR : RecOk P R) {f : Operand} {ps : Array Tmp} {x y : Code} : CodeSpec P K R kept nt (.rangeFunc f ps x y) := by
  intro r ro ρ H w T ds a out hro hH hT hD h hg
  simp only [codeC, rangeC] at h
  refine wpIn_rangeFunc ?_
  intro fn _
  cases r with
  | some l =>
    cases ro with
    | none => exact hro.elim
    | some cl =>
      have hcl : ρ.blk l = some cl := hro
      simp only [] at h
      split at h
      · rename_i st pd q ha
        obtain ⟨cl', fn0, tm, df, h1, h2, h3, h4⟩ := hH.loop ha
        rw [hcl] at h1; cases h1
        have he := run_enterLoop_inner (P := P) (fn := fn) (tmps := a.tmps) (ps := ps) (assign := x) (body := y) h2
        obtain ⟨d, w1', g, args, w2, k1, k2, k3⟩ := range_tail (f := f) (ro := some cl) (mark := []) (a := a) (q := ⟨kept, nt, T, ps.toList, x, y, q.defers⟩) (fn := fn) (tm := a.tmps) (df := df) hR hH hT (by simpa using hD) h3 hT (fun v hv => opd_outer hT hv) h hg rfl
        exact ⟨w.heap.size, [], _, d, w1', g, args, w2, he, k1, fun f' _ => fenceOf_fn _ f', k2, by simp [fenceOf, Fence.wide], k3⟩
      · subst h; exact hg.elim
  | none =>
    cases ro with
    | some cl => exact hro.elim
    | none =>
      simp only [] at h
      have he := run_enterLoop_outer (P := P) (w := w) fn a.tmps ps x y
      have s1 : Step P ρ H w (ρ.ext H.next w.heap.size 0) (H.new .deferred) (w.alloc (.deferred (some []))) := new_step hH rfl ⟨rfl, rfl, rfl⟩ rfl
      have hD1 : DRel (ρ.ext H.next w.heap.size 0) (H.next :: ds) ([{ target := .collected w.heap.size, args := #[] }] ++ a.defers) := ⟨⟨w.heap.size, by simp, rfl⟩, hD.mono s1.le⟩
      obtain ⟨d, w1', g, args, w2, k1, k2, k3⟩ := range_tail (f := f) (ro := none) (mark := [{ target := .collected w.heap.size, args := #[] }]) (a := a) (q := ⟨kept, nt, T, ps.toList, x, y, H.next⟩) (fn := fn) (tm := a.tmps) (df := w.heap.size) hR s1.rel (hT.mono s1.le) hD1 (by simp) (hT.mono s1.le) (fun v hv => AV.conc_mono s1.le _ _ (opd_outer hT hv)) h hg rfl
      have hsz : (w.alloc (.deferred (some []))).heap.size = w.heap.size + 1 := by simp
      rw [hsz] at k1 k3
      refine ⟨w.heap.size + 1, [{ target := .collected w.heap.size, args := #[] }], _, d, w1', g, args, w2, he, k1, fun f' _ => fenceOf_fn _ f', k2, by simp [fenceOf, Fence.wide], ?_⟩
      refine CallsIn.mono k3 ?_
      intro e w3 hr
      cases e with
      | returned v =>
        obtain ⟨jump, w4, j1, j2⟩ := hr
        refine ⟨jump, w4, j1, ?_⟩
        cases jump with
        | none => exact j2.pre s1
        | some c => exact wpIn_mono j2 (fun e a' w' ho => ho.pre s1)
      | panicked chain =>
        have : OutPost P _ _ _ kept nt out (.panic chain) _ w3 := hr
        exact this.pre s1
      | outgrown =>
        obtain ⟨a0, w0, hq⟩ := hr
        exact ⟨a0, w0, hq.pre s1⟩

theorem spec_all (hK : HooksOk P K) (hR : RecOk P R) (hdraw : DrawOk P K R) : ∀ c : Code, CodeSpec P K R kept nt c
  | .skip => by
    intro r ro ρ H w T ds a out hro hH hT hD h hg
    simp only [codeC] at h; subst h
    exact wpIn_skip ⟨ρ, .refl hH, hT, hD⟩
  | .label l => by
    intro r ro ρ H w T ds a out hro hH hT hD h hg
    simp only [codeC] at h; subst h
    exact wpIn_label ⟨ρ, .refl hH, hT, hD⟩
  | .exit id => by
    intro r ro ρ H w T ds a out hro hH hT hD h hg
    simp only [codeC] at h; subst h
    exact wpIn_exit ⟨rfl, ρ, .refl hH, hT, hD⟩
  | .ret => by
    intro r ro ρ H w T ds a out hro hH hT hD h hg
    simp only [codeC] at h; subst h
    exact wpIn_ret ⟨ρ, .refl hH, hT, hD⟩
  | .region id ops d => by
    intro r ro ρ H w T ds a out hro hH hT hD h hg
    simp only [codeC, regionC] at h
    cases d with
    | false =>
      simp only [] at h
      split at h
      · rename_i hdist
        exact region_seq hK hR ro hH hT hD hdist h hg
      · subst h; exact hg.elim
    | true =>
      simp only [] at h
      split at h
      · rename_i hok
        exact hdraw kept nt id ops T ds a ro ρ H w out hH hT hD hok h hg
      · subst h; exact hg.elim
  | .seq x y => spec_seq (spec_all hK hR hdraw x) (spec_all hK hR hdraw y)
  | .cond c x y => spec_cond (spec_all hK hR hdraw x) (spec_all hK hR hdraw y)
  | .block id x => spec_block (spec_all hK hR hdraw x)
  | .loop x => spec_loop (spec_all hK hR hdraw x)
  | .rangeFunc f ps x y => spec_range hR
  | .scope x => spec_scope (spec_all hK hR hdraw x)
  | .goto l => by
    intro r ro ρ H w T ds a out hro hH hT hD h hg
    simp only [codeC] at h; subst h; exact hg.elim
  | .refuse s => by
    intro r ro ρ H w T ds a out hro hH hT hD h hg
    simp only [codeC] at h; subst h; exact hg.elim
end Go.Proofs.YtpmildboffolkaaGreat.Abs

namespace Go.Proofs.YtpmildboffolkaaGreat.Abs
variable {P : Program} {ρ : Env} {H : AHeap} {w : World} {K : Hooks} {R : Rec}

/-! ## Functions -/
theorem drop_step (hH : HRel P ρ H w) {d c : Nat} (hd : isDeferred (H.get d) = true) (hc : ρ.blk d = some c) :
    w.heap[c]? = some (.deferred (some [])) ∧ Step P ρ H w ρ ⟨H.next, H.tr.set d none⟩ (w.putObj c (.deferred none)) := by
  have hg : H.get d = some ⟨.deferred, none⟩ := by
    unfold isDeferred at hd
    split at hd
    · assumption
    · cases hd
  obtain ⟨c', o, h1, h2, h3⟩ := hH.obj d _ hg
  rw [hc] at h1; cases h1
  have h3' : o = .deferred (some []) := h3
  subst h3'
  refine ⟨h2, ?_⟩
  have get' : ∀ b e, (⟨H.next, H.tr.set d none⟩ : AHeap).get b = some e → b ≠ d ∧ H.get b = some e := by
    intro b e hb
    simp only [AHeap.get, Tr.get_set] at hb
    by_cases e' : b = d
    · simp [e'] at hb
    · simp only [e', if_false] at hb
      exact ⟨e', hb⟩
  refine ⟨.refl ρ, ⟨?_, ?_, hH.fresh⟩, Nat.le_refl _, fun _ _ h => .inl h, by simp, ?_, ?_, ⟨rfl, rfl, rfl⟩⟩
  · intro b e hb
    obtain ⟨hne, hb'⟩ := get' b e hb
    obtain ⟨cb, ob, k1, k2, k3⟩ := hH.obj b e hb'
    refine ⟨cb, ob, k1, ?_, k3⟩
    have : cb ≠ c := by
      intro e'; subst e'
      rcases hH.sep _ _ _ _ _ hb' hg k1 hc with e6 | ⟨_, e7⟩
      · exact hne e6
      · cases e7
    rw [World.putObj_heap_other this]
    exact k2
  · intro b b' e e' cc hb hb' h1 h2
    exact hH.sep b b' e e' cc (get' b e hb).2 (get' b' e' hb').2 h1 h2
  · intro r _ hno
    refine World.putObj_heap_other ?_
    intro e; subst e
    exact hno d _ hg hc
  · intro b e r hb hr _
    exact ⟨b, e, (get' b e hb).2, hr⟩

theorem drops_sound {fn : Func} {tmps : Array Value} {Rr : Ending → World → Prop} : ∀ {ds : List Nat} {xs : List Deferred} {H H' : AHeap} {w : World}, HRel P ρ H w → DRel ρ ds xs → dropDs ds H = some H' →
    ∃ w', Step P ρ H w ρ H' w' ∧ (LeavesIn Fence.wide 0 P fn tmps Rr [] .returning w' → LeavesInM Fence.wide 0 P fn tmps Rr xs .returning w)
  | [], [], H, H', w, hH, _, h => by
    simp only [dropDs] at h
    cases h
    exact ⟨w, .refl hH, fun h => h⟩
  | [], _ :: _, _, _, _, _, hD, _ => hD.elim
  | _ :: _, [], _, _, _, _, hD, _ => hD.elim
  | d :: ds, x :: xs, H, H', w, hH, ⟨⟨c, hc, hx⟩, hD⟩, h => by
    simp only [dropDs] at h
    split at h
    · rename_i hd
      obtain ⟨h1, s1⟩ := drop_step hH hd hc
      obtain ⟨w', s2, h2⟩ := drops_sound (fn := fn) (tmps := tmps) (Rr := Rr) s1.rel hD h
      refine ⟨w', s1.trans s2, fun hl => ?_⟩
      refine ⟨by simp, .inl ⟨c, _, by rw [hx], run_takeDeferred h1, h2 hl⟩⟩
    · cases h

def resF (tmps : Array Value) : ResultVar → Sem Value
  | .tmp t => pure (tmps.getD t undef)
  | .cell a t => do loadVar t (← asAddr (tmps.getD a undef))

theorem results_eq (fn : Func) (tmps : Array Value) : results fn tmps = (do let vs ← fn.results.mapM (resF tmps); pure (if h : vs.size = 1 then vs[0] else .tuple vs)) := by
  unfold results
  congr 2

theorem resultC_sound (hH : HRel P ρ H w) {kept nt : Nat} {T : Tr AV} {tmps : Array Value} (hT : TRel ρ kept nt T tmps) {x : ResultVar} {v : AV} (h : (resultC P x).run T H = some v) :
    ∃ c, v.conc ρ = some c ∧ (resF tmps x).run P w = .ok c w := by
  cases x with
  | tmp t =>
    simp only [resultC] at h
    obtain ⟨_, c, h1, h2⟩ := hT.2 t v h
    refine ⟨c, h1, ?_⟩
    have : tmps.getD t undef = c := by simp [Array.getD_eq_getD_getElem?, h2]
    simp [this, resF]
  | cell a t =>
    simp only [resultC] at h
    split at h
    · rename_i x hx
      obtain ⟨_, c, h1, h2⟩ := hT.2 a x hx
      obtain ⟨c', h3, h4⟩ := loadC_sound hH h1 h
      refine ⟨c', h3, ?_⟩
      have : tmps.getD a undef = c := by simp [Array.getD_eq_getD_getElem?, h2]
      simp only [resF, this]
      cases c <;> first | (simp [Instr.loadAt, Instr.sureAddr] at h4; done) | skip
      rename_i ad
      cases ad with
      | none => simp [Instr.loadAt, Instr.sureAddr] at h4
      | some ad => simpa [Instr.loadAt, Instr.sureAddr, asAddr] using h4
    · cases h

theorem resultsC_sound (hH : HRel P ρ H w) {kept nt : Nat} {T : Tr AV} {tmps : Array Value} (hT : TRel ρ kept nt T tmps) : ∀ {rs : List ResultVar} {vs : List AV}, (resultsC P rs).run T H = some vs →
    ∃ cs, AV.concL ρ vs = some cs ∧ (rs.mapM (resF tmps)).run P w = .ok cs w
  | [], vs, h => by
    simp only [resultsC] at h
    cases h
    exact ⟨[], rfl, by simp⟩
  | r :: rs, vs, h => by
    simp only [resultsC] at h
    split at h
    · rename_i v hv
      split at h
      · rename_i vs' hvs
        cases h
        obtain ⟨c, h1, h2⟩ := resultC_sound hH hT hv
        obtain ⟨cs, h3, h4⟩ := resultsC_sound hH hT hvs
        refine ⟨c :: cs, concL_cons.2 ⟨c, cs, h1, h3, rfl⟩, ?_⟩
        rw [List.mapM_cons]
        simp only [Sem.run_bind, Sem.run_pure, h2, h4, Result.andThen]
      · cases h
    · cases h

theorem oneOf_conc {vs : List AV} {cs : List Value} (h : AV.concL ρ vs = some cs) : (oneOf vs).conc ρ = some (if h : cs.toArray.size = 1 then cs.toArray[0] else .tuple cs.toArray) := by
  match vs, cs, h with
  | [], cs, h => simp [AV.concL] at h; subst h; rfl
  | [v], cs, h =>
    obtain ⟨c, r, h1, h2, rfl⟩ := concL_cons.1 h
    simp [AV.concL] at h2
    subst h2
    simpa [oneOf] using h1
  | v :: v' :: vs, cs, h =>
    obtain ⟨c, r, h1, h2, rfl⟩ := concL_cons.1 h
    obtain ⟨c', r', h3, h4, rfl⟩ := concL_cons.1 h2
    simp only [oneOf]
    have : ¬ ((c :: c' :: r').toArray.size = 1) := by simp
    rw [dif_neg this]
    exact conc_tuple.2 ⟨_, h, rfl⟩

theorem results_sound (hH : HRel P ρ H w) {kept nt : Nat} {T : Tr AV} {tmps : Array Value} (hT : TRel ρ kept nt T tmps) {fn : Func} {vs : List AV} (h : (resultsC P fn.results.toList).run T H = some vs) :
    ∃ c, (oneOf vs).conc ρ = some c ∧ (results fn tmps).run P w = .ok c w := by
  obtain ⟨cs, h1, h2⟩ := resultsC_sound hH hT h
  refine ⟨_, oneOf_conc h1, ?_⟩
  rw [results_eq, Array.mapM_eq_mapM_toList]
  simp [Sem.run_bind, h2, Result.andThen]

theorem argsT_sound {kept nt : Nat} : ∀ {as : List AV} {cs : List Value} {i : Nat} {T : Tr AV} {tmps : Array Value}, AV.concL ρ as = some cs → TRel ρ kept nt T tmps → (∀ j c, cs[j]? = some c → tmps[i + j]? = some c) → TRel ρ kept nt (argsT kept as i T) tmps
  | [], cs, i, T, tmps, h, hT, _ => hT
  | a :: as, cs, i, T, tmps, h, hT, hk => by
    obtain ⟨c, r, h1, h2, rfl⟩ := concL_cons.1 h
    simp only [argsT]
    refine argsT_sound h2 ?_ (fun j c' hj => by have := hk (j + 1) c' (by simpa using hj); rw [show Nat.succ i + j = i + (j + 1) by omega]; exact this)
    refine ⟨hT.1, fun t x hx => ?_⟩
    cases hb : Nat.testBit kept i with
    | false => rw [hb] at hx; exact hT.2 t x hx
    | true =>
      rw [hb] at hx
      simp only [Tr.get_set] at hx
      by_cases e : t = i
      · subst e
        simp only [if_true, Option.some.injEq] at hx
        subst hx
        exact ⟨hb, c, h1, by simpa using hk 0 c (by simp)⟩
      · simp only [e, if_false] at hx
        exact hT.2 t x hx

/-- no function with a body bears the name that the model takes for itself -/
def NoGor (P : Program) : Prop := ∀ (f : Nat) (fn : Func), P.funcs[f]? = some fn → fn.body.isSome = true → (fn.name == "runtime.NumGoroutine") = false

theorem leaveC_sound {rs : Cl (Tr AV → AHeap → Option (List AV))} {T : Tr AV} {ds : List Nat} {v : AV} {H' : AHeap} (h : leaveC rs T ds H = .ok v H') : ∃ vs, dropDs ds H = some H' ∧ rs.run T H' = some vs ∧ v = oneOf vs := by
  unfold leaveC at h
  split at h
  · rename_i H1 h1
    split at h
    · rename_i vs hvs
      cases h
      exact ⟨vs, h1, hvs, rfl⟩
    · cases h
  · cases h

theorem funcC_sound (hK : HooksOk P K) (hR : RecOk P R) (hdraw : DrawOk P K R) (hN : NoGor P) : CallOk P fun f args H => (funcC P K f).run R args H := by
  intro f args H v H' h ρ w cargs hH hargs
  simp only [funcC] at h
  split at h
  · rename_i fn hfn
    split at h
    · rename_i c hbody
      simp only [] at h
      split at h
      · rename_i hle
        have hle' : args.length ≤ fn.ntmps := Nat.le_of_ble_eq_true hle
        have hlen := concL_length hargs
        refine ⟨?_, ?_⟩
        · have hn := hN f fn hfn (by rw [hbody]; rfl)
          have hn' : fn.name ≠ "runtime.NumGoroutine" := by simpa using hn
          simp [callFunc, hfn, hn', hbody, Result.andThen]
        · refine callsIn_of_wp_marks hfn hbody trivial ?_
          have hT : TRel ρ (keptFn fn) fn.ntmps (argsT (keptFn fn) args 0 .nil) (cargs.toArray ++ Array.replicate (fn.ntmps - cargs.toArray.size) undef) := by
            refine argsT_sound hargs ⟨by simp; omega, fun t x hx => ?_⟩ (fun j c hj => ?_)
            · simp [Tr.get_nil] at hx
            · rw [Nat.zero_add, Array.getElem?_append_left (by rw [List.getElem?_eq_some_iff] at hj; simpa using hj.1)]
              simpa using hj
          cases hout : (codeC P K (keptFn fn) fn.ntmps c).run R none (argsT (keptFn fn) args 0 .nil) [] H with
          | bad => rw [hout] at h; simp [leaveOut] at h
          | norm T1 ds1 H1 =>
            rw [hout] at h
            simp only [leaveOut] at h
            obtain ⟨vs, l1, l2, l3⟩ := leaveC_sound h
            refine wpIn_mono (spec_all hK hR hdraw c none none ρ H w _ [] { tmps := cargs.toArray ++ Array.replicate (fn.ntmps - cargs.toArray.size) undef, defers := [] } _ trivial hH hT trivial hout trivial) ?_
            intro e a w1 ho
            obtain ⟨rfl, ρ1, s1, t1, d1⟩ := outPost_norm ho
            obtain ⟨w2, s2, hl⟩ := drops_sound (fn := fn) (tmps := a.tmps) (Rr := fun e w'' => ∃ c, e = .returned c ∧ Post P ρ H w v H' c w'') s1.rel d1 l1
            refine hl ?_
            obtain ⟨rc, r1, r2⟩ := results_sound s2.rel (t1.mono s2.le) l2
            exact ⟨rc, r2, rc, rfl, ρ1, s1.trans s2, by rw [l3]; exact r1⟩
          | ex x T1 ds1 H1 =>
            rw [hout] at h
            cases x with
            | exit i => simp [leaveOut] at h
            | goto i => simp [leaveOut] at h
            | ret =>
              simp only [leaveOut] at h
              obtain ⟨vs, l1, l2, l3⟩ := leaveC_sound h
              refine wpIn_mono (spec_all hK hR hdraw c none none ρ H w _ [] { tmps := cargs.toArray ++ Array.replicate (fn.ntmps - cargs.toArray.size) undef, defers := [] } _ trivial hH hT trivial hout trivial) ?_
              intro e a w1 ho
              obtain ⟨he, hxe, ρ1, s1, t1, d1⟩ := outPost_ex ho
              rcases hxe with ⟨_, rfl⟩ | ⟨i, hi, _⟩ | ⟨i, hi, _⟩
              · obtain ⟨w2, s2, hl⟩ := drops_sound (fn := fn) (tmps := a.tmps) (Rr := fun e w'' => ∃ c, e = .returned c ∧ Post P ρ H w v H' c w'') s1.rel d1 l1
                refine hl ?_
                obtain ⟨rc, r1, r2⟩ := results_sound s2.rel (t1.mono s2.le) l2
                exact ⟨rc, r2, rc, rfl, ρ1, s1.trans s2, by rw [l3]; exact r1⟩
              · cases hi
              · cases hi
      · cases h
    · cases h
  · cases h

theorem run_ok (hK : HooksOk P K) (hdraw : ∀ R, RecOk P R → DrawOk P K R) (hN : NoGor P) : ∀ n, RecOk P (run P K n)
  | 0 => ⟨fun f args H v H' h => (by cases h), fun kept nt c l T H h => h.elim⟩
  | n + 1 => by
    have ih := run_ok hK hdraw hN n
    refine ⟨funcC_sound hK ih (hdraw _ ih) hN, ?_⟩
    intro kept nt c l T H hg ρ w cl a hH hcl hT hd
    exact spec_all hK ih (hdraw _ ih) c (some l) (some cl) ρ H w T [] a _ hcl hH hT (by rw [hd]; trivial) rfl hg
end Go.Proofs.YtpmildboffolkaaGreat.Abs
