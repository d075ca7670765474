/-
  The given statement VolNobodySaid is proved: for every input the law returns true, and its argument reads behind the call as it did before; no condition.
-/
import Derived.Test.YtbepgibkcmmfeaaGreatWalk
import Derived.Test.YtbepgibkcmmfeaaGreatFacts
import Derived.Test.YtbepgibkcmmfeaaGreatRows
import Derived.ProofKit
import Derived.Carry
import Derived.ReadAgain
import Derived.JoinedOf
import Derived.JoinedAt
set_option linter.unusedVariables false
set_option linter.unusedSimpArgs false
namespace Go.Proofs.YtbepgibkcmmfeaaGreat
open Go.ChangeShapes Go.WideShapes Go.ChangeAt Go.RowKit

theorem own : ownKnob Tryz.prog.godebug = none := by kernel_rfl
theorem laidOut : laidOutB Tryz.prog = true := by kernel_rfl

theorem slice_shape {P : Program} {w : World} {r : Reach} {base : Nat} {t e : TypeId} (ht : P.underlying t = some (.slice e)) {a : Option Addr} {len cap : Nat} (h : Value.okWide P w r base t (.slice a len cap)) :
    (a = none ∧ len = 0 ∧ cap = 0) ∨ ∃ c off, a = some ⟨c, off, none⟩ ∧ len ≤ cap := by
  simp only [Value.okWide, ht, Cell.okWide] at h
  cases a with
  | none =>
    left
    cases len with
    | zero =>
      cases cap with
      | zero => exact ⟨rfl, rfl, rfl⟩
      | succ n => simp [Cell.ok, ht] at h
    | succ n => simp [Cell.ok, ht] at h
  | some a =>
    right
    simp only [Cell.ok, ht] at h
    obtain ⟨h1, _, h3⟩ := h
    obtain ⟨_, h4, _⟩ := h3
    obtain ⟨c, off, sp⟩ := a
    simp only at h4
    subst h4
    exact ⟨c, off, rfl, h1⟩

set_option maxHeartbeats 4000000 in
set_option maxRecDepth 1000000 in
theorem lifted (os : Os) (started : os.Started) (H : Type) (enc : TypeId × Value → H) :
    ReturnsInHanded {} Tryz.checked os 3 .any (Rows.volNobodySpec.pre6 enc Tryz.prog Tryz.f3 Rows.volNobodyRow.domain false) (Rows.volNobodySpec.post enc Tryz.prog Tryz.f3 false true false false) := by
  refine returnsInHanded_of_change (C := Tryz.checked) own started (by kernel_rfl) Tryz.func3
    (ChangeSpec.witness6 (enc := enc) (C := Tryz.checked) false ⟨#[], #[.slice none 0 0], []⟩ 8 (by kernel_rfl) (by kernel_rfl) (by kernel_rfl) (by kernel_rfl)) ?_
  intro W base args ds gs before hval0 hW _ _
  have hval : ∀ (j : Nat) t v, Tryz.f3.params[j]? = some t → args[j]? = some v → Value.okWide Tryz.prog W .any base t v := hval0
  have hW' := hW
  obtain ⟨p, q, hA0, hV, rfl, hfz, _⟩ := hW
  have hA : DataW.TrodAll enc Tryz.prog W 0 (fun _ => true) true Tryz.f3.params.toList args.toList ds p := hA0
  rw [Tryz.params3] at hA hval
  obtain ⟨v0, d0, rfl, rfl, h0⟩ := trodAll_one hA
  obtain ⟨rfl, rfl⟩ := trodVars_none hV
  have hok := hval 0 22 v0 rfl rfl
  obtain ⟨a0, len, cap, rfl⟩ := okWide_slice Tryz.underlying22 hok
  have hsh := slice_shape Tryz.underlying22 hok
  have hlt : ∀ x ∈ p, x.block < W.heap.size := fun x hx => by simpa using hW'.lt x (by simpa using hx)
  clear hA0 hval0 hA hval hok
  refine (walk3 a0 len cap hsh W).mono fun e W' ⟨he, hb⟩ => ?_
  subst he
  exact ⟨_, rfl, _, _, _, [], p, [], hW', trodAll_mk1 (shut_bool Tryz.underlying4 true), trodAll_mk1 (Below.trod laidOut (by kernel_rfl) (of_decide_eq_true (by kernel_rfl)) h0 hb hlt), rfl, hb.frame _, fun h => by cases h⟩

theorem named3 : Tryz.pinned.checked.prog.funcNamed Rows.volNobodyRow.func = some 3 := by kernel_rfl
theorem inst3 : Tryz.f3.isInstance Tryz.pinned.checked.prog Rows.volNobodyRow.origin Rows.volNobodyRow.targs := of_decide_eq_true (by kernel_rfl)
set_option maxHeartbeats 4000000 in
set_option maxRecDepth 1000000 in
theorem wrap3 : Tryz.f3.isWrapper Tryz.pinned.checked.prog Rows.volNobodyRow.wrapper Rows.volNobodyRow.mainSum := by
  unfold Func.isWrapper
  rw [if_neg (of_decide_eq_false (by kernel_rfl))]
  exact ⟨rfl, rfl⟩

set_option maxHeartbeats 4000000 in
set_option maxRecDepth 1000000 in
theorem volNobody_holds : Rows.VolNobodySaid :=
  OpenClaim.holds_of_wide 3 Tryz.f3 rfl rfl rfl rfl rfl rfl rfl ⟨rfl, rfl, rfl, rfl, rfl⟩ rfl rfl rfl rfl rfl named3 Tryz.func3 joined inst3 wrap3
    (fun os started H enc _ => lifted os started H enc)

#print axioms volNobody_holds
end Go.Proofs.YtbepgibkcmmfeaaGreat
