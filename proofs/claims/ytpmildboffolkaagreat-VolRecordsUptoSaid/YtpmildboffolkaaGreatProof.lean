/-
  The given statement VolRecordsUptoSaid is proved: for every input within the bound the law returns true, and its arguments read behind the call as they did before.
-/
import Derived.Test.YtpmildboffolkaaGreatOpened
import Derived.Test.YtpmildboffolkaaGreatLives
import Derived.Test.YtpmildboffolkaaGreatAbs6
import Derived.Test.YtpmildboffolkaaGreatFacts
set_option linter.unusedVariables false
set_option linter.unusedSimpArgs false
namespace Go.Proofs.YtpmildboffolkaaGreat
open Go.ChangeShapes Go.WideShapes Go.ChangeAt Go.RowKit Go.Proofs.YtpmildboffolkaaGreat.VRec Go.Deep Go.Proofs.YtpmildboffolkaaGreat.Abs

theorem small_le {H : Type} {l : List (DataW H)} (hk : Rows.uptoSmall H l = true) : Rows.uptoBulkAll l ≤ 1048576 := by
  unfold Rows.uptoSmall at hk
  exact of_decide_eq_true hk
theorem two_bulk {H : Type} (s : ByteArray) (d : DataW H) (hk : Rows.uptoSmall H ([.lit (.string s.data.toList), d] ++ []) = true) : s.size ≤ 1099511627776 ∧ 6 * Rows.uptoBulk d ≤ 70368744177664 := by
  have h := small_le hk
  clear hk
  simp only [List.append_nil, Rows.uptoBulkAll, Rows.uptoBulk] at h
  have e : s.data.toList.length = s.size := by simp
  rw [e] at h
  generalize Rows.uptoBulk d = n at h ⊢
  generalize s.size = m at h ⊢
  omega

theorem lives_ok (w : World) : Calls Tryz.prog 6 #[] w fun e w' => e = .returned (.bool true) ∧ Below w.heap.size w w' := no_args rm_ok runLives w

set_option maxHeartbeats 4000000 in
set_option maxRecDepth 1000000 in
theorem lifted (os : Os) (started : os.Started) (H : Type) (enc : TypeId × Value → H) (F : Stop.Interp) :
    ReturnsInHanded {} Tryz.checked os 3 .any ((Rows.OpenSpec.upto Rows.volRecordsSpec).pre6 enc Tryz.prog Tryz.f3 Rows.volRecordsUptoRow.domain false) (((Rows.OpenSpec.upto Rows.volRecordsSpec).at F).post enc Tryz.prog Tryz.f3 false true false false) := by
  refine returnsInHanded_of_cond (C := Tryz.checked) (s := Rows.OpenSpec.upto Rows.volRecordsSpec) (k := Rows.uptoSmall) rfl own started (by kernel_rfl) Tryz.func3
    (OpenSpec.witness (enc := enc) (C := Tryz.checked) (s := Rows.OpenSpec.upto Rows.volRecordsSpec) (k := Rows.uptoSmall) rfl false ⟨#[], #[.string ⟨#[]⟩, .slice none 0 0], []⟩ 8 (by kernel_rfl) (by kernel_rfl) (by kernel_rfl)
      (x := ([.lit (.string []), .nil], [], [])) (by kernel_rfl) rfl (by kernel_rfl)) ?_
  intro W base args ds gs before hval0 hW _ hk _
  have hval : ∀ (j : Nat) t v, Tryz.f3.params[j]? = some t → args[j]? = some v → Value.okWide Tryz.prog W .any base t v := hval0
  have hW' := hW
  obtain ⟨p, q, hA0, hV, rfl, hfz, _⟩ := hW
  have hA : DataW.TrodAll enc Tryz.prog W 0 (fun _ => true) true Tryz.f3.params.toList args.toList ds p := hA0
  rw [Tryz.params3] at hA hval
  obtain ⟨v0, v1, d0, d1, p0, p1, rfl, rfl, rfl, h0, h1⟩ := trodAll_two hA
  have h0k := h0
  obtain ⟨rfl, rfl⟩ := trodVars_none hV
  have hlt : ∀ x ∈ p0 ++ p1, x.block < W.heap.size := fun x hx => by simpa using hW'.lt x (by simpa using hx)
  have hlt0 : ∀ x ∈ p0, x.block < W.heap.size := fun x hx => hlt x (List.mem_append_left _ hx)
  have hlt1 : ∀ x ∈ p1, x.block < W.heap.size := fun x hx => hlt x (List.mem_append_right _ hx)
  obtain ⟨s, rfl⟩ := okWide_string Tryz.underlying9 (hval 0 9 v0 rfl rfl)
  obtain ⟨fuel0, hf0⟩ := h0
  obtain ⟨s', e0, hx0, _⟩ := DataW.trod_string Tryz.underlying9 hf0
  have e1 : s' = s := by simpa [Value.cells] using e0.symm
  subst e1
  simp only [Prod.mk.injEq] at hx0
  obtain ⟨rfl, rfl⟩ := hx0
  obtain ⟨xs, ao, cv, rfl, hlie, hsum⟩ := open_ents (hval 1 22 v1 rfl rfl) h1 hlt1
  obtain ⟨hs, hbd⟩ := two_bulk s' d1 hk
  clear hA0 hval0 hA hval hk
  refine (law_ok W s' xs ao cv hs hlie (Nat.le_trans hsum hbd) lives_ok).mono fun e W' ⟨he, hb⟩ => ?_
  subst he
  exact ⟨_, rfl, _, _, _, [], [] ++ p1, [], hW', trodAll_mk1 (shut_bool Tryz.underlying4 true), trodAll_mk2 (Below.trod laidOut (by kernel_rfl) (of_decide_eq_true (by kernel_rfl)) h0k hb hlt0) (Below.trod laidOut (by kernel_rfl) (of_decide_eq_true (by kernel_rfl)) h1 hb hlt1), rfl, hb.frame _, fun h => by cases h⟩

theorem named3 : Tryz.pinned.checked.prog.funcNamed Rows.volRecordsUptoRow.func = some 3 := by kernel_rfl
theorem inst3 : Tryz.f3.isInstance Tryz.pinned.checked.prog Rows.volRecordsUptoRow.origin Rows.volRecordsUptoRow.targs := of_decide_eq_true (by kernel_rfl)
set_option maxHeartbeats 4000000 in
set_option maxRecDepth 1000000 in
theorem wrap3 : Tryz.f3.isWrapper Tryz.pinned.checked.prog Rows.volRecordsUptoRow.wrapper Rows.volRecordsUptoRow.mainSum := by
  unfold Func.isWrapper
  rw [if_neg (of_decide_eq_false (by kernel_rfl))]
  exact ⟨rfl, rfl⟩

set_option maxHeartbeats 4000000 in
set_option maxRecDepth 1000000 in
theorem volRecords_holds : Rows.VolRecordsUptoSaid :=
  OpenClaim.holds_of_cond 3 Tryz.f3 rfl rfl rfl rfl rfl rfl rfl ⟨rfl, rfl, rfl, rfl, rfl⟩ rfl rfl rfl rfl rfl named3 Tryz.func3 joined inst3 wrap3
    (fun os started H enc _ F => lifted os started H enc F)

#print axioms volRecords_holds
end Go.Proofs.YtpmildboffolkaaGreat
