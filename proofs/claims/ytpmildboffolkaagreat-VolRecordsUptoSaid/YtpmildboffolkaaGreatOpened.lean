/-
  An argument that is a slice of entries, opened to its cells; what the bound on the bulk gives; the conditions stand in each theorem.
-/
import Derived.Test.YtpmildboffolkaaGreatLaw
import Derived.Test.YtpmildboffolkaaGreatRows
import Derived.ProofKit
import Derived.Carry
import Derived.ReadAgain
import Derived.JoinedCond
import Derived.Deep.Slices
import Derived.Deep.Fields
import Derived.ChangeSame
set_option linter.unusedVariables false
set_option linter.unusedSimpArgs false
namespace Go.Proofs.YtpmildboffolkaaGreat
open Go.ChangeShapes Go.WideShapes Go.ChangeAt Go.RowKit Go.Proofs.YtpmildboffolkaaGreat.VRec Go.Deep

theorem own : ownKnob Tryz.prog.godebug = none := by kernel_rfl
theorem laidOut : laidOutB Tryz.prog = true := by kernel_rfl
theorem cells29 : Tryz.prog.cellsOf 29 = 3 := by kernel_rfl
theorem cells9 : Tryz.prog.cellsOf 9 = 1 := by kernel_rfl
theorem cells4 : Tryz.prog.cellsOf 4 = 1 := by kernel_rfl


theorem slice_shape {P : Program} {w : World} {r : Reach} {base : Nat} {t e : TypeId} (ht : P.underlying t = some (.slice e)) {a : Option Addr} {len cap : Nat} (h : Value.okWide P w r base t (.slice a len cap)) :
    (a = none ∧ len = 0 ∧ cap = 0) ∨ ∃ c off, a = some ⟨c, off, none⟩ ∧ len ≤ cap := by
  simp only [Value.okWide, ht, Cell.okWide] at h
  cases a with
  | none =>
    left
    cases len with
    | zero =>
      cases cap with
      | zero => exact ⟨rfl, rfl, rfl⟩
      | succ n => simp [Cell.ok, ht] at h
    | succ n => simp [Cell.ok, ht] at h
  | some a =>
    right
    simp only [Cell.ok, ht] at h
    obtain ⟨h1, _, h3⟩ := h
    obtain ⟨_, h4, _⟩ := h3
    obtain ⟨c, off, sp⟩ := a
    simp only at h4
    subst h4
    exact ⟨c, off, rfl, h1⟩

section
variable {H : Type} {enc : TypeId × Value → H} {P : Program} {w : World} {base : Nat} {spare : Nat → Bool} {held : Bool}
theorem open_slice_fields {t e : TypeId} {fs : Array Field} {fuel : Nat} {cs : List Value} {x : DataW H × List MemPlace} (ht : P.underlying t = some (.slice e)) (he : P.underlying e = some (.struct fs))
    (hone : oneCellFields P fs = true) (hC : P.cellsOf e = fs.size) (h : DataW.trod enc P w base spare held fuel t cs = some x) :
    (cs = [.slice none 0 0] ∧ x = (.nil, [])) ∨
    ∃ (a : Addr) (len cap m : Nat) (D : Nat → DataW H) (Pl : Nat → List MemPlace), cs = [.slice (some a) len cap] ∧ base ≤ a.block ∧ len ≤ cap ∧ cap ≤ maxLen ∧ m = (if spare a.block then cap else len) ∧
      x = (.slice ((List.range len).map D) ((List.range (m - len)).map fun j => D (len + j)), MemPlace.row a (m * fs.size) ++ (List.range m).flatMap Pl) ∧
      ∀ i, i < m → ∃ (ys : List (DataW H × List MemPlace)) (n : Nat), D i = .agg (ys.map (·.1)) ∧ Pl i = ys.flatMap (·.2) ∧ ys.length = fs.size ∧
        ∀ (j : Nat) (f : Field), fs[j]? = some f → ∃ (v : Value) (y : DataW H × List MemPlace), w.cell? (a.add (i * fs.size + j)) = some v ∧ ys[j]? = some y ∧ DataW.trod enc P w base spare held n f.type [v] = some y := by
  rcases open_slice ht h with h0 | ⟨a, len, cap, m, n, D, Pl, hcs, hb, hl, hm, hmm, hx, hi⟩
  · exact .inl h0
  · refine .inr ⟨a, len, cap, m, D, Pl, hcs, hb, hl, hm, hmm, by rw [hC] at hx; exact hx, fun i him => ?_⟩
    obtain ⟨cs', hc, ht'⟩ := hi i him
    rw [hC] at hc
    obtain ⟨ys, n', hn', hy, hlen, hyl, hf⟩ := DataW.trod_struct he ht'
    obtain ⟨_, hcl, hat⟩ := World.cells?_some hc
    simp only [Prod.mk.injEq] at hy
    refine ⟨ys, n', hy.1, hy.2, hyl, fun j f hj => ?_⟩
    obtain ⟨ho, hk⟩ := hone_of hone j f hj
    have hjl : j < fs.size := (Array.getElem?_eq_some_iff.1 hj).1
    have hcell := hat j hjl
    have hv : cs'[j]? = some (cs'[j]'(by omega)) := List.getElem?_eq_getElem (by omega)
    have h1 := hf j f hj
    rw [ho, hk] at h1
    have hone' : (cs'.drop j).take 1 = [cs'[j]'(by omega)] := by
      rw [List.drop_eq_getElem_cons (by omega)]
      rfl
    rw [hone'] at h1
    have hys : ys[j]? = some (ys[j]'(by omega)) := List.getElem?_eq_getElem (by omega)
    refine ⟨_, _, ?_, hys, h1.trans hys⟩
    rw [← Go.Deep.add_add, hcell, hv]
end

/-- how an entry reads -/
def datOf (H : Type) (x : BE) : DataW H := .agg [.lit (.string x.k.data.toList), .lit (.string x.v.data.toList), .lit (.bool x.g)]
theorem bulk_one (H : Type) (x : BE) : mostOf x.ent ≤ 6 * Rows.uptoBulk (datOf H x) := by
  simp only [datOf, Rows.uptoBulk, Rows.uptoBulkAll, mostOf, BE.ent]
  omega
theorem bulk_all (H : Type) : ∀ xs : List BE, sumOf (xs.map BE.ent) ≤ 6 * Rows.uptoBulkAll (xs.map (datOf H))
  | [] => by simp [sumOf, Rows.uptoBulkAll]
  | x :: xs => by
    have ih := bulk_all H xs
    have h1 := bulk_one H x
    simp only [sumOf, List.map_cons, List.sum_cons, Rows.uptoBulkAll] at ih ⊢
    omega
theorem addr_add (c off k : Nat) : (⟨c, off, none⟩ : Addr).add k = ⟨c, off + k, none⟩ := by
  unfold Addr.add
  split
  · rename_i h; subst h; rfl
  · rfl

set_option maxHeartbeats 1000000 in
set_option maxRecDepth 1000000 in
/-- a slice of entries, opened -/
theorem open_ents {H : Type} {enc : TypeId × Value → H} {W : World} {v : Value} {d : DataW H} {ps : List MemPlace} {r : Reach} {b0 : Nat} (hval : Value.okWide Tryz.prog W r b0 22 v) (h : DataW.Trod enc Tryz.prog W 0 (fun _ => true) true 22 v d ps) (hlt : ∀ x ∈ ps, x.block < W.heap.size) :
    ∃ (xs : List BE) (ao : Option Addr) (cv : Nat), v = .slice ao xs.length cv ∧ Lie W W.heap.size ao xs ∧ sumOf (xs.map BE.ent) ≤ 6 * Rows.uptoBulk d := by
  obtain ⟨a0, len, cap, rfl⟩ := okWide_slice Tryz.underlying22 hval
  have hsh := slice_shape Tryz.underlying22 hval
  obtain ⟨fuel, hf⟩ := h
  rcases open_slice_fields Tryz.underlying22 Tryz.underlying29 (by kernel_rfl) cells29 hf with ⟨hcs, hx⟩ | ⟨a, len', cap', m, D, Pl, hcs, _, hl, _, hm, hx, hi⟩
  · have e : Value.slice a0 len cap = .slice none 0 0 := by simpa [Value.cells] using hcs
    rw [e]
    exact ⟨[], none, 0, rfl, ⟨fun h => absurd h (by simp)⟩, by simp [sumOf]⟩
  · have e : Value.slice a0 len cap = .slice (some a) len' cap' := by simpa [Value.cells] using hcs
    injection e with e1 e2 e3
    subst e1; subst e2; subst e3
    rcases hsh with ⟨h0, _, _⟩ | ⟨c, off, h0, _⟩
    · cases h0
    · injection h0 with h0
      subst h0
      simp only [if_true] at hm
      have hlm : len ≤ m := by omega
      have hE : ∀ i, i < len → ∃ x : BE, (W.cell? ⟨c, off + i * 3, none⟩ = some (.string x.k) ∧ W.cell? ⟨c, off + i * 3 + 1, none⟩ = some (.string x.v) ∧ W.cell? ⟨c, off + i * 3 + 2, none⟩ = some (.bool x.g)) ∧ D i = datOf H x := by
        intro i hil
        obtain ⟨ys, n, hD, _, hyl, hfl⟩ := hi i (by omega)
        obtain ⟨v0, y0, c0, g0, t0⟩ := hfl 0 _ rfl
        obtain ⟨v1, y1, c1, g1, t1⟩ := hfl 1 _ rfl
        obtain ⟨v2, y2, c2, g2, t2⟩ := hfl 2 _ rfl
        obtain ⟨k, e0, f0, _⟩ := DataW.trod_string Tryz.underlying9 t0
        obtain ⟨vv, e1, f1, _⟩ := DataW.trod_string Tryz.underlying9 t1
        obtain ⟨g, e2, f2⟩ := DataW.trod_bool Tryz.underlying4 t2
        simp only [List.cons.injEq, and_true] at e0 e1 e2
        subst e0; subst e1; subst e2; subst f0; subst f1; subst f2
        rw [addr_add] at c0 c1 c2
        refine ⟨⟨k, vv, g⟩, ⟨c0, ?_, ?_⟩, ?_⟩
        · exact c1
        · exact c2
        · rw [hD]
          have hy : ys = [(.lit (.string k.data.toList), []), (.lit (.string vv.data.toList), []), (.lit (.bool g), [])] := by
            match ys, hyl, g0, g1, g2 with
            | [a, b, d], _, g0, g1, g2 =>
              simp at g0 g1 g2
              rw [g0, g1, g2]
          rw [hy]; rfl
      obtain ⟨F, hF⟩ : ∃ F : Nat → BE, ∀ i, i < len → (W.cell? ⟨c, off + i * 3, none⟩ = some (.string (F i).k) ∧ W.cell? ⟨c, off + i * 3 + 1, none⟩ = some (.string (F i).v) ∧ W.cell? ⟨c, off + i * 3 + 2, none⟩ = some (.bool (F i).g)) ∧ D i = datOf H (F i) :=
        ⟨fun i => if h : i < len then Classical.choose (hE i h) else ⟨⟨#[]⟩, ⟨#[]⟩, false⟩, fun i hil => by
          simp only [hil, dif_pos]
          exact Classical.choose_spec (hE i hil)⟩
      refine ⟨(List.range len).map F, some ⟨c, off, none⟩, cap, by simp, ⟨fun hp => ⟨c, off, rfl, ?_, ?_⟩⟩, ?_⟩
      · have hpos : 0 < len := by simpa using hp
        have := (hF 0 hpos).1.1
        have hlt' : c < W.heap.size := by
          cases hb : W.heap[c]? with
          | none => simp [World.cell?, hb] at this
          | some o => exact (Array.getElem?_eq_some_iff.1 hb).1
        exact hlt'
      · intro i x hx
        have hil : i < len := by
          have := (List.getElem?_eq_some_iff.1 hx).1
          simpa using this
        have e : x = F i := by
          rw [List.getElem?_map, List.getElem?_range hil] at hx
          simpa using hx.symm
        subst e
        exact (hF i hil).1
      · have e : ((List.range len).map F).map (datOf H) = (List.range len).map D := by
          rw [List.map_map]
          refine List.map_congr_left fun i hir => ?_
          exact ((hF i (List.mem_range.1 hir)).2).symm
        have hb := bulk_all H ((List.range len).map F)
        rw [e] at hb
        simp only [Prod.mk.injEq] at hx
        rw [hx.1]
        simp only [Rows.uptoBulk]
        omega
end Go.Proofs.YtpmildboffolkaaGreat
