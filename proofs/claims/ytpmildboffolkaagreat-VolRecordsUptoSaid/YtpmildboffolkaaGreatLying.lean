/-
  Entries that lie in memory, and what their bytes are at most; the conditions stand in each theorem.
-/
import Derived.Test.YtpmildboffolkaaGreatWritten
set_option linter.unusedVariables false
set_option linter.unusedSimpArgs false
namespace Go.Proofs.YtpmildboffolkaaGreat.VRec
open Go Go.RowKit

/-- Entries that lie in w: from c's cell off on. -/
structure Lie (w : World) (B : Nat) (ao : Option Addr) (xs : List BE) : Prop where
  at' : 0 < xs.length → ∃ c off, ao = some ⟨c, off, none⟩ ∧ c < B ∧ ∀ i x, xs[i]? = some x → w.cell? ⟨c, off + i * 3, none⟩ = some (.string x.k) ∧ w.cell? ⟨c, off + i * 3 + 1, none⟩ = some (.string x.v) ∧ w.cell? ⟨c, off + i * 3 + 2, none⟩ = some (.bool x.g)
theorem cell_same {w w' : World} {a : Addr} (h : w'.heap[a.block]? = w.heap[a.block]?) : w'.cell? a = w.cell? a := by
  unfold World.cell?; rw [h]
theorem Lie.below {w w' : World} {B : Nat} {ao : Option Addr} {xs : List BE} (h : Lie w B ao xs) (hb : Below B w w') : Lie w' B ao xs :=
  ⟨fun h0 => by
    obtain ⟨c, off, e, hc, hx⟩ := h.at' h0
    refine ⟨c, off, e, hc, fun i x hi => ?_⟩
    obtain ⟨h1, h2, h3⟩ := hx i x hi
    exact ⟨(cell_same (hb.block c hc)).trans h1, (cell_same (hb.block c hc)).trans h2, (cell_same (hb.block c hc)).trans h3⟩⟩
theorem take_succ_at {xs : List BE} {i : Nat} {x : BE} (h : xs[i]? = some x) : xs.take (i + 1) = xs.take i ++ [x] := by
  rw [List.take_add_one, h]; rfl
theorem mem_at {xs : List BE} {i : Nat} {x : BE} (h : xs[i]? = some x) : x ∈ xs := List.mem_of_getElem? h
theorem sumOf_take_le (xs : List BE) (i : Nat) : sumOf ((xs.take i).map BE.ent) ≤ sumOf (xs.map BE.ent) := by
  have h : xs.map BE.ent = (xs.take i).map BE.ent ++ (xs.drop i).map BE.ent := by rw [← List.map_append, List.take_append_drop]
  rw [h]
  simp only [sumOf, List.map_append, List.sum_append]
  omega
theorem most_ent (x : BE) : mostOf x.ent = x.k.size + x.v.size + 21 := by simp [mostOf, BE.ent]
theorem sum_step {xs : List BE} {i : Nat} {x : BE} (h : xs[i]? = some x) : sumOf ((xs.take (i + 1)).map BE.ent) = sumOf ((xs.take i).map BE.ent) + (x.k.size + x.v.size + 21) := by
  rw [take_succ_at h, List.map_append, List.map_singleton, sumOf_snoc, most_ent]
theorem rec_step {xs : List BE} {i : Nat} {x : BE} (h : xs[i]? = some x) : recOf ((xs.take (i + 1)).map BE.ent) = recOf ((xs.take i).map BE.ent) ++ oneOf x.ent := by
  rw [take_succ_at h, List.map_append, List.map_singleton, recOf_snoc]
/-- a text of an entry is no longer than what all are -/
theorem size_le_sum {xs : List BE} {i : Nat} {x : BE} (h : xs[i]? = some x) : x.k.size + x.v.size + 21 ≤ sumOf (xs.map BE.ent) := by
  have h1 := sum_step h
  have h2 := sumOf_take_le xs (i + 1)
  omega
theorem rec_room {xs : List BE} {i : Nat} {x : BE} (h : xs[i]? = some x) (hs : sumOf (xs.map BE.ent) ≤ 70368744177664) : (recOf ((xs.take i).map BE.ent)).length + (oneOf x.ent).length ≤ sumOf (xs.map BE.ent) := by
  have h1 := rec_step h
  have h2 := sumOf_take_le xs (i + 1)
  have h3 := recOf_len ((xs.take (i + 1)).map BE.ent) (fun y hy => by
    obtain ⟨z, hz, rfl⟩ := List.mem_map.1 hy
    obtain ⟨j, hj⟩ := List.getElem?_of_mem (List.mem_of_mem_take hz)
    have := size_le_sum hj
    have e1 : z.ent.key.length = z.k.size := by simp [BE.ent]
    have e2 : z.ent.value.length = z.v.size := by simp [BE.ent]
    rw [e1, e2]; omega)
  rw [h1, List.length_append] at h3
  omega
end Go.Proofs.YtpmildboffolkaaGreat.VRec
namespace Go.Proofs.YtpmildboffolkaaGreat.VRec
open Go Go.RowKit
theorem Lie.wide {w : World} {B B' : Nat} {ao : Option Addr} {xs : List BE} (h : Lie w B ao xs) (hB : B ≤ B') : Lie w B' ao xs :=
  ⟨fun h0 => by
    obtain ⟨c, off, e, hc, hx⟩ := h.at' h0
    exact ⟨c, off, e, Nat.lt_of_lt_of_le hc hB, hx⟩⟩
end Go.Proofs.YtpmildboffolkaaGreat.VRec
