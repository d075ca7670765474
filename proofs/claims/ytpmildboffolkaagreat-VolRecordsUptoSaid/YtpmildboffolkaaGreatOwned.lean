/-
  A row that a call owns, across calls that leave it alone; the conditions stand in each theorem.
-/
import Derived.Test.YtpmildboffolkaaGreatOrder
set_option linter.unusedVariables false
set_option linter.unusedSimpArgs false
namespace Go.Proofs.YtpmildboffolkaaGreat.VRec
open Go Go.RowKit
section
variable {w w' : World} {base e size n : Nat} {v : Value} {xs : List Value}
theorem own_only {S : Nat → Prop} (h : w.ownsRow base e size v n xs) (hb : Only S w w') (hs : ∀ g, v.ownBlock = some g → ¬ S g) : w'.ownsRow base e size v n xs := by
  refine ⟨h.1, ?_⟩
  rcases h.2 with ⟨rfl, rfl⟩ | ⟨g, cap, cur, rfl, h1, h2, h3⟩
  · exact Or.inl ⟨rfl, rfl⟩
  · have hlt : g < w.heap.size := (Array.getElem?_eq_some_iff.1 h2).1
    exact Or.inr ⟨g, cap, cur, rfl, h1, (hb.2.2.2.2 g hlt (hs g rfl)).trans h2, h3⟩
theorem own_ne {b : Nat} {t : TypeId} {cs : Array Value} (h : w.ownsRow base e size v n xs) (ha : At w b t cs) (hne : e ≠ t) : v.ownBlock ≠ some b := by
  rcases h.2 with ⟨rfl, _⟩ | ⟨g, cap, cur, rfl, _, h2, _⟩
  · simp [Value.ownBlock]
  · intro he
    have hg : g = b := by simpa [Value.ownBlock] using he
    subst hg
    exact At.ne (t := e) h2 ha hne rfl
theorem own_lt {g : Nat} (h : w.ownsRow base e size v n xs) (hg : v.ownBlock = some g) : g < w.heap.size ∧ base ≤ g := by
  rcases h.2 with ⟨rfl, _⟩ | ⟨g', cap, cur, rfl, h1, h2, _⟩
  · simp [Value.ownBlock] at hg
  · have : g' = g := by simpa [Value.ownBlock] using hg
    subst this
    exact ⟨(Array.getElem?_eq_some_iff.1 h2).1, h1⟩
/-- the shape of an owned slice of n elements -/
theorem own_slice (h : w.ownsRow base e size v n xs) : ∃ ao cv, v = .slice ao n cv ∧ (0 < n → ∃ g, ao = some ⟨g, 0, none⟩ ∧ n ≤ cv ∧ cv ≤ maxLen) := by
  rcases h.2 with ⟨rfl, rfl⟩ | ⟨g, cap, cur, rfl, h1, h2, h3, h4, _⟩
  · exact ⟨none, 0, rfl, fun hn => absurd hn (by omega)⟩
  · exact ⟨_, _, rfl, fun _ => ⟨g, rfl, h3, h4⟩⟩
theorem own_cell {g cv i : Nat} {u : Value} (h : w.ownsRow base e size (.slice (some ⟨g, 0, none⟩) n cv) n xs) (hi : xs[i]? = some u) : w.cell? ⟨g, i, none⟩ = some u := by
  have := h.cells (g := g) rfl i u hi
  by_cases h0 : i = 0
  · subst h0; simpa [Addr.add] using this
  · simpa [Addr.add, h0] using this
theorem cell_three_new (w : World) (x y z : Value) (t : TypeId) : ∀ j u, [x, y, z][j]? = some u → (w.alloc (.cells #[x, y, z] t)).cell? ((⟨w.heap.size, 0, none⟩ : Addr).add j) = some u := by
  intro j u hj
  match j, hj with
  | 0, hj => simp at hj; subst hj; simp [Addr.add]
  | 1, hj => simp at hj; subst hj; simp [Addr.add]
  | 2, hj => simp at hj; subst hj; simp [Addr.add]
  | (j + 3), hj => simp at hj
end
end Go.Proofs.YtpmildboffolkaaGreat.VRec
