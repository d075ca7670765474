/-
  A block of memory that is known whole, and worlds in which nothing but some blocks has turned; the conditions stand in each theorem.
-/
import Derived.Test.YtpmildboffolkaaGreatBytes
import Derived.Below
import Derived.Laws.OwnMore
import Derived.Laws.Rows
import Derived.OneCell
import Derived.Deep.Draws
set_option linter.unusedVariables false
set_option linter.unusedSimpArgs false
namespace Go.Proofs.YtpmildboffolkaaGreat.VRec
open Go Go.RowKit

/-! ## A block that is known whole -/
def At (w : World) (b : Nat) (t : TypeId) (cs : Array Value) : Prop := w.heap[b]? = some (.cells cs t (0, 0))
section
variable {w w' : World} {b : Nat} {t : TypeId} {cs : Array Value}
theorem At.lt (h : At w b t cs) : b < w.heap.size := (Array.getElem?_eq_some_iff.1 h).1
theorem At.cell (h : At w b t cs) (i : Nat) : w.cell? ⟨b, i, none⟩ = cs[i]? := cell_of_row w b i cs t (0, 0) h
theorem At.free (h : At w b t cs) (i : Nat) : w.frozen? ⟨b, i, none⟩ = false := by
  unfold At at h
  simp [World.frozen?, h]
theorem At.new (w : World) (t : TypeId) (cs : Array Value) : At (w.alloc (.cells cs t)) w.heap.size t cs := heap_alloc_new w _
theorem At.alloc (h : At w b t cs) (o : Obj) : At (w.alloc o) b t cs := (Below.heap_alloc w o b h.lt).trans h
theorem At.put (h : At w b t cs) (i : Nat) (u : Value) : At (w.setCell ⟨b, i, none⟩ u) b t (cs.setIfInBounds i u) := by
  unfold At at h ⊢
  simp [World.setCell, Array.getElem?_modify, h]
theorem At.far (h : At w b t cs) {p : Addr} (hp : b ≠ p.block) (u : Value) : At (w.setCell p u) b t cs := (Below.heap_setCell w p u b hp).trans h
theorem At.below {B : Nat} (h : At w b t cs) (hb : Below B w w') (hg : b < B) : At w' b t cs := (hb.block b hg).trans h
theorem At.grown {row : Option Nat} (h : At w b t cs) (hb : w.grownBy w' row) (hg : some b ≠ row) : At w' b t cs := (hb.block b h.lt hg).trans h
theorem At.ne {b' : Nat} {t' : TypeId} {cs' : Array Value} (h : At w b t cs) (h' : At w b' t' cs') (hne : t ≠ t') : b ≠ b' := by
  rintro rfl
  have e := Option.some.inj (h.symm.trans h')
  injection e with _ e2
  exact hne e2
end

/-! ## Nothing but some blocks has turned -/
def Only (S : Nat → Prop) (w w' : World) : Prop :=
  w'.os = w.os ∧ w'.tape = w.tape ∧ w'.output = w.output ∧ w.heap.size ≤ w'.heap.size ∧ ∀ i, i < w.heap.size → ¬ S i → w'.heap[i]? = w.heap[i]?
section
variable {S : Nat → Prop} {w w1 w2 : World}
theorem Only.refl (S : Nat → Prop) (w : World) : Only S w w := ⟨rfl, rfl, rfl, Nat.le_refl _, fun _ _ _ => rfl⟩
theorem Only.size (h : Only S w w1) : w.heap.size ≤ w1.heap.size := h.2.2.2.1
theorem Only.trans (h : Only S w w1) (k : Only S w1 w2) : Only S w w2 :=
  ⟨k.1.trans h.1, k.2.1.trans h.2.1, k.2.2.1.trans h.2.2.1, Nat.le_trans h.size k.size, fun i hi hs => (k.2.2.2.2 i (Nat.lt_of_lt_of_le hi h.size) hs).trans (h.2.2.2.2 i hi hs)⟩
theorem Only.mono {T : Nat → Prop} (h : Only S w w1) (hst : ∀ i, i < w.heap.size → S i → T i) : Only T w w1 :=
  ⟨h.1, h.2.1, h.2.2.1, h.size, fun i hi hs => h.2.2.2.2 i hi fun x => hs (hst i hi x)⟩
theorem Only.alloc (h : Only S w w1) (o : Obj) : Only S w (w1.alloc o) :=
  ⟨h.1, h.2.1, h.2.2.1, Nat.le_trans h.size (by simp), fun i hi hs => (Below.heap_alloc w1 o i (Nat.lt_of_lt_of_le hi h.size)).trans (h.2.2.2.2 i hi hs)⟩
theorem Only.drew (h : Only S w w1) : Only S w w1.drew := ⟨h.1, h.2.1, h.2.2.1, h.size, h.2.2.2.2⟩
theorem Only.drewN (h : Only S w w1) (n : Nat) : Only S w (w1.drewN n) := ⟨h.1, h.2.1, h.2.2.1, h.size, h.2.2.2.2⟩
theorem Only.set (h : Only S w w1) {p : Addr} (hp : p.block < w.heap.size → S p.block) (u : Value) : Only S w (w1.setCell p u) :=
  ⟨h.1, h.2.1, h.2.2.1, by simpa [World.setCell] using h.size, fun i hi hs => (Below.heap_setCell w1 p u i (by rintro rfl; exact hs (hp hi))).trans (h.2.2.2.2 i hi hs)⟩
theorem Only.at {b : Nat} {t : TypeId} {cs : Array Value} (h : Only S w w1) (ha : At w b t cs) (hs : ¬ S b) : At w1 b t cs := (h.2.2.2.2 b ha.lt hs).trans ha
theorem Only.below (h : Only S w w1) {B : Nat} (hB : B ≤ w.heap.size) (hs : ∀ i, i < B → ¬ S i) : Below B w w1 :=
  ⟨h.1, h.2.1, h.2.2.1, h.size, fun i hi => h.2.2.2.2 i (Nat.lt_of_lt_of_le hi hB) (hs i hi)⟩
theorem Only.of_below {B : Nat} (h : Below B w w1) (hB : w.heap.size ≤ B) : Only S w w1 :=
  ⟨h.os, h.tape, h.output, h.size, fun i hi _ => h.block i (Nat.lt_of_lt_of_le hi hB)⟩
theorem Only.of_grown {row : Option Nat} (h : w.grownBy w1 row) (hs : ∀ g, row = some g → g < w.heap.size → S g) : Only S w w1 :=
  ⟨h.os, h.tape, h.output, h.size, fun i hi hn => h.block i hi fun e => hn (hs i e.symm hi)⟩
end
end Go.Proofs.YtpmildboffolkaaGreat.VRec
