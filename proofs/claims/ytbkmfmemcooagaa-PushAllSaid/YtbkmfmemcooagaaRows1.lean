/-
  Rows of one-cell values of the call's own, made whole.
-/
import Derived.Test.YtbkmfmemcooagaaStep
import Derived.Test.YtbkmfmemcooagaaInts
import Derived.Laws.OwnMore
namespace Go.Proofs.Ytbkmfmemcooagaa
open Go.RowKit
theorem made_one (z : Value) (h : z.cells = #[z]) (n : Nat) : (madeCells z.cells (n * 1)).toList = List.replicate n z := by
  rw [h, Nat.mul_one]
  apply List.ext_getElem
  · simp [madeCells]
  · intro i h1 h2; simp [madeCells, Nat.mod_one]
/-- the whole row of n values, at the head of block g -/
def Row1 (base : Nat) (E : TypeId) (w : World) (g : Nat) (vs : List Value) : Prop := w.ownsRow base E 1 (.slice (some ⟨g, 0, none⟩) vs.length vs.length) vs.length vs
section
variable {base g : Nat} {E : TypeId} {w w' : World} {vs : List Value}
theorem Row1.lt (h : Row1 base E w g vs) : base ≤ g ∧ g < w.heap.size := World.ownsRow.lt h g rfl
theorem Row1.cell (h : Row1 base E w g vs) {j : Nat} {v : Value} (hv : vs[j]? = some v) : w.cell? ⟨g, j, none⟩ = some v := by
  rw [World.ownsRow.cellAt h j (by rw [Nat.mul_one]; exact (List.getElem?_eq_some_iff.1 hv).1)]; exact hv
theorem Row1.free (h : Row1 base E w g vs) (j : Nat) : w.frozen? ⟨g, j, none⟩ = false := World.ownsRow.frozenAt h j
theorem Row1.set (h : Row1 base E w g vs) (j : Nat) (u : Value) : Row1 base E (w.setCell ⟨g, j, none⟩ u) g (vs.set j u) := by
  unfold Row1
  rw [List.length_set]
  exact (World.ownsRow.stored h j u).1
theorem Row1.keep {row : Option Nat} (h : Row1 base E w g vs) (hg : w.grownBy w' row) (hne : ∀ k, row = some k → k ≠ g) : Row1 base E w' g vs :=
  World.ownsRow.kept h hg (.inr (fun e => hne g e.symm rfl))
theorem Row1.alloc (h : Row1 base E w g vs) (o : Obj) : Row1 base E (w.alloc o) g vs := World.ownsRow.alloc h o
theorem Row1.call (h : Row1 base E w g vs) (hb : Below w.heap.size w w') : Row1 base E w' g vs := h.keep (row := none) ⟨hb.os, hb.tape, hb.output, hb.size, fun k hk _ => hb.block k hk⟩ (fun _ e => by cases e)
theorem Row1.far (h : Row1 base E w g vs) {p o : Nat} (hp : p ≠ g) (u : Value) : Row1 base E (w.setCell ⟨p, o, none⟩ u) g vs := h.keep (grown_set w ⟨p, o, none⟩ u) (fun k e => by cases e; exact hp)
theorem Row1.drew (h : Row1 base E w g vs) : Row1 base E w.drew g vs := World.ownsRow.drew h
end
end Go.Proofs.Ytbkmfmemcooagaa
