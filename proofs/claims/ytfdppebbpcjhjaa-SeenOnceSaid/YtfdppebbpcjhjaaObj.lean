/-
  A block known whole, with its type: it is no slice's own row of another type.
-/
import Derived.Test.YtfdppebbpcjhjaaStep
namespace Go.Proofs.Ytfdppebbpcjhjaa
open Go.RowKit
def Ob (W : World) (g : Nat) (cs : Array Value) (T : TypeId) : Prop := W.heap[g]? = some (.cells cs T (0, 0))
section
variable {W W' : World} {g : Nat} {cs : Array Value} {T : TypeId}
theorem Ob.lt (h : Ob W g cs T) : g < W.heap.size := (Array.getElem?_eq_some_iff.1 h).1
theorem Ob.new (W : World) (cs : Array Value) (T : TypeId) : Ob (W.alloc (.cells cs T)) W.heap.size cs T := heap_alloc_new W _
theorem Ob.alloc (h : Ob W g cs T) (o : Obj) : Ob (W.alloc o) g cs T := (Below.heap_alloc W o g h.lt).trans h
theorem Ob.drew (h : Ob W g cs T) : Ob W.drew g cs T := h
theorem Ob.call (h : Ob W g cs T) (hb : Below W.heap.size W W') : Ob W' g cs T := (hb.block g h.lt).trans h
theorem Ob.below {B : Nat} (h : Ob W g cs T) (hb : Below B W W') (hB : g < B) : Ob W' g cs T := (hb.block g hB).trans h
theorem Ob.app {α : Type} {enc : α → List Value} {sz base : Nat} {E : TypeId} {v : Value} {l : List α} (h : Ob W g cs T) (ho : Own enc sz E base W v l) (hg : W.grownBy W' v.ownBlock) (hne : E ≠ T) : Ob W' g cs T := by
  refine (hg.block g h.lt ?_).trans h
  rcases ho.2 with ⟨rfl, _⟩ | ⟨g', cap, cur, rfl, _, hgb, _⟩
  · simp [Value.ownBlock]
  · intro e
    obtain rfl : g = g' := by simpa [Value.ownBlock] using e
    have := (show W.heap[g]? = _ from h).symm.trans hgb
    simp at this
    exact hne this.2.symm
theorem Ob.blk (h : Ob W g cs T) : Blk W g cs.toList :=
  ⟨h.lt, fun j c hj => by rw [cell_of_row W g j cs T (0, 0) h]; simpa using hj, fun j => by simp [World.frozen?, show W.heap[g]? = _ from h]⟩
theorem Ob.row_ne {α : Type} {enc : α → List Value} {sz base : Nat} {E : TypeId} {v : Value} {l : List α} (h : Ob W g cs T) (ho : Own enc sz E base W v l) (hne : E ≠ T) : ∀ k, v.ownBlock = some k → k ≠ g := fun k hk e => by
  subst e
  rcases ho.2 with ⟨rfl, _⟩ | ⟨g', cap, cur, rfl, _, hgb, _⟩
  · simp [Value.ownBlock] at hk
  · have hk' : k = g' := own_blk hk
    rw [← hk'] at hgb
    have := (show W.heap[k]? = _ from h).symm.trans hgb
    simp at this
    exact hne this.2.symm
theorem Ob.far (h : Ob W g cs T) {p j : Nat} (hne : g ≠ p) (u : Value) : Ob (W.setCell ⟨p, j, none⟩ u) g cs T := by
  unfold Ob; rw [← show W.heap[g]? = _ from h]; simp [World.setCell, Array.getElem?_modify, Ne.symm hne]
theorem Ob.set (h : Ob W g cs T) (j : Nat) (u : Value) : Ob (W.setCell ⟨g, j, none⟩ u) g (cs.setIfInBounds j u) T := by
  obtain ⟨hlt, hk⟩ := Array.getElem?_eq_some_iff.1 h
  show (W.heap.modify g _)[g]? = _
  rw [Array.getElem?_eq_getElem (by rw [Array.size_modify]; exact hlt), Array.getElem_modify_self, hk]
  rfl
end
end Go.Proofs.Ytfdppebbpcjhjaa
