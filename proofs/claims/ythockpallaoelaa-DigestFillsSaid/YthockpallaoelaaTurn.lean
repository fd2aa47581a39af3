/-
  What abides the turn of a block that is no cells.
-/
import Derived.Test.YthockpallaoelaaObj
import Derived.RangeFuncBox
namespace Go.Proofs.Ythockpallaoelaa
open Go.RowKit
section
variable {W W' : World} {g : Nat} {cs : Array Value} {T : TypeId}
/-- behind the turn of a block that is no cells -/
theorem Ob.turn {row : Option Nat} (h : Ob W g cs T) (hg : W.grownBy W' row) (hr : ∀ r, row = some r → ∃ o : Obj, W.heap[r]? = some o ∧ o.isCells = false) : Ob W' g cs T := by
  refine (hg.block g h.lt fun e => ?_).trans h
  obtain ⟨o, ho, hc⟩ := hr g e.symm
  rw [show W.heap[g]? = _ from h] at ho; cases ho; cases hc
theorem Own.turn {α : Type} {enc : α → List Value} {sz base : Nat} {E : TypeId} {v : Value} {l : List α} {row : Option Nat} (h : Own enc sz E base W v l) (hg : W.grownBy W' row) (hr : ∀ r, row = some r → ∃ o : Obj, W.heap[r]? = some o ∧ o.isCells = false) : Own enc sz E base W' v l := by
  refine h.keep hg ?_
  rcases h.2 with ⟨rfl, _⟩ | ⟨g', cap, cur, rfl, _, hgb, _⟩
  · exact .inl rfl
  · refine .inr fun e => ?_
    obtain ⟨o, ho, hc⟩ := hr g' e.symm
    rw [hgb] at ho; cases ho; cases hc
end
end Go.Proofs.Ythockpallaoelaa
