/-
  grapevinelaw07.Same: two lists of ids are compared place by place.
-/
import Derived.Test.YtcclnfpegepcnaaIds
import Derived.Deep.QuietTactic
import Derived.BigQuiet
namespace Go.Proofs.Ytcclnfpegepcnaa
open Go.RowKit

theorem eq_of_all {α : Type} {a b : List α} (hl : a.length = b.length) (h : ∀ j, j < a.length → a[j]? = b[j]?) : a = b := by
  apply List.ext_getElem? 
  intro j
  by_cases hj : j < a.length
  · exact h j hj
  · rw [List.getElem?_eq_none (by omega), List.getElem?_eq_none (by omega)]
theorem all_snoc {α : Type} {a b : List α} {k : Nat} {x : α} (h : ∀ j, j < k → a[j]? = b[j]?) (ha : a[k]? = some x) (hb : b[k]? = some x) : ∀ j, j < k + 1 → a[j]? = b[j]? := by
  intro j hj
  rcases Nat.lt_succ_iff_lt_or_eq.1 hj with h1 | rfl
  · exact h j h1
  · rw [ha, hb]

end Go.Proofs.Ytcclnfpegepcnaa
