/-
  An own slice that is written in place.
-/
import Derived.Test.YtbengmgfddnkhaaObj
namespace Go.Proofs.Ytbengmgfddnkhaa
open Go.RowKit
section
variable {α : Type} {enc : α → List Value} {sz base : Nat} {E : TypeId} {w : World} {l : List α} {n c g : Nat}
theorem flat_set (hs : ∀ x, (enc x).length = sz) : ∀ (l : List α) (k : Nat) (x x' : α) (j : Nat) (u : Value), l[k]? = some x → j < sz → enc x' = (enc x).set j u → (l.set k x').flatMap enc = (l.flatMap enc).set (k * sz + j) u
  | [], k, x, x', j, u, h, _, _ => by simp at h
  | y :: l, 0, x, x', j, u, h, hj, he => by
    simp at h
    subst h
    rw [List.set_cons_zero, List.flatMap_cons, List.flatMap_cons, Nat.zero_mul, Nat.zero_add, List.set_append_left _ _ (by rw [hs]; exact hj), he]
  | y :: l, k + 1, x, x', j, u, h, hj, he => by
    have ih := flat_set hs l k x x' j u (by simpa using h) hj he
    rw [List.set_cons_succ, List.flatMap_cons, List.flatMap_cons, ih, List.set_append_right _ _ (by rw [hs, Nat.add_mul]; omega), hs]
    congr 2
    rw [Nat.add_mul]; omega
/-- the row's block, its cells, and that it may be written -/
theorem Own.row (h : Own enc sz E base w (.slice (some ⟨g, 0, none⟩) n c) l) : n = l.length ∧ base ≤ g ∧ ∃ cur, Ob w g cur E ∧ n ≤ c ∧ c ≤ maxLen ∧ cur.size = c * sz ∧ cur.toList.take (n * sz) = l.flatMap enc := by
  rcases h.2 with ⟨hv, _⟩ | ⟨g', cap, cur, hv, hb, hh, hn, hm, hcs, ht⟩
  · cases hv
  · injection hv with h1 h2 h3
    injection h1 with h1
    injection h1 with h1
    subst h1 h2 h3
    exact ⟨rfl, hb, cur, hh, hn, hm, hcs, ht⟩
theorem Own.free (h : Own enc sz E base w (.slice (some ⟨g, 0, none⟩) n c) l) (j : Nat) : w.frozen? ⟨g, j, none⟩ = false := by
  obtain ⟨_, _, cur, ho, _⟩ := h.row
  exact ho.blk.2.2 j
theorem Own.at_ (hs : ∀ x, (enc x).length = sz) (h : Own enc sz E base w (.slice (some ⟨g, 0, none⟩) n c) l) {k : Nat} {x : α} (hx : l[k]? = some x) {j : Nat} {u : Value} (hj : (enc x)[j]? = some u) : w.cell? ⟨g, k * sz + j, none⟩ = some u := by
  obtain ⟨b, o, hA, _, hc⟩ := (h.rd hs) (by have := (List.getElem?_eq_some_iff.1 hx).1; omega)
  injection hA with hA
  injection hA with h1 h2 _
  subst h1 h2
  have := hc k x hx j u hj
  rwa [Nat.zero_add] at this
/-- one cell of one element is written -/
theorem Own.put1 (hs : ∀ x, (enc x).length = sz) (h : Own enc sz E base w (.slice (some ⟨g, 0, none⟩) n c) l) {k : Nat} {x : α} (hx : l[k]? = some x) {j : Nat} (hj : j < sz) (x' : α) (u : Value) (he : enc x' = (enc x).set j u) :
    Own enc sz E base (w.setCell ⟨g, k * sz + j, none⟩ u) (.slice (some ⟨g, 0, none⟩) n c) (l.set k x') := by
  obtain ⟨hn, hb, cur, ho, hnc, hcm, hsz, ht⟩ := h.row
  have hk : k < l.length := (List.getElem?_eq_some_iff.1 hx).1
  have hf := flat_set hs l k x x' j u hx hj he
  refine ⟨?_, .inr ⟨g, c, _, by rw [List.length_set, ← hn], hb, ho.set (k * sz + j) u, by rw [List.length_set]; omega, hcm, by simpa using hsz, ?_⟩⟩
  · rw [flat_len hs]
  · rw [List.length_set, ← hn, hf, ← ht, Array.toList_setIfInBounds, List.take_set]
end
end Go.Proofs.Ytbengmgfddnkhaa
