/-
  ident.Drop, ident.Rising.
-/
import Derived.Test.YthockpallaoelaaIdPut
import Derived.RegionTactic
import Derived.Deep.RegionWith
namespace Go.Proofs.Ythockpallaoelaa
open Go.RowKit

def dropL (l : List Id) (x : Id) : List Id := l.filter fun y => decide (y ≠ x)
theorem dropL_len (l : List Id) (x : Id) : (dropL l x).length ≤ l.length := List.length_filter_le _ _
theorem take_snoc {α : Type} {l : List α} {k : Nat} {x : α} (h : l[k]? = some x) : l.take (k + 1) = l.take k ++ [x] := by
  rw [List.take_add_one, h]; rfl
theorem drop_hit {l : List Id} {k : Nat} {x : Id} (h : l[k]? = some x) : dropL (l.take (k + 1)) x = dropL (l.take k) x := by
  simp [dropL, take_snoc h, List.filter_append]
theorem drop_miss {l : List Id} {k : Nat} {x z : Id} (h : l[k]? = some z) (hne : z ≠ x) : dropL (l.take (k + 1)) x = dropL (l.take k) x ++ [z] := by
  simp [dropL, take_snoc h, List.filter_append, hne]

def risingB : List Id → Bool
  | x :: y :: l => lessB x y && risingB (y :: l)
  | _ => true
theorem rising_iff (l : List Id) : risingB l = true ↔ ∀ k x y, l[k]? = some x → l[k + 1]? = some y → lessB x y = true := by
  induction l with
  | nil => simp [risingB]
  | cons a l ih =>
    cases l with
    | nil => simp [risingB]
    | cons b l =>
      rw [risingB, Bool.and_eq_true, ih]
      constructor
      · rintro ⟨h1, h2⟩ k x y hx hy
        cases k with
        | zero => simp at hx hy; subst hx; subst hy; exact h1
        | succ k => exact h2 k x y (by simpa using hx) (by simpa using hy)
      · intro h
        exact ⟨h 0 a b rfl rfl, fun k x y hx hy => h (k + 1) x y (by simpa using hx) (by simpa using hy)⟩
theorem rising_no {l : List Id} {k : Nat} {x y : Id} (hx : l[k]? = some x) (hy : l[k + 1]? = some y) (h : lessB x y = false) : risingB l = false := by
  rw [← Bool.not_eq_true, rising_iff]
  intro hh
  rw [hh k x y hx hy] at h
  cases h
theorem rising_yes {l : List Id} (h : ∀ j x y, j + 1 < l.length → l[j]? = some x → l[j + 1]? = some y → lessB x y = true) : risingB l = true := by
  rw [rising_iff]
  intro k x y hx hy
  exact h k x y (List.getElem?_eq_some_iff.1 hy).1 hx hy
theorem rising_snoc {l : List Id} {k : Nat} {x y : Id} (h : ∀ j a b, j + 1 < k → l[j]? = some a → l[j + 1]? = some b → lessB a b = true) (h1 : 1 ≤ k) (hx : l[k - 1]? = some x) (hy : l[k]? = some y) (hl : lessB x y = true) :
    ∀ j a b, j + 1 < k + 1 → l[j]? = some a → l[j + 1]? = some b → lessB a b = true := by
  intro j a b hj ha hb
  rcases Nat.lt_succ_iff_lt_or_eq.1 hj with h1 | h1
  · exact h j a b h1 ha hb
  · obtain rfl : j = k - 1 := by omega
    rw [h1] at hb
    rw [ha] at hx; rw [hb] at hy; cases hx; cases hy; exact hl

end Go.Proofs.Ythockpallaoelaa
