/-
  SeenWindow: the walk.
-/
import Derived.Test.YthockpallaoelaaAwake08
import Derived.Test.YthockpallaoelaaFrame
namespace Go.Proofs.Ythockpallaoelaa
open Go.RowKit

theorem lim_same (r : Rw) (n s : Int) : lim r ⟨n, r.i, s⟩ = r := by simp [lim]
theorem may_zero (r : Rw) (n i m : Int) : mayB r ⟨n, i, 0⟩ m = false := by simp [mayB]
theorem may_low {r : Rw} {n s m : Int} (h0 : s ≤ r.p) : mayB r ⟨n, r.i, s⟩ m = false := by
  simp only [mayB, lim_same, decide_eq_false_iff_not]; rintro ⟨_, _, h3, _, h5, _⟩
  simp [seenB] at h5; have := h5 h3; omega
theorem may_mid {r : Rw} {n s m : Int} (hi : ¬r.i = 0) (hi0 : 0 ≤ r.i) (h0 : r.p < s) (hs : 0 < s) (h1 : s - r.p ≤ m) (hm : validB m = true) : mayB r ⟨n, r.i, s⟩ m = !hasR r ⟨n, r.i, s⟩ := by
  rw [Bool.eq_iff_iff]
  simp [mayB, lim_same, hasR, validB] at *
  constructor
  · rintro ⟨_, _, _, h, _⟩; exact .inr h
  · rintro (h | h)
    · omega
    · exact ⟨hm, hi, by omega, h, by omega⟩
theorem may_far {r : Rw} {n s m : Int} (h1 : m < s - r.p) : mayB r ⟨n, r.i, s⟩ m = false := by
  simp only [mayB, lim_same, decide_eq_false_iff_not]; rintro ⟨_, _, _, _, _, h6⟩; omega
theorem may_inv {r : Rw} {x : Id} {m : Int} (h : m < 1 ∨ 64 < m) : mayB r x m = false := by
  simp only [mayB, decide_eq_false_iff_not]; rintro ⟨h1, _⟩; omega
theorem right_inv {r : Rw} {m : Int} (h : m < 1 ∨ 64 < m) : rightRow r m = false := by
  have hv : validB m = false := by simp [validB]; omega
  simp [rightRow, hv]
theorem has_zero (r : Rw) (n i : Int) : hasR r ⟨n, i, 0⟩ = false := by simp [hasR, seenB]
theorem has_low {r : Rw} {n s : Int} (hi : 0 < r.i) (h0 : 0 < s) (h1 : s ≤ r.p) : hasR r ⟨n, r.i, s⟩ = true := by
  simp [hasR, seenB, hi]; exact ⟨by omega, .inl h1⟩

end Go.Proofs.Ythockpallaoelaa
