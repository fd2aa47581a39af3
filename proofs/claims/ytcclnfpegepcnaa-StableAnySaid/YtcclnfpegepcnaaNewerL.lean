/-
  Newer: plain laws.
-/
import Derived.Test.YtcclnfpegepcnaaNewer
namespace Go.Proofs.Ytcclnfpegepcnaa
theorem newer_anti (a b : Id) : (newerB a b && newerB b a) = false := by
  unfold newerB
  rw [Bool.and_eq_false_iff, decide_eq_false_iff_not, decide_eq_false_iff_not]
  by_cases h : a.n = b.n ∧ (b.i < a.i ∨ a.i = b.i ∧ b.s < a.s)
  · exact .inr (by omega)
  · exact .inl h
theorem newer_same (a b : Id) (h : a.n = b.n) : (!newerB a b && !newerB b a) = decide (a = b) := by
  unfold newerB
  by_cases e : a = b
  · subst e; simp
  · rw [decide_eq_false e, Bool.and_eq_false_iff, Bool.not_eq_false', Bool.not_eq_false', decide_eq_true_iff, decide_eq_true_iff]
    have : ¬ (a.i = b.i ∧ a.s = b.s) := fun ⟨h1, h2⟩ => e (id_ext.2 ⟨h, h1, h2⟩)
    omega
theorem newer_trans (a b d : Id) (h1 : newerB a b = true) (h2 : newerB b d = true) : newerB a d = true := by
  unfold newerB at *
  rw [decide_eq_true_iff] at *
  omega
theorem newer_unlike (a c : Id) (h : ¬ c.n = a.n) : newerB a c = false ∧ newerB c a = false := by
  unfold newerB
  rw [decide_eq_false_iff_not, decide_eq_false_iff_not]
  omega
end Go.Proofs.Ytcclnfpegepcnaa
