/-
  Plain laws for StableOnce (19).
-/
import Derived.Test.YtcclnfpegepcnaaTold
namespace Go.Proofs.Ytcclnfpegepcnaa
open Go.RowKit
theorem passed_less {m x : Id} {s : Int} (h : passedB m x = true) (hs : s ≤ x.s) : passedB m ⟨x.n, x.i, s⟩ = true := by
  simp only [passedB, decide_eq_true_iff] at h ⊢
  omega
theorem passed_newer {o m x : Id} (h : passedB o x = true) (hn : newerB m o = true) : passedB m x = true := by
  simp only [passedB, newerB, decide_eq_true_iff] at h hn ⊢
  omega
theorem lag_less {k : Nat} {mb : Mb} {self : Int} {r : Rw} {t : List (List Id)} {x : Id} {s : Int} (h : lagB k mb self r t x = false) (hs : s ≤ x.s) : lagB k mb self r t ⟨x.n, x.i, s⟩ = false := by
  unfold lagB at h ⊢
  split
  · rfl
  · rename_i h1
    rw [if_neg h1] at h
    split
    · rename_i h2
      rw [if_pos h2] at h
      simp only [Bool.not_eq_false'] at h ⊢
      exact passed_less h hs
    · rename_i h2
      rw [if_neg h2] at h
      simp only [Bool.not_eq_false'] at h ⊢
      exact passed_less h hs
theorem repStep_pass {row : List Id} {m x : Id} {n : Nat} (h : passedB ((row[n]?).getD ⟨(n : Int), 0, 0⟩) x = true) : passedB (((repStep row m)[n]?).getD ⟨(n : Int), 0, 0⟩) x = true := by
  unfold repStep
  split
  · rename_i o ho
    split
    · rename_i hn
      by_cases hk : m.n.toNat = n
      · subst hk
        rw [List.getElem?_set_self (List.getElem?_eq_some_iff.1 ho).1]
        rw [ho] at h
        exact passed_newer h hn
      · rw [List.getElem?_set_ne hk]; exact h
    · exact h
  · exact h
theorem repRow_pass {marks : List Id} {x : Id} {n : Nat} : ∀ {row : List Id}, passedB ((row[n]?).getD ⟨(n : Int), 0, 0⟩) x = true → passedB (((repRow row marks)[n]?).getD ⟨(n : Int), 0, 0⟩) x = true := by
  unfold repRow
  induction marks with
  | nil => exact fun h => h
  | cons m t ih => exact fun h => ih (repStep_pass h)
theorem report_pass {t : List (List Id)} {m k n : Nat} {marks : List Id} {x : Id} (h : passedB (ofL t k n) x = true) : passedB (ofL (reportL t m marks) k n) x = true := by
  unfold reportL
  split
  · rename_i row hrow
    unfold ofL at h ⊢
    by_cases hk : m = k
    · subst hk
      rw [List.getElem?_set_self (List.getElem?_eq_some_iff.1 hrow).1]
      rw [hrow] at h
      exact repRow_pass h
    · rw [List.getElem?_set_ne hk]; exact h
  · exact h
theorem lag_report {k : Nat} {mb : Mb} {self : Int} {r : Rw} {t : List (List Id)} {x : Id} {m : Nat} {marks : List Id} (h : lagB k mb self r t x = false) : lagB k mb self r (reportL t m marks) x = false := by
  unfold lagB at h ⊢
  split
  · rfl
  · rename_i h1
    rw [if_neg h1] at h
    split
    · rename_i h2; rw [if_pos h2] at h; exact h
    · rename_i h2
      rw [if_neg h2] at h
      simp only [Bool.not_eq_false'] at h ⊢
      exact report_pass h
theorem stable_out {t : List (List Id)} {M : List Mb} {self : Int} {R : List Rw} {x : Id} (h : stableB t M self R x = true) : ∃ r, R[x.n.toNat]? = some r ∧ ∀ (j : Nat) (mb : Mb), M[j]? = some mb → lagB j mb self r t x = false := by
  unfold stableB at h
  split at h
  · cases h
  · rename_i r hr
    simp only [decide_eq_true_iff] at h
    exact ⟨r, hr, h⟩
theorem stable_less {t : List (List Id)} {M : List Mb} {self : Int} {R : List Rw} {x : Id} {s : Int} (h : stableB t M self R x = true) (hs : s ≤ x.s) : stableB t M self R ⟨x.n, x.i, s⟩ = true := by
  obtain ⟨r, hr, hl⟩ := stable_out h
  exact stable_yes (x := ⟨x.n, x.i, s⟩) hr (fun j mb hm => lag_less (hl j mb hm) hs)
theorem stable_report {t : List (List Id)} {M : List Mb} {self : Int} {R : List Rw} {x : Id} {m : Nat} {marks : List Id} (h : stableB t M self R x = true) : stableB (reportL t m marks) M self R x = true := by
  obtain ⟨r, hr, hl⟩ := stable_out h
  exact stable_yes hr (fun j mb hm => lag_report (hl j mb hm))
theorem stable_left {t : List (List Id)} {M : List Mb} {self : Int} {R : List Rw} {x : Id} {k : Nat} {mb : Mb} (h : stableB t M self R x = true) (hk : M[k]? = some mb) : stableB t (M.set k ⟨mb.i, 3, mb.q⟩) self R x = true := by
  obtain ⟨r, hr, hl⟩ := stable_out h
  refine stable_yes hr (fun j mb' hm => ?_)
  by_cases hj : k = j
  · subst hj
    rw [List.getElem?_set_self (List.getElem?_eq_some_iff.1 hk).1] at hm
    obtain rfl := Option.some.inj hm
    unfold lagB; rw [if_pos (Or.inr rfl)]
  · rw [List.getElem?_set_ne hj] at hm
    exact hl j mb' hm
/-- who counts has passed -/
theorem lag_passed {k : Nat} {mb : Mb} {self : Int} {r : Rw} {t : List (List Id)} {x : Id} (h : lagB k mb self r t x = false) (h1 : ¬mb.i = 0) (h2 : ¬mb.s = 3) :
    ((k : Int) = self → passedB ⟨x.n, r.i, r.p⟩ x = true) ∧ (¬(k : Int) = self → passedB (ofL t k x.n.toNat) x = true) := by
  unfold lagB at h
  rw [if_neg (by rintro (h | h); exact h1 h; exact h2 h)] at h
  constructor
  · intro he; rw [if_pos he] at h; simpa using h
  · intro he; rw [if_neg he] at h; simpa using h
theorem passed_tests {m x : Id} (h : passedB m x = true) : decide (m.i < x.i) = false ∧ (m.i = x.i → decide (m.s < x.s) = false) := by
  simp only [passedB, decide_eq_true_iff] at h
  refine ⟨by simp; omega, fun he => by simp; omega⟩
end Go.Proofs.Ytcclnfpegepcnaa
