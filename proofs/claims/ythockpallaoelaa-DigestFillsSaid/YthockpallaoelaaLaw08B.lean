/-
  SeenLives: the walk.
-/
import Derived.Test.YthockpallaoelaaLaw08A
namespace Go.Proofs.Ythockpallaoelaa
open Go.RowKit

theorem fits_right {r : Rw} {m : Int} (hr : r.ok) (h : rightRow r m = true) (x : Id) : fitsR (lim r x).p (lim r x).b := by
  unfold lim; split
  · exact fits_zero
  · obtain ⟨⟨h1, _⟩, ⟨h3, h4⟩, h5, h6⟩ := hr
    simp only [rightRow, decide_eq_true_iff] at h
    obtain ⟨_, ha, hb⟩ := h
    refine ⟨h5, h6, h3, h4, fun j hj => ?_⟩
    by_cases hi : r.i = 0
    · obtain ⟨hp, hb0⟩ := ha hi
      rw [hb0] at hj; simp [tb] at hj
    · rcases Nat.lt_or_ge j 64 with h64 | h64
      · have := (hb hi j h64 hj).2.2; omega
      · rw [tb_high h5 h6 h64] at hj; cases hj
theorem fits_nrm : ∀ (f : Nat) {p b : Int}, fitsR p b → fitsR (nrm f p b).1 (nrm f p b).2
  | 0, _, _, h => h
  | f + 1, p, b, h => by
    by_cases ho : b % 2 = 1
    · rw [nrm_one ho]; exact fits_nrm f (fits_step h ho).1
    · rw [nrm_end ho]; exact h
theorem may_room {r : Rw} {x : Id} {m : Int} (h : mayB r x m = true) : (lim r x).p < x.s ∧ x.s - (lim r x).p ≤ m ∧ m ≤ 64 := by
  simp only [mayB, decide_eq_true_iff] at h
  obtain ⟨⟨_, h2⟩, _, h3, _, h5, h6⟩ := h
  have : (lim r x).p < x.s := by
    rcases Int.lt_or_le (lim r x).p x.s with h | h
    · exact h
    · simp [seenB] at h5; have := h5 h3; omega
  omega
theorem take_fits {r : Rw} {x : Id} {m : Int} (hx : x.ok) (hm : mayB r x m = true) (hf : fitsR (lim r x).p (lim r x).b) : fitsR (takeR r x).p (takeR r x).b := by
  have hr := may_room hm
  have := hx.2.2.2
  exact fits_nrm 64 (fits_or hf (by omega) (by omega))
theorem take_ok {r : Rw} {x : Id} {m : Int} (hr : r.ok) (hx : x.ok) (hm : mayB r x m = true) (hf : fitsR (lim r x).p (lim r x).b) : (takeR r x).ok := by
  obtain ⟨h1, h2, h3, h4, _⟩ := take_fits hx hm hf
  exact ⟨(rw_okl hr hx).1, ⟨h3, h4⟩, h1, h2⟩
theorem lim_new {r : Rw} {x : Id} (h : r.i < x.i) : lim r x = ⟨x.i, 0, 0⟩ := by simp [lim, h]
theorem seen_none (i s : Int) (h : 0 < s) : seenB ⟨i, 0, 0⟩ s = false := by simp [seenB, tb]; omega
theorem may_new {r : Rw} {x : Id} {m : Int} (h : r.i < x.i) (h0 : 0 ≤ r.i) (hm : validB m = true) (h1 : 0 < x.s) (h2 : x.s ≤ m) : mayB r x m = true := by
  simp only [mayB, lim_new h, decide_eq_true_iff]
  exact ⟨by simpa [validB] using hm, by omega, by omega, by omega, seen_none _ _ h1, by simpa using h2⟩
theorem may_new_no {r : Rw} {x : Id} {m : Int} (h : r.i < x.i) (h2 : m < x.s) : mayB r x m = false := by
  simp only [mayB, lim_new h, decide_eq_false_iff_not]
  rintro ⟨_, _, _, _, _, h6⟩; simp at h6; omega
theorem take_new {r : Rw} {x : Id} (h : r.i < x.i) (h0 : 0 ≤ r.i) : takeR ⟨0, 0, 0⟩ x = takeR r x := by
  have h' : (0 : Int) < x.i := by omega
  unfold takeR
  rw [lim_new h, lim_new (r := ⟨0, 0, 0⟩) h']
theorem may_old {r : Rw} {x : Id} {m : Int} (h : x.i < r.i) : mayB r x m = false := by
  simp only [mayB, decide_eq_false_iff_not]; rintro ⟨_, _, _, h3, _⟩; omega
theorem may_zero' {r : Rw} {x : Id} {m : Int} (h : x.s = 0) : mayB r x m = false := by simp [mayB, h]
theorem has_other {r : Rw} {x : Id} (h : ¬x.i = r.i) : hasR r x = false := by simp [hasR, h]

end Go.Proofs.Ythockpallaoelaa
