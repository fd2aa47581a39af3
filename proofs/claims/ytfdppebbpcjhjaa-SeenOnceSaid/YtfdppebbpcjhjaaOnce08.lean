/-
  SeenOnce: what is known of a row and of what was taken, behind each id: plain (08).
-/
import Derived.Test.YtfdppebbpcjhjaaSeenSets
namespace Go.Proofs.Ytfdppebbpcjhjaa
open Go.RowKit
theorem nrm_up : ∀ (f : Nat) (p b : Int), p ≤ (nrm f p b).1
  | 0, p, b => by simp [nrm]
  | f + 1, p, b => by
    by_cases ho : b % 2 = 1
    · rw [nrm_one ho]; have := nrm_up f (p + 1) (b / 2); omega
    · rw [nrm_end ho]; exact Int.le_refl _
/-- each bit of the row moved on was one ahead -/
theorem nrm_bit : ∀ (f : Nat) (p b : Int), 0 ≤ b → ∀ j, tb (nrm f p b).2 j = true → ∃ k, j ≤ k ∧ tb b k = true
  | 0, p, b, _, j, h => ⟨j, Nat.le_refl _, h⟩
  | f + 1, p, b, hb, j, h => by
    by_cases ho : b % 2 = 1
    · rw [nrm_one ho] at h
      obtain ⟨k, hk, ht⟩ := nrm_bit f (p + 1) (b / 2) (by omega) j h
      rw [tb_div hb] at ht
      exact ⟨k + 1, by omega, ht⟩
    · rw [nrm_end ho] at h
      exact ⟨j, Nat.le_refl _, h⟩
structure OnceS (m : Int) (r : Rw) (acc : List Id) : Prop where
  ok : r.ok
  right : rightRow r m = true
  mem : ∀ y ∈ acc, y.n = 0 ∧ 1 ≤ y.i ∧ y.i ≤ r.i ∧ 1 ≤ y.s ∧ y.s ≤ 4294967295
  seen : ¬r.i = 0 → ∀ n, 0 < n → seenB r n = decide ((⟨0, r.i, n⟩ : Id) ∈ acc)
section
variable {m : Int} {r : Rw} {acc : List Id} {x : Id}
theorem OnceS.even (h : OnceS m r acc) : r.b % 2 = 0 := by
  have hr := h.right
  simp only [rightRow, decide_eq_true_iff] at hr
  obtain ⟨_, ha, hb⟩ := hr
  by_cases hi : r.i = 0
  · rw [(ha hi).2]; rfl
  · have h0 := hb hi 0 (by omega)
    rw [tb_zero, decide_eq_true_iff] at h0
    have := h.ok.2.2
    by_cases h1 : r.b % 2 = 1
    · exact absurd rfl (h0 h1).1
    · omega
theorem OnceS.none (h : OnceS m r acc) (hi : r.i = 0) : acc = [] ∧ r.p = 0 := by
  have hr := h.right
  simp only [rightRow, decide_eq_true_iff] at hr
  refine ⟨?_, (hr.2.1 hi).1⟩
  cases acc with
  | nil => rfl
  | cons y t => have := h.mem y (by simp); omega
theorem once_nil (h1 : 1 ≤ m) (h2 : m ≤ 64) : OnceS m ⟨0, 0, 0⟩ [] :=
  ⟨by simp [Rw.ok], by simp [rightRow, validB, h1, h2], (fun y hy => by cases hy), fun h => absurd rfl h⟩
theorem OnceS.new (h : OnceS m r acc) (hn : x.n = 0) (hm : mayB r x m = true) : x ∉ acc := fun hx => by
  have hy := h.mem x hx
  simp only [mayB, decide_eq_true_iff] at hm
  obtain ⟨_, h1, h2, h3, h4, _⟩ := hm
  have he : x.i = r.i := by omega
  have hl : lim r x = r := by simp [lim, he]
  rw [hl, h.seen (by omega) x.s (by omega), decide_eq_false_iff_not] at h4
  apply h4
  have : x = ⟨0, r.i, x.s⟩ := by cases x; simp_all
  rw [← this]; exact hx
theorem OnceS.take (h : OnceS m r acc) (hx : x.ok) (hn : x.n = 0) (hm : mayB r x m = true) : OnceS m (takeR r x) (acc ++ [x]) := by
  have hf := fits_right h.ok h.right x
  have hok := take_ok h.ok hx hm hf
  have hm' := hm
  simp only [mayB, decide_eq_true_iff] at hm'
  obtain ⟨⟨w1, w2⟩, h1, h2, h3, h4, h5⟩ := hm'
  obtain ⟨⟨_, _⟩, ⟨x1, x2⟩, x3, x4⟩ := id hx
  have hli : (lim r x).i = x.i := by unfold lim; split <;> first | rfl | omega
  have hti : (takeR r x).i = x.i := hli
  have hlr : ∀ j, j < 64 → tb (lim r x).b j = true → (j : Int) < m := by
    intro j hj hb
    unfold lim at hb
    split at hb
    · simp [tb] at hb
    · have hr := h.right
      simp only [rightRow, decide_eq_true_iff] at hr
      have := h.ok.1
      exact (hr.2.2 (by omega) j hj hb).2.1
  have hlok := rw_okl h.ok hx
  refine ⟨hok, ?_, ?_, ?_⟩
  · simp only [rightRow, decide_eq_true_iff]
    refine ⟨by simp [validB, w1, w2], fun e => absurd e (by rw [hti]; exact h1), fun _ j hj hb => ⟨?_, ?_, ?_⟩⟩
    · rintro rfl
      rw [tb_zero, decide_eq_true_iff] at hb
      have := even_take h.ok hx hm
      omega
    · obtain ⟨k, hk, hbk⟩ := nrm_bit 64 _ _ (orB_nonneg _ _) j hb
      rw [tb_or hlok.2.2.1, Bool.or_eq_true, decide_eq_true_iff] at hbk
      rcases hbk with hbk | rfl
      · have hk64 : k < 64 := by
          rcases Nat.lt_or_ge k 64 with h64 | h64
          · exact h64
          · rw [tb_high hlok.2.2.1 hlok.2.2.2 h64] at hbk; cases hbk
        have := hlr k hk64 hbk
        omega
      · have := may_room hm
        omega
    · exact (by have := (take_fits hx hm hf).2.2.2.2 j hb; omega)
  · intro y hy
    rw [hti]
    rcases List.mem_append.1 hy with hy | hy
    · obtain ⟨a, b, c, d, e⟩ := h.mem y hy
      exact ⟨a, b, by omega, d, e⟩
    · obtain rfl : y = x := by simpa using hy
      exact ⟨hn, by omega, by omega, by omega, x4⟩
  · intro _ n hnp
    rw [seen_take h.ok hx hm hf n hnp, hti, Bool.eq_iff_iff, Bool.or_eq_true, decide_eq_true_iff, decide_eq_true_iff, List.mem_append, List.mem_singleton]
    have e1 : n = x.s ↔ (⟨0, x.i, n⟩ : Id) = x := by
      constructor
      · rintro rfl; cases x; simp_all
      · intro e; rw [← e]
    rw [e1]
    have e2 : seenB (lim r x) n = true ↔ (⟨0, x.i, n⟩ : Id) ∈ acc := by
      by_cases hlt : r.i < x.i
      · rw [lim_new hlt, seen_none _ _ hnp]
        constructor
        · intro h; cases h
        · intro hy; have := h.mem _ hy; simp at this; omega
      · have he : r.i = x.i := by omega
        have hl : lim r x = r := by simp [lim, he]
        rw [hl, h.seen (by omega) n hnp, decide_eq_true_iff, he]
    rw [e2]
theorem OnceS.got (h : OnceS m r acc) (hx : x.ok) (hm : mayB r x m = true) : hasR (takeR r x) x = true ∧ mayB (takeR r x) x m = false ∧ (takeR r x).i = x.i ∧ r.i ≤ x.i := by
  have hf := fits_right h.ok h.right x
  have hm' := hm
  simp only [mayB, decide_eq_true_iff] at hm'
  obtain ⟨⟨w1, w2⟩, h1, h2, h3, h4, h5⟩ := hm'
  obtain ⟨⟨_, _⟩, ⟨x1, x2⟩, x3, x4⟩ := id hx
  have hli : (lim r x).i = x.i := by unfold lim; split <;> first | rfl | omega
  have hti : (takeR r x).i = x.i := hli
  have hs : seenB (takeR r x) x.s = true := by
    rw [seen_take h.ok hx hm hf x.s (by omega)]; simp
  have hl : lim (takeR r x) x = takeR r x := by simp [lim, hti]
  refine ⟨by simp only [hasR, decide_eq_true_iff]; exact ⟨by omega, hti.symm, hs⟩, ?_, hti, h3⟩
  simp only [mayB, decide_eq_false_iff_not, hl, hs]
  rintro ⟨_, _, _, _, h6, _⟩
  cases h6
/-- the count of numbers taken from 1 on stops at the prefix -/
theorem OnceS.count (h : OnceS m r acc) {n : Int} (h0 : 0 ≤ n) (hn : n ≤ r.p) : decide ((⟨0, r.i, (n + 1) % 4294967296⟩ : Id) ∈ acc) = decide (n < r.p) := by
  have hp := h.ok.2.1
  by_cases hi : r.i = 0
  · obtain ⟨ha, hp0⟩ := h.none hi
    rw [ha, hp0]
    simp; omega
  by_cases hlt : n < r.p
  · rw [show (n + 1) % 4294967296 = n + 1 by omega, ← h.seen hi (n + 1) (by omega), seen_pre (by omega) (by omega)]
    simp [hlt]
  · have he : n = r.p := by omega
    subst he
    by_cases hm : r.p = 4294967295
    · rw [hm]
      have hno : ¬((⟨0, r.i, (4294967295 + 1) % 4294967296⟩ : Id) ∈ acc) := fun hy => by
        have := (h.mem _ hy).2.2.2.1
        simp at this
      rw [decide_eq_false hno]
      simp
    · rw [show (r.p + 1) % 4294967296 = r.p + 1 by omega, ← h.seen hi (r.p + 1) (by omega), seen_next h.ok h.even]
      simp
/-- at the end -/
theorem OnceS.last (h : OnceS m r acc) (hx : x ∈ acc) : hasR r x = decide (x.i = r.i) ∧ mayB r x m = false := by
  obtain ⟨hn, h1, h2, h3, h4⟩ := h.mem x hx
  have hs : x.i = r.i → seenB r x.s = true := fun e => by
    rw [h.seen (by omega) x.s (by omega), decide_eq_true_iff]
    have : x = ⟨0, r.i, x.s⟩ := by cases x; simp_all
    rw [← this]; exact hx
  refine ⟨?_, ?_⟩
  · simp only [hasR, decide_eq_decide]
    constructor
    · exact fun h => h.2.1
    · exact fun e => ⟨by omega, e, hs e⟩
  · simp only [mayB, decide_eq_false_iff_not]
    rintro ⟨_, _, _, h5, h6, _⟩
    have e : x.i = r.i := by omega
    have hl : lim r x = r := by simp [lim, e]
    rw [hl, hs e] at h6
    cases h6
theorem OnceS.id_ok (h : OnceS m r acc) : ∀ y ∈ acc, y.ok := fun y hy => by
  obtain ⟨a, b, c, d, e⟩ := h.mem y hy
  have := h.ok.1
  exact ⟨by omega, by omega, by omega⟩
end
end Go.Proofs.Ytfdppebbpcjhjaa
