/-
  Rows of seen numbers: what a row has seen, behind what was taken; a row is told by what it has seen.
-/
import Derived.Test.YtfdppebbpcjhjaaLaw08B
namespace Go.Proofs.Ytfdppebbpcjhjaa
open Go.RowKit

theorem seenB_eq {r : Rw} (hr : r.ok) (n : Int) : seenB r n = decide (n ≠ 0 ∧ (n ≤ r.p ∨ tb r.b ((n - r.p).toNat - 1) = true)) := by
  unfold seenB
  rw [decide_eq_decide]
  constructor
  · rintro ⟨h0, h | ⟨_, h⟩⟩
    · exact ⟨h0, .inl h⟩
    · exact ⟨h0, .inr h⟩
  · rintro ⟨h0, h | h⟩
    · exact ⟨h0, .inl h⟩
    · refine ⟨h0, ?_⟩
      by_cases h1 : n ≤ r.p
      · exact .inl h1
      · right
        refine ⟨?_, h⟩
        rcases (show n - r.p - 1 < 64 ∨ 64 ≤ n - r.p - 1 by omega) with h2 | h2
        · exact h2
        · rw [tb_high hr.2.2.1 hr.2.2.2 (j := (n - r.p).toNat - 1) (by omega)] at h; cases h
theorem nrm_seen (n : Int) (h0 : n ≠ 0) : ∀ (f : Nat) (p b : Int), 0 ≤ b → ((n ≤ (nrm f p b).1 ∨ tb (nrm f p b).2 ((n - (nrm f p b).1).toNat - 1) = true) ↔ (n ≤ p ∨ tb b ((n - p).toNat - 1) = true)) := by
  intro f
  induction f with
  | zero => intro p b _; simp [nrm]
  | succ f ih =>
    intro p b hb
    by_cases ho : b % 2 = 1
    · rw [nrm_one ho, ih (p + 1) (b / 2) (by omega)]
      rcases Int.lt_trichotomy n (p + 1) with h | h | h
      · constructor <;> (intro _; left; omega)
      · subst h
        constructor
        · intro _; right; rw [show (p + 1 - p).toNat - 1 = 0 by omega, tb_zero]; simpa using ho
        · intro _; left; omega
      · rw [tb_div hb, show (n - (p + 1)).toNat - 1 + 1 = (n - p).toNat - 1 by omega]
        constructor
        · rintro (h1 | h1)
          · omega
          · exact .inr h1
        · rintro (h1 | h1)
          · omega
          · exact .inr h1
    · rw [nrm_end ho]
theorem nrm_even : ∀ (f : Nat) (p b : Int), 0 ≤ b → b < 2 ^ f → (nrm f p b).2 % 2 = 0 := by
  intro f
  induction f with
  | zero => intro p b h1 h2; simp [nrm]; omega
  | succ f ih =>
    intro p b h1 h2
    by_cases ho : b % 2 = 1
    · rw [nrm_one ho]
      refine ih _ _ (by omega) ?_
      rw [Int.pow_succ] at h2
      omega
    · rw [nrm_end ho]; omega
theorem lim_ok_fit {r : Rw} {x : Id} (hr : r.ok) (hx : x.ok) : (lim r x).ok := rw_okl hr hx
theorem seen_take {r : Rw} {x : Id} {m : Int} (hr : r.ok) (hx : x.ok) (hm : mayB r x m = true) (hf : fitsR (lim r x).p (lim r x).b) (n : Int) (hn : 0 < n) :
    seenB (takeR r x) n = (seenB (lim r x) n || decide (n = x.s)) := by
  have hok := take_ok hr hx hm hf
  have hl := rw_okl hr hx
  obtain ⟨g1, g2, g3⟩ := may_room hm
  rw [seenB_eq hok, seenB_eq hl, Bool.eq_iff_iff, Bool.or_eq_true, decide_eq_true_iff, decide_eq_true_iff, decide_eq_true_iff]
  show (n ≠ 0 ∧ (n ≤ (nrm 64 (lim r x).p (orB (lim r x).b ((x.s - (lim r x).p).toNat - 1))).1 ∨ tb (nrm 64 (lim r x).p (orB (lim r x).b ((x.s - (lim r x).p).toNat - 1))).2 ((n - (nrm 64 (lim r x).p (orB (lim r x).b ((x.s - (lim r x).p).toNat - 1))).1).toNat - 1) = true)) ↔ _
  rw [nrm_seen n (by omega) 64 _ _ (orB_nonneg _ _), tb_or hf.1]
  rw [Bool.or_eq_true, decide_eq_true_iff]
  have hp := hl.2.1.1
  constructor
  · rintro ⟨_, h | h | h⟩
    · exact .inl ⟨by omega, .inl h⟩
    · exact .inl ⟨by omega, .inr h⟩
    · rcases (show (lim r x).p < n ∨ n ≤ (lim r x).p by omega) with h1 | h1
      · right; omega
      · exact .inl ⟨by omega, .inl h1⟩
  · rintro (⟨_, h | h⟩ | h)
    · exact ⟨by omega, .inl h⟩
    · exact ⟨by omega, .inr (.inl h)⟩
    · subst h; exact ⟨by omega, .inr (.inr rfl)⟩
theorem even_take {r : Rw} {x : Id} {m : Int} (hr : r.ok) (hx : x.ok) (hm : mayB r x m = true) : (takeR r x).b % 2 = 0 := by
  obtain ⟨g1, g2, g3⟩ := may_room hm
  have hl := rw_okl hr hx
  refine nrm_even 64 _ _ (orB_nonneg _ _) ?_
  have := orB_lt (j := (x.s - (lim r x).p).toNat - 1) hl.2.2.1 hl.2.2.2 (by omega)
  have e : (2 : Int) ^ 64 = 18446744073709551616 := by decide
  rw [e]; omega
/-- the number behind the prefix is not seen -/
theorem seen_next {r : Rw} (hr : r.ok) (he : r.b % 2 = 0) : seenB r (r.p + 1) = false := by
  rw [seenB_eq hr, decide_eq_false_iff_not]
  rintro ⟨_, h | h⟩
  · omega
  · rw [show (r.p + 1 - r.p).toNat - 1 = 0 by omega, tb_zero, decide_eq_true_iff] at h; omega
theorem seen_pre {r : Rw} {n : Int} (hn : 0 < n) (h : n ≤ r.p) : seenB r n = true := by simp [seenB]; omega
theorem tb_ext {a b : Int} (ha : 0 ≤ a) (hb : 0 ≤ b) (h : ∀ j, tb a j = tb b j) : a = b := by
  have : a.toNat = b.toNat := Nat.eq_of_testBit_eq fun j => by rw [← tb_nat ha, ← tb_nat hb, h j]
  omega
/-- a row is told by what it has seen -/
theorem row_told {r t : Rw} (hr : r.ok) (ht : t.ok) (er : r.b % 2 = 0) (et : t.b % 2 = 0) (h : ∀ n, 0 < n → seenB r n = seenB t n) : r.p = t.p ∧ r.b = t.b := by
  have hp0 := hr.2.1.1
  have hp1 := ht.2.1.1
  have hp : r.p = t.p := by
    rcases Int.lt_trichotomy r.p t.p with hlt | he | hlt
    · have h1 := h (r.p + 1) (by omega)
      rw [seen_next hr er, seen_pre (by omega) (by omega)] at h1; cases h1
    · exact he
    · have h1 := h (t.p + 1) (by omega)
      rw [seen_next ht et, seen_pre (by omega) (by omega)] at h1; cases h1
  refine ⟨hp, tb_ext hr.2.2.1 ht.2.2.1 fun j => ?_⟩
  have h1 := h (r.p + 1 + j) (by omega)
  rw [seenB_eq hr, seenB_eq ht, decide_eq_decide] at h1
  rw [← hp] at h1
  rw [show (r.p + 1 + (j : Int) - r.p).toNat - 1 = j by omega] at h1
  rw [Bool.eq_iff_iff]
  constructor
  · intro h2
    rcases (h1.1 ⟨by omega, .inr h2⟩).2 with h3 | h3
    · omega
    · exact h3
  · intro h2
    rcases (h1.2 ⟨by omega, .inr h2⟩).2 with h3 | h3
    · omega
    · exact h3
/-- the row behind the numbers of pre, all of one incarnation -/
structure Good (inc : Int) (pre : List Int) (r : Rw) : Prop where
  ok : r.ok
  fit : fitsR r.p r.b
  even : r.b % 2 = 0
  emp : pre = [] → r = ⟨0, 0, 0⟩
  inc : pre ≠ [] → r.i = inc
  seen : ∀ n, 0 < n → seenB r n = decide (n ∈ pre)
theorem good_nil (inc : Int) : Good inc [] ⟨0, 0, 0⟩ :=
  ⟨by simp [Rw.ok], (show fitsR 0 0 from ⟨by omega, by omega, by omega, by omega, fun j hj => by simp [tb] at hj⟩), rfl, fun _ => rfl, fun h => absurd rfl h, fun n hn => by rw [seen_none 0 n hn]; simp⟩
theorem good_lim {inc : Int} {pre : List Int} {r : Rw} (h : Good inc pre r) (hi : 0 < inc) (n : Int) : lim r ⟨0, inc, n⟩ = ⟨inc, r.p, r.b⟩ := by
  by_cases hp : pre = []
  · rw [h.emp hp]; simp [lim, hi]
  · have := h.inc hp
    simp only [lim, this, Int.lt_irrefl, if_false]
    cases r; simp_all
theorem good_step {inc : Int} {pre : List Int} {r : Rw} {n w : Int} (h : Good inc pre r) (hi : 0 < inc) (hi2 : inc ≤ 65535) (hn : 1 ≤ n) (hnw : n ≤ w) (hw : 1 ≤ w) (hw2 : w ≤ 64) (hnew : n ∉ pre) :
    mayB r ⟨0, inc, n⟩ w = true ∧ Good inc (pre ++ [n]) (takeR r ⟨0, inc, n⟩) := by
  have hl := good_lim h hi n
  have hx : (⟨0, inc, n⟩ : Id).ok := by simp [Id.ok]; omega
  have hs : ∀ k, seenB ⟨inc, r.p, r.b⟩ k = seenB r k := fun k => rfl
  have hri : r.i ≤ inc := by
    by_cases hp : pre = []
    · rw [h.emp hp]; exact Int.le_of_lt hi
    · rw [h.inc hp]; exact Int.le_refl _
  have hm : mayB r ⟨0, inc, n⟩ w = true := by
    unfold mayB
    rw [hl, decide_eq_true_iff]
    refine ⟨⟨hw, hw2⟩, by show inc ≠ 0; omega, by show n ≠ 0; omega, hri, ?_, ?_⟩
    · rw [hs, h.seen n (by omega)]; simpa using hnew
    · have := h.ok.2.1.1
      show n ≤ r.p + w; omega
  have hf : fitsR (lim r ⟨0, inc, n⟩).p (lim r ⟨0, inc, n⟩).b := by rw [hl]; exact h.fit
  refine ⟨hm, take_ok h.ok hx hm hf, take_fits hx hm hf, even_take h.ok hx hm, fun e => by simp at e, fun _ => ?_, fun k hk => ?_⟩
  · show (lim r ⟨0, inc, n⟩).i = inc; rw [hl]
  · rw [seen_take h.ok hx hm hf k hk, hl, hs, h.seen k hk, Bool.eq_iff_iff]; simp
theorem good_told {inc : Int} {a b : List Int} {r t : Rw} (hr : Good inc a r) (ht : Good inc b t) (h : ∀ n, n ∈ a ↔ n ∈ b) : r = t := by
  obtain ⟨h1, h2⟩ := row_told hr.ok ht.ok hr.even ht.even (fun n hn => by rw [hr.seen n hn, ht.seen n hn, decide_eq_decide]; exact h n)
  have hi : r.i = t.i := by
    by_cases ha : a = []
    · have hb : b = [] := by
        cases b with
        | nil => rfl
        | cons y b => exact absurd ((h y).2 (by simp)) (by simp [ha])
      rw [hr.emp ha, ht.emp hb]
    · have hb : b ≠ [] := by
        cases a with
        | nil => exact absurd rfl ha
        | cons y a => intro e; exact absurd ((h y).1 (by simp)) (by simp [e])
      rw [hr.inc ha, ht.inc hb]
  exact rw_ext.2 ⟨hi, h1, h2⟩
theorem nodup_room : ∀ (w : Nat) (l : List Int), l.Nodup → (∀ n ∈ l, 1 ≤ n ∧ n ≤ w) → l.length ≤ w ∧ (l.length = w → ∀ n : Int, 1 ≤ n → n ≤ w → n ∈ l) := by
  intro w
  induction w with
  | zero =>
    intro l _ h
    cases l with
    | nil => exact ⟨by simp, fun _ n h1 h2 => by omega⟩
    | cons x l => have := h x (by simp); omega
  | succ w ih =>
    intro l hd h
    by_cases hm : ((w + 1 : Nat) : Int) ∈ l
    · have hl := List.length_erase_of_mem hm
      have hpos : 0 < l.length := List.length_pos_of_mem hm
      obtain ⟨h1, h2⟩ := ih (l.erase ((w + 1 : Nat) : Int)) (hd.erase _) (fun n hn => by
        have hn' := (hd.mem_erase_iff).1 hn
        have := h n hn'.2
        omega)
      refine ⟨by omega, fun e n hn1 hn2 => ?_⟩
      by_cases hnw : n = ((w + 1 : Nat) : Int)
      · rw [hnw]; exact hm
      · exact List.mem_of_mem_erase (h2 (by omega) n hn1 (by omega))
    · obtain ⟨h1, h2⟩ := ih l hd (fun n hn => by
        have := h n hn
        have hne : n ≠ ((w + 1 : Nat) : Int) := fun e => hm (e ▸ hn)
        omega)
      exact ⟨by omega, fun e => by omega⟩
theorem good_full {inc : Int} {l : List Int} {r : Rw} {w : Nat} (hg : Good inc l r) (hd : l.Nodup) (hl : ∀ n ∈ l, 1 ≤ n ∧ n ≤ w) (he : l.length = w) : r.p = w ∧ r.b = 0 := by
  have hall := (nodup_room w l hd hl).2 he
  have hp0 := hg.ok.2.1.1
  have hp : r.p = w := by
    rcases Int.lt_trichotomy r.p w with h | h | h
    · have h1 := seen_next hg.ok hg.even
      rw [hg.seen _ (by omega), decide_eq_false_iff_not] at h1
      exact absurd (hall _ (by omega) (by omega)) h1
    · exact h
    · have h1 := seen_pre (r := r) (n := r.p) (by omega) (Int.le_refl _)
      rw [hg.seen _ (by omega), decide_eq_true_iff] at h1
      have := hl _ h1; omega
  refine ⟨hp, tb_ext hg.ok.2.2.1 (Int.le_refl _) fun j => ?_⟩
  have h0 : tb 0 j = false := by simp [tb]
  rw [h0]
  rcases h : tb r.b j with _ | _
  · rfl
  · have h1 : seenB r (r.p + 1 + j) = true := by
      rw [seenB_eq hg.ok, decide_eq_true_iff, show (r.p + 1 + (j : Int) - r.p).toNat - 1 = j by omega]
      exact ⟨by omega, .inr h⟩
    rw [hg.seen _ (by omega), decide_eq_true_iff] at h1
    have := hl _ h1; omega
def rowOf (inc : Int) (l : List Int) : Rw := l.foldl (fun r n => takeR r ⟨0, inc, n⟩) ⟨0, 0, 0⟩
theorem rowOf_snoc (inc : Int) (l : List Int) (n : Int) : rowOf inc (l ++ [n]) = takeR (rowOf inc l) ⟨0, inc, n⟩ := by simp [rowOf]
/-- of numbers within the window, each once: the row of each part -/
theorem good_row {inc w : Int} (hi : 0 < inc) (hi2 : inc ≤ 65535) (hw : 1 ≤ w) (hw2 : w ≤ 64) (l : List Int) (hd : l.Nodup) (hl : ∀ n ∈ l, 1 ≤ n ∧ n ≤ w) (k : Nat) : Good inc (l.take k) (rowOf inc (l.take k)) := by
  induction k with
  | zero => exact good_nil inc
  | succ k ih =>
    rcases Nat.lt_or_ge k l.length with hk | hk
    · rw [List.take_succ_eq_append_getElem hk, rowOf_snoc]
      have hx := hl l[k] (List.getElem_mem hk)
      refine (good_step ih hi hi2 hx.1 hx.2 hw hw2 ?_).2
      intro hm
      obtain ⟨j, hj, e⟩ := List.mem_take_iff_getElem.1 hm
      have := (List.getElem_inj (h₀ := by omega) (h₁ := hk) hd).1 e
      omega
    · rw [List.take_of_length_le (by omega)]
      rw [List.take_of_length_le hk] at ih
      exact ih
theorem good_may {inc w : Int} (hi : 0 < inc) (hi2 : inc ≤ 65535) (hw : 1 ≤ w) (hw2 : w ≤ 64) (l : List Int) (hd : l.Nodup) (hl : ∀ n ∈ l, 1 ≤ n ∧ n ≤ w) {k : Nat} {x : Int} (hx : l[k]? = some x) : mayB (rowOf inc (l.take k)) ⟨0, inc, x⟩ w = true := by
  obtain ⟨hk, e⟩ := List.getElem?_eq_some_iff.1 hx
  subst e
  have hx' := hl l[k] (List.getElem_mem hk)
  refine (good_step (good_row hi hi2 hw hw2 l hd hl k) hi hi2 hx'.1 hx'.2 hw hw2 ?_).1
  intro hm
  obtain ⟨j, hj, e⟩ := List.mem_take_iff_getElem.1 hm
  have := (List.getElem_inj (h₀ := by omega) (h₁ := hk) hd).1 e
  omega
end Go.Proofs.Ytfdppebbpcjhjaa
