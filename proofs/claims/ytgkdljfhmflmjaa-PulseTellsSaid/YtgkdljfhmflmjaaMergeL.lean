/-
  Merging of members: plain laws (14).
-/
import Derived.Test.YtgkdljfhmflmjaaTab
namespace Go.Proofs.Ytgkdljfhmflmjaa
def goodM (x : Mb) : Prop := x.ok ∧ (x.i = 0 → x.s = 0 ∧ x.q = 0) ∧ (¬ x.i = 0 → 1 ≤ x.s ∧ x.s ≤ 3)
def isame (p q : Mb) : Prop := p.i = q.i ∧ p.s = q.s
def mrg (x y : Mb) : Mb := if newerM y x = true then ⟨y.i, y.s, 0⟩ else x
theorem newer_iff (x y : Mb) : newerM x y = true ↔ y.i < x.i ∨ (x.i = y.i ∧ 0 < x.i ∧ y.s < x.s) := by unfold newerM; rw [decide_eq_true_iff]
theorem newer_false (x y : Mb) : newerM x y = false ↔ ¬ (y.i < x.i ∨ (x.i = y.i ∧ 0 < x.i ∧ y.s < x.s)) := by unfold newerM; rw [decide_eq_false_iff_not]
theorem mrg_yes {x y : Mb} (h : y.i > x.i ∨ (y.i = x.i ∧ 0 < y.i ∧ x.s < y.s)) : mrg x y = ⟨y.i, y.s, 0⟩ := by unfold mrg; rw [if_pos ((newer_iff y x).2 h)]
theorem mrg_no {x y : Mb} (h : ¬ (y.i > x.i ∨ (y.i = x.i ∧ 0 < y.i ∧ x.s < y.s))) : mrg x y = x := by unfold mrg; rw [if_neg (fun e => h ((newer_iff y x).1 e))]
/-- the greater by incarnation, then by state -/
theorem mrg_max {x y : Mb} (gx : goodM x) (gy : goodM y) : ((mrg x y).i = x.i ∧ (mrg x y).s = x.s ∨ (mrg x y).i = y.i ∧ (mrg x y).s = y.s) ∧ (x.i < (mrg x y).i ∨ x.i = (mrg x y).i ∧ x.s ≤ (mrg x y).s) ∧ (y.i < (mrg x y).i ∨ y.i = (mrg x y).i ∧ y.s ≤ (mrg x y).s) := by
  obtain ⟨⟨⟨a1, a2⟩, ⟨a3, a4⟩, _⟩, a5, a6⟩ := gx
  obtain ⟨⟨⟨b1, b2⟩, ⟨b3, b4⟩, _⟩, b5, b6⟩ := gy
  by_cases h : y.i > x.i ∨ (y.i = x.i ∧ 0 < y.i ∧ x.s < y.s)
  · rw [mrg_yes h]
    exact ⟨.inr ⟨rfl, rfl⟩, by show x.i < y.i ∨ x.i = y.i ∧ x.s ≤ y.s; omega, .inr ⟨rfl, Int.le_refl _⟩⟩
  · rw [mrg_no h]
    refine ⟨.inl ⟨rfl, rfl⟩, .inr ⟨rfl, Int.le_refl _⟩, ?_⟩
    by_cases h0 : y.i = x.i
    · by_cases hz : x.i = 0
      · have := (a5 hz).1
        have := (b5 (by omega)).1
        omega
      · omega
    · omega
theorem mrg_good {x y : Mb} (gx : goodM x) (gy : goodM y) : goodM (mrg x y) := by
  by_cases h : y.i > x.i ∨ (y.i = x.i ∧ 0 < y.i ∧ x.s < y.s)
  · rw [mrg_yes h]
    exact ⟨⟨gy.1.1, gy.1.2.1, by simp⟩, fun h0 => ⟨(gy.2.1 h0).1, rfl⟩, gy.2.2⟩
  · rw [mrg_no h]; exact gx
theorem mrg_comm {x y : Mb} (gx : goodM x) (gy : goodM y) : isame (mrg x y) (mrg y x) := by
  obtain ⟨h1, h2, h3⟩ := mrg_max gx gy
  obtain ⟨k1, k2, k3⟩ := mrg_max gy gx
  unfold isame
  omega
theorem mrg_assoc {x y z : Mb} (gx : goodM x) (gy : goodM y) (gz : goodM z) : isame (mrg (mrg x y) z) (mrg x (mrg y z)) := by
  obtain ⟨h1, h2, h3⟩ := mrg_max gx gy
  obtain ⟨k1, k2, k3⟩ := mrg_max (mrg_good gx gy) gz
  obtain ⟨l1, l2, l3⟩ := mrg_max gy gz
  obtain ⟨m1, m2, m3⟩ := mrg_max gx (mrg_good gy gz)
  unfold isame
  omega
theorem newer_mx {x y : Mb} (gx : goodM x) (gy : goodM y) : newerM x (mrg x y) = false := by
  obtain ⟨h1, h2, h3⟩ := mrg_max gx gy
  rw [newer_false]; omega
theorem newer_my {x y : Mb} (gx : goodM x) (gy : goodM y) : newerM y (mrg x y) = false := by
  obtain ⟨h1, h2, h3⟩ := mrg_max gx gy
  rw [newer_false]; omega
theorem mrg_self (x : Mb) : mrg x x = x := mrg_no (by omega)
theorem mrg_again {x y : Mb} (gx : goodM x) (gy : goodM y) : mrg (mrg x y) y = mrg x y := by
  unfold mrg
  rw [if_neg]
  intro h
  have := newer_my gx gy
  unfold mrg at this
  rw [h] at this
  cases this
theorem mrg_either (x y : Mb) : newerM (mrg x y) x = true ∨ mrg x y = x := by
  by_cases h : y.i > x.i ∨ (y.i = x.i ∧ 0 < y.i ∧ x.s < y.s)
  · rw [mrg_yes h]; left; rw [newer_iff]; exact h
  · exact .inr (mrg_no h)
/-! tables of one length below 255 -/
def Good (l : List Mb) : Prop := ∀ x ∈ l, goodM x
theorem merge_get {l o : List Mb} (h : l.length = o.length) (h2 : l.length ≤ 200) {j : Nat} {x y : Mb} (hx : l[j]? = some x) (hy : o[j]? = some y) : (mergeL l o 255)[j]? = some (mrg x y) := by
  have hj : j < l.length := (List.getElem?_eq_some_iff.1 hx).1
  rw [merge_at hx]
  unfold mrg1 mrg
  rw [hy]
  have hn : ((j : Int) ≠ 255) := by omega
  simp only [hn]
  by_cases hq : newerM y x = true
  · rw [if_pos ⟨by simpa using hn, hq⟩, if_pos hq]
  · rw [if_neg (fun e => hq e.2), if_neg hq]
theorem pair_get {l o : List Mb} (h : l.length = o.length) {j : Nat} (hj : j < l.length) : ∃ x y, l[j]? = some x ∧ o[j]? = some y := ⟨_, _, List.getElem?_eq_getElem hj, List.getElem?_eq_getElem (by omega)⟩
theorem merge_good {l o : List Mb} (h : l.length = o.length) (h2 : l.length ≤ 200) (gl : Good l) (go : Good o) : Good (mergeL l o 255) := fun z hz => by
  obtain ⟨j, hj⟩ := List.getElem?_of_mem hz
  have hjl : j < l.length := by have := (List.getElem?_eq_some_iff.1 hj).1; rwa [merge_len] at this
  obtain ⟨x, y, hx, hy⟩ := pair_get h hjl
  rw [merge_get h h2 hx hy] at hj
  cases hj
  exact mrg_good (gl x (List.mem_of_getElem? hx)) (go y (List.mem_of_getElem? hy))
def sameL (p q : List Mb) : Prop := p.length = q.length ∧ ∀ (j : Nat) (x y : Mb), p[j]? = some x → q[j]? = some y → isame x y
theorem merge_comm {l o : List Mb} (h : l.length = o.length) (h2 : l.length ≤ 200) (gl : Good l) (go : Good o) : sameL (mergeL l o 255) (mergeL o l 255) := by
  refine ⟨by rw [merge_len, merge_len, h], fun j a b ha hb => ?_⟩
  have hjl : j < l.length := by have := (List.getElem?_eq_some_iff.1 ha).1; rwa [merge_len] at this
  obtain ⟨x, y, hx, hy⟩ := pair_get h hjl
  rw [merge_get h h2 hx hy] at ha
  rw [merge_get h.symm (by omega) hy hx] at hb
  cases ha; cases hb
  exact mrg_comm (gl x (List.mem_of_getElem? hx)) (go y (List.mem_of_getElem? hy))
theorem merge_assoc {l o p : List Mb} (h : l.length = o.length) (h' : o.length = p.length) (h2 : l.length ≤ 200) (gl : Good l) (go : Good o) (gp : Good p) : sameL (mergeL (mergeL l o 255) p 255) (mergeL l (mergeL o p 255) 255) := by
  refine ⟨by rw [merge_len, merge_len, merge_len], fun j a b ha hb => ?_⟩
  have hjl : j < l.length := by have := (List.getElem?_eq_some_iff.1 ha).1; rwa [merge_len, merge_len] at this
  obtain ⟨x, y, hx, hy⟩ := pair_get h hjl
  obtain ⟨_, z, _, hz⟩ := pair_get h' (j := j) (by omega)
  rw [merge_get (by rw [merge_len]; omega) (by rw [merge_len]; omega) (merge_get h h2 hx hy) hz] at ha
  rw [merge_get (by rw [merge_len]; omega) h2 hx (merge_get h' (by omega) hy hz)] at hb
  cases ha; cases hb
  exact mrg_assoc (gl x (List.mem_of_getElem? hx)) (go y (List.mem_of_getElem? hy)) (gp z (List.mem_of_getElem? hz))
theorem merge_again {l o : List Mb} (h : l.length = o.length) (h2 : l.length ≤ 200) (gl : Good l) (go : Good o) : mergeL (mergeL l o 255) o 255 = mergeL l o 255 := by
  apply List.ext_getElem?
  intro j
  by_cases hjl : j < l.length
  · obtain ⟨x, y, hx, hy⟩ := pair_get h hjl
    rw [merge_get (by rw [merge_len]; omega) (by rw [merge_len]; omega) (merge_get h h2 hx hy) hy, merge_get h h2 hx hy, mrg_again (gl x (List.mem_of_getElem? hx)) (go y (List.mem_of_getElem? hy))]
  · rw [List.getElem?_eq_none (by rw [merge_len, merge_len]; omega), List.getElem?_eq_none (by rw [merge_len]; omega)]
theorem merge_self {l : List Mb} (h2 : l.length ≤ 200) : mergeL l l 255 = l := by
  apply List.ext_getElem?
  intro j
  by_cases hjl : j < l.length
  · obtain ⟨x, y, hx, hy⟩ := pair_get (l := l) rfl hjl
    rw [hx] at hy; cases hy
    rw [merge_get rfl h2 hx hx, mrg_self, hx]
  · rw [List.getElem?_eq_none (by rw [merge_len]; omega), List.getElem?_eq_none (by omega)]
end Go.Proofs.Ytgkdljfhmflmjaa
