/-
  A row of messages that is appended to at its end and cut at its head (21).
-/
import Derived.Test.YtbengmgfddnkhaaUse21
import Derived.ArgAppend
namespace Go.Proofs.Ytbengmgfddnkhaa
open Go.RowKit
theorem setCells_putAt (g : Nat) : ∀ (us : List Value) (W : World) (j : Nat), W.setCells g j us = putAt W g j us
  | [], _, _ => rfl
  | u :: r, W, j => setCells_putAt g r (W.setCell ⟨g, j, none⟩ u) (j + 1)
/-- the row lies in a block at or above base, at some place, with room to its capacity -/
def Wt (base : Nat) (W : World) (A : Option Addr) (n c : Nat) (q : List MsV) : Prop :=
  q.length = n ∧ n ≤ c ∧ c ≤ maxLen ∧ ((A = none ∧ c = 0) ∨ ∃ g off cur, A = some ⟨g, off, none⟩ ∧ base ≤ g ∧ Ob W g cur 39 ∧ off + c * 17 ≤ cur.size ∧ ∀ (k : Nat) (x : MsV), q[k]? = some x → ∀ (j : Nat) (v : Value), (msc x)[j]? = some v → cur[off + k * 17 + j]? = some v)
section
variable {base : Nat} {W W' : World} {A : Option Addr} {n c : Nat} {q t : List MsV} {m : MsV}
theorem Wt.nil_ : Wt base W none 0 0 [] := ⟨rfl, Nat.le_refl _, Nat.zero_le _, .inl ⟨rfl, rfl⟩⟩
theorem Wt.below (h : Wt base W A n c q) (hb : Below W.heap.size W W') : Wt base W' A n c q := by
  obtain ⟨h1, h2, h3, h4⟩ := h
  refine ⟨h1, h2, h3, h4.imp id ?_⟩
  rintro ⟨g, off, cur, e, hg, ho, hs, hc⟩
  exact ⟨g, off, cur, e, hg, ho.call hb, hs, hc⟩
theorem Wt.hop (h : Wt base W A n c q) {p : Nat} (hg : W.grownBy W' (some p)) (hp : p < base) : Wt base W' A n c q := by
  obtain ⟨h1, h2, h3, h4⟩ := h
  refine ⟨h1, h2, h3, h4.imp id ?_⟩
  rintro ⟨g, off, cur, e, hb, ho, hs, hc⟩
  exact ⟨g, off, cur, e, hb, (hg.block g ho.lt (by intro e; injection e with e; omega)).trans ho, hs, hc⟩
theorem Wt.lt (h : Wt base W A n c q) : ∀ g off, A = some ⟨g, off, none⟩ → base ≤ g ∧ g < W.heap.size := fun g off e => by
  rcases h.2.2.2 with ⟨e', _⟩ | ⟨g', off', cur, e', hb, ho, _⟩
  · rw [e'] at e; cases e
  · rw [e'] at e
    injection e with e
    injection e with e1 _ _
    subst e1
    exact ⟨hb, ho.lt⟩
theorem Wt.rd (h : Wt base W A n c q) : Rd msc 17 W.heap.size W A q := fun hl => by
  obtain ⟨h1, h2, h3, h4⟩ := h
  rcases h4 with ⟨_, h0⟩ | ⟨g, off, cur, e, hb, ho, hs, hc⟩
  · omega
  · exact ⟨g, off, e, ho.lt, fun k x hx j v hv => by
      have := hc k x hx j v hv
      exact ho.blk.2.1 _ v (by simpa using this)⟩
theorem Wt.tail (h : Wt base W A n c (m :: t)) : Wt base W (if c = 1 then A else A.map (·.add 17)) (n - 1) (c - 1) t := by
  obtain ⟨h1, h2, h3, h4⟩ := h
  simp only [List.length_cons] at h1
  refine ⟨by omega, by omega, by omega, ?_⟩
  rcases h4 with ⟨_, h0⟩ | ⟨g, off, cur, rfl, hb, ho, hs, hc⟩
  · omega
  · refine .inr ?_
    by_cases hc1 : c = 1
    · rw [if_pos hc1]
      have ht : t = [] := List.length_eq_zero_iff.1 (by omega)
      subst ht
      exact ⟨g, off, cur, rfl, hb, ho, by subst hc1; omega, (fun k x hx => by simp at hx)⟩
    · rw [if_neg hc1]
      refine ⟨g, off + 17, cur, by simp [Addr.add], hb, ho, by omega, fun k x hx j v hv => ?_⟩
      have := hc (k + 1) x (by simpa using hx) j v hv
      rwa [show off + (k + 1) * 17 + j = off + 17 + k * 17 + j by omega] at this
theorem Wt.of_own {v : Value} {qs : List MsV} (h : W.ownsRow base 39 17 v qs.length (qs.flatMap msc)) (hq : 0 < qs.length) : ∃ A c, v = .slice A qs.length c ∧ Wt base W A qs.length c qs := by
  rcases h.2 with ⟨_, h0⟩ | ⟨g, cap, cur, rfl, hb, ho, hn, hm, hcs, ht⟩
  · omega
  · refine ⟨_, _, rfl, rfl, hn, hm, .inr ⟨g, 0, cur, rfl, hb, ho, by omega, fun k x hx j v hv => ?_⟩⟩
    have hj : j < 17 := by rw [← msc_len x]; exact (List.getElem?_eq_some_iff.1 hv).1
    have h1 := flat_at msc_len qs k x hx j hj
    rw [hv, ← ht, List.getElem?_take] at h1
    split at h1
    · rw [Nat.zero_add]; simpa using h1
    · cases h1
theorem wpList_wt {ops : Array Oper} {rest : List Oper} {op : Oper} {a : Act} {Q : Exit → Act → World → Prop} (w : World) (h : Wt base w A n c q) (hbw : base < w.heap.size) (hn : n ≤ 1000) (m : MsV) (g2 : Nat) (hM : Ob w g2 (msA m) 39) (hgd : op.guard = none) (s x : Operand)
    (ho : op.op = Op.call { callee := Callee.builtin Builtin.append, args := #[s, x], argTypes := #[22, 22] }) (hs : a.eval s = .slice A n c) (hx : a.eval x = .slice (some ⟨g2, 0, none⟩) 1 1)
    (hK : ∀ A' c' w' g, Wt base w' A' (n + 1) c' (q ++ [m]) → w.grownBy w' (some g) → (A = none ∧ g = base ∨ ∃ off, A = some ⟨g, off, none⟩) → wpList Try.prog ops Q rest (a.put op.dst (.slice A' (n + 1) c')) w') : wpList Try.prog ops Q (op :: rest) a w := by
  obtain ⟨i0, hi0, hz0, hz1, hz2⟩ := info_parts Try.info21Ms
  have hnews : ∀ j u, (msc m)[j]? = some u → w.cell? ((⟨g2, 0, none⟩ : Addr).add j) = some u := fun j u hu => by
    have := obM hM j u hu
    rw [Nat.zero_add] at this
    rw [Addr.add_mid, Nat.zero_add]; exact this
  have hq := h.1
  have hfl : (q.flatMap msc).length = n * 17 := by rw [flat_len msc_len, hq]
  have grow : ∀ v' w', w'.ownsRow w.heap.size 39 17 v' (n + 1) (q.flatMap msc ++ msc m) → w.grownBy w' none → wpList Try.prog ops Q rest (a.put op.dst v') w' := fun v' w' hown hg => by
    have e : q.flatMap msc ++ msc m = (q ++ [m]).flatMap msc := by rw [List.flatMap_append]; simp
    have el : n + 1 = (q ++ [m]).length := by rw [List.length_append, hq]; rfl
    rw [e, el] at hown
    obtain ⟨A', c', rfl, hw⟩ := Wt.of_own hown (by rw [← el]; omega)
    rw [← el] at hw ⊢
    have hw2 : Wt base w' A' (n + 1) c' (q ++ [m]) := by
      obtain ⟨k1, k2, k3, k4⟩ := hw
      refine ⟨k1, k2, k3, k4.imp id ?_⟩
      rintro ⟨g, off, cur, e1, e2, e3⟩
      exact ⟨g, off, cur, e1, by omega, e3⟩
    rcases h.2.2.2 with ⟨e1, _⟩ | ⟨g, off, cur, e1, _⟩
    · exact hK A' c' w' base hw2 (hg.but _) (.inl ⟨e1, rfl⟩)
    · exact hK A' c' w' g hw2 (hg.but _) (.inr ⟨off, e1⟩)
  rcases h.2.2.2 with ⟨e1, e2⟩ | ⟨g, off, cur, rfl, hb, hob, hsz, hc⟩
  · subst e1 e2
    obtain rfl : n = 0 := by have := h.2.1; omega
    obtain rfl : q = [] := List.length_eq_zero_iff.1 hq
    exact wpList_append_grows w hgd s x 22 ho 39 i0 _ 17 176 Try.underlying22 hi0 hz0 hz1 hz2 rfl (by omega) none 0 0 [] hs (fun _ => ⟨rfl, rfl⟩) rfl (fun b hb => by cases hb) ⟨g2, 0, none⟩ 1 1 (msc m) hx rfl hnews (msc_one m) (by omega) (by unfold maxLen; omega) (by omega) grow
  · refine wpList_append_arg w hgd s x 22 ho 39 i0 _ 17 176 Try.underlying22 hi0 hz0 hz1 hz2 rfl (by omega) g off n c (q.flatMap msc) hs hfl ?_ ⟨g2, 0, none⟩ 1 1 (msc m) hx rfl hnews (msc_one m) ?_ (by unfold maxLen; omega) (by omega) ?_ (fun _ => grow)
    · intro j u hu
      have hj : j < n * 17 := by rw [← hfl]; exact (List.getElem?_eq_some_iff.1 hu).1
      have hk : j / 17 < q.length := by rw [hq]; omega
      have hx' : q[j / 17]? = some q[j / 17] := List.getElem?_eq_getElem hk
      have h1 := flat_at msc_len q (j / 17) _ hx' (j % 17) (Nat.mod_lt _ (by omega))
      have hdm : j / 17 * 17 + j % 17 = j := by omega
      rw [hdm, hu] at h1
      have h2 := hc (j / 17) _ hx' (j % 17) u h1.symm
      rw [Nat.add_assoc, hdm] at h2
      exact hob.blk.2.1 _ u (by simpa using h2)
    · intro hroom j hj
      have hj17 : j < 17 := hj
      have hlt : off + n * 17 + j < cur.size := by
        have : (n + 1) * 17 ≤ c * 17 := Nat.mul_le_mul_right 17 hroom
        omega
      refine ⟨?_, hob.blk.2.2 _⟩
      have := hob.blk.2.1 (off + n * 17 + j) cur[off + n * 17 + j] (by simp [hlt])
      rw [this]; rfl
    · intro hroom
      have hset : ∃ cur', Ob (w.setCells g (off + n * 17) (msc m)) g cur' 39 ∧ cur'.size = cur.size ∧ (∀ i, i < off + n * 17 → cur'[i]? = cur[i]?) ∧ (∀ i u, (msc m)[i]? = some u → cur'[off + n * 17 + i]? = some u) ∧ w.grownBy (w.setCells g (off + n * 17) (msc m)) (some g) := by
        have hle : off + n * 17 + (msc m).length ≤ cur.size := by
          have : (n + 1) * 17 ≤ c * 17 := Nat.mul_le_mul_right 17 hroom
          rw [msc_len]; omega
        rw [setCells_putAt]
        obtain ⟨cs', p1, p2, p3, p4, _⟩ := putAt_ob (msc m) w (off + n * 17) cur hob hle
        exact ⟨cs', p1, p2, p3, p4, putAt_grown g (msc m) w (off + n * 17)⟩
      obtain ⟨cur', p1, p2, p3, p4, p5⟩ := hset
      refine hK _ _ _ g ⟨by rw [List.length_append, hq]; rfl, hroom, h.2.2.1, .inr ⟨g, off, cur', rfl, hb, p1, by rw [p2]; exact hsz, fun k y hy j v hv => ?_⟩⟩ p5 (.inr ⟨off, rfl⟩)
      have hj : j < 17 := by rw [← msc_len y]; exact (List.getElem?_eq_some_iff.1 hv).1
      by_cases hk : k < q.length
      · rw [List.getElem?_append_left hk] at hy
        rw [p3 _ (by rw [hq] at hk; have : (k + 1) * 17 ≤ n * 17 := Nat.mul_le_mul_right 17 hk; omega)]
        exact hc k y hy j v hv
      · have hkl : k < (q ++ [m]).length := (List.getElem?_eq_some_iff.1 hy).1
        rw [List.length_append, List.length_singleton] at hkl
        obtain rfl : k = q.length := by omega
        rw [List.getElem?_append_right (Nat.le_refl _), Nat.sub_self] at hy
        obtain rfl : m = y := by simpa using hy
        rw [hq]
        exact p4 j v hv
end
end Go.Proofs.Ytbengmgfddnkhaa
