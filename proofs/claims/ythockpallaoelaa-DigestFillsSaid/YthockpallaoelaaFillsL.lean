/-
  Plain laws for DigestFills (17): the order of what is lacked, and what taking it does.
-/
import Derived.Test.YthockpallaoelaaMarksL
import Derived.Test.YthockpallaoelaaSeenSets
import Derived.Test.YthockpallaoelaaRight17
namespace Go.Proofs.Ythockpallaoelaa
open Go.RowKit
/-- where the first one stands -/
def fi (x : Id) : List Id → Nat
  | [] => 0
  | y :: t => if y = x then 0 else fi x t + 1
theorem fi_lt {x : Id} : ∀ {l : List Id}, x ∈ l → fi x l < l.length
  | y :: t, h => by
    unfold fi
    split
    · simp
    · rename_i hn
      have := fi_lt (l := t) (by rcases List.mem_cons.1 h with h | h; exact absurd h.symm hn; exact h)
      simp; omega
theorem fi_at {x : Id} : ∀ {l : List Id}, x ∈ l → l[fi x l]? = some x
  | y :: t, h => by
    unfold fi
    split
    · rename_i he; simp [he]
    · rename_i hn
      have := fi_at (l := t) (by rcases List.mem_cons.1 h with h | h; exact absurd h.symm hn; exact h)
      simpa using this
theorem fi_no {x y : Id} : ∀ {l : List Id} {b : Nat}, b < fi x l → l[b]? = some y → y ≠ x
  | z :: t, b, h, hy => by
    unfold fi at h
    split at h
    · omega
    · rename_i hn
      cases b with
      | zero => simp at hy; rw [← hy]; exact hn
      | succ b => exact fi_no (l := t) (b := b) (by omega) (by simpa using hy)
theorem fi_app {x : Id} : ∀ (l r : List Id), fi x (l ++ r) = if x ∈ l then fi x l else l.length + fi x r
  | [], r => by simp
  | y :: t, r => by
    have ih := fi_app (x := x) t r
    by_cases hn : y = x
    · subst hn; simp [fi]
    · rw [List.cons_append]
      have e1 : fi x (y :: (t ++ r)) = fi x (t ++ r) + 1 := by simp [fi, hn]
      have e2 : fi x (y :: t) = fi x t + 1 := by simp [fi, hn]
      rw [e1, e2, ih]
      by_cases hx : x ∈ t
      · rw [if_pos hx, if_pos (List.mem_cons_of_mem _ hx)]
      · rw [if_neg hx, if_neg (by simp [Ne.symm hn, hx])]; simp; omega
theorem dd_rise (p : Id → Bool) (ids : List Id) : (dd p ids).Pairwise (fun x y => fi x ids < fi y ids) := by
  refine snoc_ind (P := fun l => (dd p l).Pairwise (fun x y => fi x l < fi y l)) (by simp [dd]) (fun l z ih => ?_) ids
  have h1 : (dd p l).Pairwise (fun x y => fi x (l ++ [z]) < fi y (l ++ [z])) := by
    refine List.Pairwise.imp_of_mem (fun {a b} ha hb h => ?_) ih
    rw [fi_app, fi_app, if_pos ((mem_dd l a).1 ha).1, if_pos ((mem_dd l b).1 hb).1]
    exact h
  rw [dd_snoc]
  by_cases hp : p z = true
  · by_cases hz : z ∈ dd p l
    · rw [ddStep_old (by simpa using hz)]; exact h1
    · rw [ddStep_new hp (by simpa using hz), List.pairwise_append]
      refine ⟨h1, by simp, fun a ha b hb => ?_⟩
      obtain rfl : b = z := by simpa using hb
      have hal := ((mem_dd l a).1 ha).1
      have hbl : b ∉ l := fun h => hz ((mem_dd l b).2 ⟨h, hp⟩)
      rw [fi_app, fi_app, if_pos hal, if_neg hbl]
      have := fi_lt hal
      omega
  · rw [ddStep_no (by simpa using hp)]; exact h1
theorem lacks_rise {ids : List Id} {rows : List Rw} {m : Int} {i : Nat} {x y : Id} (h1 : (lacksL ids rows m)[i]? = some x) (h2 : (lacksL ids rows m)[i + 1]? = some y) : fi x ids < fi y ids := by
  have := dd_rise (lackOk rows m) ids
  rw [List.pairwise_iff_getElem] at this
  obtain ⟨l1, e1⟩ := List.getElem?_eq_some_iff.1 h1
  obtain ⟨l2, e2⟩ := List.getElem?_eq_some_iff.1 h2
  have h3 := this i (i + 1) l1 l2 (by omega)
  rw [← e1, ← e2]
  exact h3
theorem lacks_mem {ids : List Id} {rows : List Rw} {m : Int} {x : Id} (h : x ∈ lacksL ids rows m) : x ∈ ids ∧ lackOk rows m x = true := (mem_dd ids x).1 h
theorem lacks_in {ids : List Id} {rows : List Rw} {m : Int} {x : Id} (h : x ∈ ids) (h2 : lackOk rows m x = true) : x ∈ lacksL ids rows m := (mem_dd ids x).2 ⟨h, h2⟩
theorem lack_row {rows : List Rw} {m : Int} {x : Id} (h : lackOk rows m x = true) : ∃ r, rows[x.n.toNat]? = some r ∧ mayB r x m = true := by
  unfold lackOk at h
  cases hr : rows[x.n.toNat]? with
  | none => rw [hr] at h; cases h
  | some r => rw [hr] at h; exact ⟨r, rfl, h⟩
theorem lacks_fresh {ids : List Id} {rows : List Rw} {m : Int} {i : Nat} {x : Id} (h : (lacksL ids rows m)[i]? = some x) : x ∉ (lacksL ids rows m).take i := fun hm => by
  have hn : (lacksL ids rows m).Nodup := nodup_dd ids
  obtain ⟨l1, e1⟩ := List.getElem?_eq_some_iff.1 h
  obtain ⟨k, hk, he⟩ := List.getElem_of_mem hm
  simp only [List.length_take] at hk
  rw [List.getElem_take] at he
  exact (List.pairwise_iff_getElem.1 hn) k i (by omega) l1 (by omega) (he.trans e1.symm)
/-! Taking one by one. -/
def takeG (r : Rw) (x : Id) (m : Int) : Rw := if mayB r x m = true then takeR r x else r
def tkStep (m : Int) (rs : List Rw) (x : Id) : List Rw := match rs[x.n.toNat]? with
  | some r => rs.set x.n.toNat (takeG r x m)
  | none => rs
def tks (rows : List Rw) (m : Int) (l : List Id) : List Rw := l.foldl (tkStep m) rows
theorem tks_take {rows : List Rw} {m : Int} {l : List Id} {k : Nat} {x : Id} (h : l[k]? = some x) : tks rows m (l.take (k + 1)) = tkStep m (tks rows m (l.take k)) x := by
  unfold tks; rw [List.take_add_one, h, Option.toList_some, List.foldl_append]; rfl
/-- a row that went on -/
def After (r r' : Rw) : Prop := r.i < r'.i ∨ (r.i = r'.i ∧ r.p ≤ r'.p ∧ ∀ n, 0 < n → seenB r n = true → seenB r' n = true)
theorem After.refl (r : Rw) : After r r := .inr ⟨rfl, Int.le_refl _, fun _ _ h => h⟩
theorem After.trans {a b c : Rw} (h1 : After a b) (h2 : After b c) : After a c := by
  rcases h1 with h1 | ⟨h1, h3, h5⟩ <;> rcases h2 with h2 | ⟨h2, h4, h6⟩
  · exact .inl (by omega)
  · exact .inl (by omega)
  · exact .inl (by omega)
  · exact .inr ⟨by omega, by omega, fun n hn h => h6 n hn (h5 n hn h)⟩
theorem after_take {r : Rw} {x : Id} {m : Int} (h : GoodR r) (hx : x.ok) : After r (takeG r x m) := by
  unfold takeG
  split
  · rename_i hm
    rcases (take_mark h hx hm).2 with h1 | ⟨h1, h2⟩
    · exact .inl h1
    · refine .inr ⟨h1, h2, fun n hn hs => ?_⟩
      rw [seen_take h.1 hx hm (good_fit h x) n hn]
      have hl : lim r x = r := by
        unfold lim
        rw [if_neg]
        intro hl
        have : (takeR r x).i = x.i := by unfold takeR lim; rw [if_pos hl]
        omega
      rw [hl, hs]; rfl
  · exact After.refl r
theorem takeG_good {r : Rw} {x : Id} {m : Int} (h : GoodR r) (hx : x.ok) : GoodR (takeG r x m) := by
  unfold takeG; split
  · rename_i hm; exact good_take h hx hm
  · exact h
/-- behind its turn: of a lower incarnation, or seen -/
def Done (r : Rw) (x : Id) : Prop := x.i < r.i ∨ (x.i = r.i ∧ seenB r x.s = true)
theorem done_after {r r' : Rw} {x : Id} (h : Done r x) (ha : After r r') (hs : 0 < x.s) : Done r' x := by
  rcases h with h | ⟨h1, h2⟩ <;> rcases ha with ha | ⟨h3, h4, h5⟩
  · exact .inl (by omega)
  · exact .inl (by omega)
  · exact .inl (by omega)
  · exact .inr ⟨by omega, h5 _ hs h2⟩
theorem done_take {r0 r : Rw} {x : Id} {m : Int} (h : GoodR r) (hx : x.ok) (hm : mayB r0 x m = true) (ha : After r0 r) : Done (takeG r x m) x := by
  have hm' := hm
  simp only [mayB, decide_eq_true_iff] at hm'
  obtain ⟨h1, h2, h3, h4, h5, h6⟩ := hm'
  have hxs := hx.2.2.1
  have hxi := hx.2.1.1
  have hri := h.1.1.1
  by_cases hl : x.i < r.i
  · left
    unfold takeG
    rw [if_neg (by rw [may_old hl]; simp)]
    exact hl
  · by_cases hmr : mayB r x m = true
    · unfold takeG
      rw [if_pos hmr]
      right
      refine ⟨?_, by rw [seen_take h.1 hx hmr (good_fit h x) x.s (by omega)]; simp⟩
      unfold takeR lim
      split
      · rfl
      · show x.i = r.i; omega
    · unfold takeG
      rw [if_neg hmr]
      right
      simp only [mayB, decide_eq_true_iff] at hmr
      have hwin : x.s ≤ (lim r x).p + m := by
        unfold lim at h6 ⊢
        rcases ha with ha | ⟨ha, hp, _⟩
        · rw [if_pos (by omega)] at h6
          split
          · exact h6
          · have := h.1.2.1.1; simp only at h6; omega
        · split
          · rw [if_pos (by omega)] at h6; exact h6
          · rename_i hn; rw [if_neg (by omega)] at h6; omega
      have hse : seenB (lim r x) x.s = true := by
        cases hq : seenB (lim r x) x.s
        · exact absurd ⟨h1, h2, h3, by omega, hq, hwin⟩ hmr
        · rfl
      by_cases hlt : r.i < x.i
      · rw [lim_new hlt, seen_none _ _ (by omega)] at hse; cases hse
      · have e : lim r x = r := by unfold lim; rw [if_neg hlt]
        rw [e] at hse
        exact ⟨by omega, hse⟩
theorem done_no {r : Rw} {x : Id} {m : Int} (h : Done r x) (hx : x.ok) (hi : ¬x.i = 0) : mayB r x m = false ∧ (r.i ≤ x.i → hasR r x = true) ∧ (x.i < r.i → hasR r x = false) := by
  have hxi := hx.2.1.1
  rcases h with h | ⟨h1, h2⟩
  · refine ⟨may_old h, fun h' => by omega, fun _ => has_other (by omega)⟩
  · refine ⟨?_, fun _ => by simp only [hasR, decide_eq_true_iff]; exact ⟨by omega, h1, h2⟩, fun h' => by omega⟩
    have e : lim r x = r := by unfold lim; rw [if_neg (by omega)]
    simp only [mayB, decide_eq_false_iff_not, e, h2]
    rintro ⟨_, _, _, _, h, _⟩
    cases h
/-- the rows on the way -/
structure TkInv (rows : List Rw) (m : Int) (l : List Id) (k : Nat) (rs : List Rw) : Prop where
  len : rs.length = rows.length
  good : ∀ r ∈ rs, GoodR r
  aft : ∀ (j : Nat) (r r' : Rw), rows[j]? = some r → rs[j]? = some r' → After r r'
  done : ∀ x ∈ l.take k, ∀ r, rs[x.n.toNat]? = some r → Done r x
theorem tk_start {rows : List Rw} {m : Int} {l : List Id} (h : ∀ r ∈ rows, GoodR r) : TkInv rows m l 0 rows :=
  ⟨rfl, h, fun j r r' h1 h2 => by obtain rfl := Option.some.inj (h1.symm.trans h2); exact After.refl _, fun x hx => by simp at hx⟩
theorem tk_step {rows rs : List Rw} {m : Int} {l : List Id} {k : Nat} {x : Id} {r : Rw} (h : TkInv rows m l k rs) (hx : l[k]? = some x) (hr : rs[x.n.toNat]? = some r) (hok : ∀ x ∈ l, x.ok ∧ 0 < x.s) (hl : ∀ x ∈ l, lackOk rows m x = true) :
    TkInv rows m l (k + 1) (rs.set x.n.toNat (takeG r x m)) := by
  have hxl := List.mem_of_getElem? hx
  obtain ⟨hxo, hxs⟩ := hok x hxl
  obtain ⟨r0, hr0, hm0⟩ := lack_row (hl x hxl)
  have gr := h.good r (List.mem_of_getElem? hr)
  have hj : x.n.toNat < rs.length := (List.getElem?_eq_some_iff.1 hr).1
  refine ⟨by rw [List.length_set]; exact h.len, fun y hy => ?_, fun j a b ha hb => ?_, fun y hy b hb => ?_⟩
  · rcases List.mem_or_eq_of_mem_set hy with h1 | h1
    · exact h.good y h1
    · rw [h1]; exact takeG_good gr hxo
  · by_cases he : x.n.toNat = j
    · subst he
      rw [List.getElem?_set_self hj] at hb
      obtain rfl := Option.some.inj hb
      exact (h.aft _ a r ha hr).trans (after_take gr hxo)
    · rw [List.getElem?_set_ne he] at hb
      exact h.aft j a b ha hb
  · rw [List.take_add_one, hx, Option.toList_some, List.mem_append, List.mem_singleton] at hy
    by_cases he : x.n.toNat = y.n.toNat
    · rw [← he, List.getElem?_set_self hj] at hb
      obtain rfl := Option.some.inj hb
      rcases hy with hy | rfl
      · exact done_after (h.done y hy r (by rw [← he]; exact hr)) (after_take gr hxo) (hok y (List.mem_of_mem_take hy)).2
      · exact done_take gr hxo hm0 (h.aft _ r0 r hr0 hr)
    · rw [List.getElem?_set_ne he] at hb
      rcases hy with hy | rfl
      · exact h.done y hy b hb
      · exact absurd rfl he
theorem right_good {r : Rw} {m : Int} (hr : r.ok) (h : rightRow r m = true) : GoodR r := ⟨hr, by
  have := fits_right hr h ⟨0, 0, 0⟩
  have e : lim r ⟨0, 0, 0⟩ = r := by unfold lim; rw [if_neg (by have := hr.1.1; simp only; omega)]
  rwa [e] at this⟩
theorem right17_good {rows : List Rw} {m most : Int} (hok : ∀ r ∈ rows, r.ok) (h : right17 rows m most = true) : (∀ r ∈ rows, GoodR r) ∧ (rows.length : Int) ≤ most ∧ 1 ≤ m ∧ m ≤ 64 := by
  simp only [right17, decide_eq_true_iff] at h
  exact ⟨fun r hr => right_good (hok r hr) (h.1 r hr), h.2⟩
theorem may_pos {r : Rw} {x : Id} {m : Int} (hx : x.ok) (h : mayB r x m = true) : 0 < x.s ∧ ¬x.i = 0 := by
  simp only [mayB, decide_eq_true_iff] at h
  have := hx.2.2.1
  exact ⟨by omega, h.2.1⟩
end Go.Proofs.Ythockpallaoelaa
