/-
  Plain laws for StableAny (19): each mark is the newest that was told.
-/
import Derived.Test.YtcclnfpegepcnaaForgetsL
import Derived.Test.YtcclnfpegepcnaaNewerL
namespace Go.Proofs.Ytcclnfpegepcnaa
open Go.RowKit
/-- one mark of what a member tells -/
def wantS (n i j : Nat) (xm : Int) (w m : Id) : Id := if xm = (i : Int) ∧ i < n ∧ m.n = (j : Int) ∧ j < n ∧ newerB m w = true then m else w
def wantR (n i j : Nat) (xm : Int) (w : Id) (ms : List Id) : Id := ms.foldl (wantS n i j xm) w
def wantL (n i j : Nat) (l : List TdV) : Id := l.foldl (fun w x => wantR n i j x.m w x.l) ⟨(j : Int), 0, 0⟩
theorem wantR_take {n i j : Nat} {xm : Int} {w : Id} {ms : List Id} {k : Nat} {m : Id} (h : ms[k]? = some m) : wantR n i j xm w (ms.take (k + 1)) = wantS n i j xm (wantR n i j xm w (ms.take k)) m := by
  unfold wantR; rw [List.take_add_one, h, Option.toList_some, List.foldl_append]; rfl
theorem wantL_take {n i j : Nat} {l : List TdV} {k : Nat} {x : TdV} (h : l[k]? = some x) : wantL n i j (l.take (k + 1)) = wantR n i j x.m (wantL n i j (l.take k)) x.l := by
  unfold wantL; rw [List.take_add_one, h, Option.toList_some, List.foldl_append]; rfl
theorem wantL_snoc {n i j : Nat} {l : List TdV} {x : TdV} : wantL n i j (l ++ [x]) = wantR n i j x.m (wantL n i j l) x.l := by
  unfold wantL; rw [List.foldl_append]; rfl
theorem wantR_off {n i j : Nat} {xm : Int} {w : Id} {ms : List Id} (h : ¬(xm = (i : Int) ∧ i < n ∧ j < n)) : wantR n i j xm w ms = w := by
  unfold wantR
  induction ms generalizing w with
  | nil => rfl
  | cons m t ih => rw [List.foldl_cons, show wantS n i j xm w m = w by unfold wantS; rw [if_neg (fun hh => h ⟨hh.1, hh.2.1, hh.2.2.2.1⟩)], ih]
theorem row_want {n i j : Nat} (hi : i < n) (hj : j < n) (ms : List Id) (hok : ∀ m ∈ ms, m.ok) : ∀ row : List Id, row.length = n → ((repRow row ms)[j]?).getD ⟨(j : Int), 0, 0⟩ = wantR n i j (i : Int) ((row[j]?).getD ⟨(j : Int), 0, 0⟩) ms := by
  induction ms with
  | nil => intro row _; rfl
  | cons m t ih =>
    intro row hr
    unfold repRow wantR
    rw [List.foldl_cons, List.foldl_cons]
    have ih' := ih (fun m hm => hok m (by simp [hm])) (repStep row m) (by rw [repStep_len]; exact hr)
    unfold repRow wantR at ih'
    rw [ih']
    congr 1
    obtain ⟨⟨m0, _⟩, _⟩ := hok m (by simp)
    unfold repStep wantS
    by_cases hm : m.n = (j : Int)
    · have e : m.n.toNat = j := by omega
      have hjr : j < row.length := by omega
      rw [e, List.getElem?_eq_getElem hjr]
      rw [Option.getD_some]; dsimp only
      by_cases hn : newerB m row[j] = true
      · rw [if_pos hn, if_pos (by exact ⟨rfl, hi, hm, hj, hn⟩), List.getElem?_set_self hjr, Option.getD_some]
      · rw [if_neg hn, if_neg (fun h => hn h.2.2.2.2), List.getElem?_eq_getElem hjr, Option.getD_some]
    · have e : ¬m.n.toNat = j := by omega
      rw [if_neg (fun h => hm h.2.2.1)]
      split
      · split
        · rw [List.getElem?_set_ne e]
        · rfl
      · rfl
theorem toldL_shape (n : Nat) (l : List TdV) : (toldL n l).length = n ∧ ∀ r ∈ toldL n l, r.length = n := by
  have h := told_shape n l l.length (Nat.le_refl _)
  rwa [List.take_length] at h
theorem of_told (n : Nat) (l : List TdV) (hok : ∀ x ∈ l, 0 ≤ x.m ∧ ∀ m ∈ x.l, m.ok) (i j : Nat) : ofL (toldL n l) i j = wantL n i j l := by
  revert hok
  refine snoc_ind' (P := fun l => (∀ x ∈ l, 0 ≤ x.m ∧ ∀ m ∈ x.l, m.ok) → ofL (toldL n l) i j = wantL n i j l) ?_ ?_ l
  · intro _
    show ofL (List.replicate n (blank n)) i j = ⟨(j : Int), 0, 0⟩
    by_cases hi : i < n
    · by_cases hj : j < n
      · exact of_at (row := blank n) (by simp [hi]) (blank_at hj)
      · exact of_short (row := blank n) (by simp [hi]) (by rw [blank_len]; omega)
    · exact of_out (by simp; omega)
  · intro l x ih hok
    have ih' := ih (fun y hy => hok y (by simp [hy]))
    obtain ⟨hx0, hxm⟩ := hok x (by simp)
    obtain ⟨s1, s2⟩ := toldL_shape n l
    rw [toldL_snoc, wantL_snoc, ← ih']
    by_cases hb : i < n ∧ j < n
    · by_cases hx : x.m = (i : Int)
      · have e : x.m.toNat = i := by omega
        have hrow : (toldL n l)[i]? = some ((toldL n l)[i]'(by omega)) := List.getElem?_eq_getElem (by omega)
        have hrl : ((toldL n l)[i]'(by omega)).length = n := s2 _ (List.getElem_mem _)
        rw [e, hx]
        unfold reportL
        rw [hrow]
        simp only
        unfold ofL
        rw [List.getElem?_set_self (by omega), hrow]
        simp only [Option.getD_some]
        exact row_want hb.1 hb.2 x.l hxm _ hrl
      · rw [wantR_off (fun h => hx h.1)]
        unfold reportL
        split
        · unfold ofL
          rw [List.getElem?_set_ne (by omega)]
        · rfl
    · rw [wantR_off (fun h => hb h.2)]
      unfold reportL
      split
      · rename_i row hrow
        have hml := (List.getElem?_eq_some_iff.1 hrow).1
        have hrl : row.length = n := s2 _ (List.mem_of_getElem? hrow)
        unfold ofL
        by_cases hxi : x.m.toNat = i
        · rw [hxi] at hrow
          rw [hxi, List.getElem?_set_self (by omega), hrow]
          simp only [Option.getD_some]
          rw [List.getElem?_eq_none (by rw [repRow_len]; omega), List.getElem?_eq_none (by omega)]
        · rw [List.getElem?_set_ne hxi]
      · rfl
/-! The newest of many. -/
def newest (w : Id) (S : List Id) : Id := S.foldl (fun w m => if newerB m w = true then m else w) w
theorem newest_is (S : List Id) : ∀ (w : Id), (∀ m ∈ S, m.n = w.n) → newest w S ∈ w :: S ∧ (∀ m ∈ w :: S, newerB m (newest w S) = false) ∧ (newest w S).n = w.n := by
  induction S with
  | nil => intro w _; exact ⟨by simp [newest], by simp [newest, newerB], rfl⟩
  | cons m t ih =>
    intro w h
    have hm : m.n = w.n := h m (by simp)
    have e : newest w (m :: t) = newest (if newerB m w = true then m else w) t := rfl
    rw [e]
    by_cases hn : newerB m w = true
    · rw [if_pos hn]
      obtain ⟨h1, h2, h3⟩ := ih m (fun x hx => by rw [h x (by simp [hx]), hm])
      refine ⟨List.mem_cons_of_mem _ h1, fun x hx => ?_, h3.trans hm⟩
      rcases List.mem_cons.1 hx with rfl | hx
      · cases hh : newerB x (newest m t) with
        | false => rfl
        | true =>
          have := newer_trans m x _ hn hh
          rw [h2 m (by simp)] at this
          cases this
      · exact h2 x hx
    · rw [if_neg hn]
      obtain ⟨h1, h2, h3⟩ := ih w (fun x hx => h x (by simp [hx]))
      refine ⟨?_, fun x hx => ?_, h3⟩
      · rcases List.mem_cons.1 h1 with h1 | h1
        · rw [h1]; simp
        · simp [h1]
      · rcases List.mem_cons.1 hx with rfl | hx
        · exact h2 x (by simp)
        · rcases List.mem_cons.1 hx with rfl | hx
          · have h4 := h2 w (by simp)
            unfold newerB at hn h4 ⊢
            simp only [decide_eq_true_iff, decide_eq_false_iff_not] at hn h4 ⊢
            omega
          · exact h2 x (by simp [hx])
theorem newest_same {w : Id} {S S' : List Id} (h : ∀ m ∈ S, m.n = w.n) (h' : ∀ m ∈ S', m.n = w.n) (hs : ∀ m, m ∈ S ↔ m ∈ S') : newest w S = newest w S' := by
  obtain ⟨a1, a2, a3⟩ := newest_is S w h
  obtain ⟨b1, b2, b3⟩ := newest_is S' w h'
  have d1 : newest w S ∈ w :: S' := (List.mem_cons.1 a1).elim (fun e => by rw [e]; simp) (fun e => List.mem_cons_of_mem _ ((hs _).1 e))
  have d2 : newest w S' ∈ w :: S := (List.mem_cons.1 b1).elim (fun e => by rw [e]; simp) (fun e => List.mem_cons_of_mem _ ((hs _).2 e))
  have c1 := b2 _ d1
  have c2 := a2 _ d2
  have := newer_same _ _ (a3.trans b3.symm)
  rw [c1, c2] at this
  exact of_decide_eq_true this.symm
/-- what is told of a node by a member -/
def relv (n i j : Nat) (l : List TdV) : List Id := l.flatMap fun x => x.l.filter fun m => decide (x.m = (i : Int) ∧ i < n ∧ m.n = (j : Int) ∧ j < n)
theorem want_newest (n i j : Nat) (l : List TdV) : wantL n i j l = newest ⟨(j : Int), 0, 0⟩ (relv n i j l) := by
  refine snoc_ind' (P := fun l => wantL n i j l = newest ⟨(j : Int), 0, 0⟩ (relv n i j l)) rfl ?_ l
  intro l x ih
  rw [wantL_snoc, ih]
  unfold relv
  rw [List.flatMap_append, newest, newest, List.foldl_append]
  generalize List.foldl _ _ (List.flatMap _ l) = w
  simp only [List.flatMap_cons, List.flatMap_nil, List.append_nil]
  unfold wantR
  generalize x.l = ms
  induction ms generalizing w with
  | nil => rfl
  | cons m t ih =>
    rw [List.foldl_cons, ih]
    rw [List.filter_cons]
    by_cases hc : x.m = (i : Int) ∧ i < n ∧ m.n = (j : Int) ∧ j < n
    · rw [if_pos (by simpa using hc), List.foldl_cons]
      congr 1
      unfold wantS
      by_cases hn : newerB m w = true
      · rw [if_pos hn, if_pos ⟨hc.1, hc.2.1, hc.2.2.1, hc.2.2.2, hn⟩]
      · rw [if_neg hn, if_neg (fun h => hn h.2.2.2.2)]
    · rw [if_neg (by simpa using hc)]
      congr 1
      unfold wantS
      rw [if_neg (fun h => hc ⟨h.1, h.2.1, h.2.2.1, h.2.2.2.1⟩)]
theorem want_same {n i j : Nat} {l l' : List TdV} (h : ∀ x, x ∈ l ↔ x ∈ l') : wantL n i j l = wantL n i j l' := by
  rw [want_newest, want_newest]
  have hh : ∀ l : List TdV, ∀ m ∈ relv n i j l, m.n = (⟨(j : Int), 0, 0⟩ : Id).n := fun l m hm => by
    obtain ⟨x, _, hx⟩ := List.mem_flatMap.1 hm
    have := (List.mem_filter.1 hx).2
    simp only [decide_eq_true_iff] at this
    exact this.2.2.1
  refine newest_same (hh l) (hh l') (fun m => ?_)
  unfold relv
  simp only [List.mem_flatMap]
  exact ⟨fun ⟨x, h1, h2⟩ => ⟨x, (h x).1 h1, h2⟩, fun ⟨x, h1, h2⟩ => ⟨x, (h x).2 h1, h2⟩⟩
theorem told_same {n : Nat} {l l' : List TdV} (hok : ∀ x ∈ l, 0 ≤ x.m ∧ ∀ m ∈ x.l, m.ok) (h : ∀ x, x ∈ l ↔ x ∈ l') : toldL n l = toldL n l' := by
  have hok' : ∀ x ∈ l', 0 ≤ x.m ∧ ∀ m ∈ x.l, m.ok := fun x hx => hok x ((h x).2 hx)
  obtain ⟨a1, a2⟩ := toldL_shape n l
  obtain ⟨b1, b2⟩ := toldL_shape n l'
  refine List.ext_getElem (a1.trans b1.symm) fun i hi hi' => ?_
  refine List.ext_getElem ((a2 _ (List.getElem_mem _)).trans (b2 _ (List.getElem_mem _)).symm) fun j hj hj' => ?_
  have e := (of_told n l hok i j).trans ((want_same h).trans (of_told n l' hok' i j).symm)
  rw [of_at (List.getElem?_eq_getElem hi) (List.getElem?_eq_getElem hj), of_at (List.getElem?_eq_getElem hi') (List.getElem?_eq_getElem hj')] at e
  exact e
theorem turn_mem {α : Type} (l : List α) (k : Nat) (x : α) : x ∈ l ↔ x ∈ (l.drop k ++ l.take k) ++ l := by
  constructor
  · intro h; simp [h]
  · intro h
    rcases List.mem_append.1 h with h | h
    · rcases List.mem_append.1 h with h | h
      · exact List.mem_of_mem_drop h
      · exact List.mem_of_mem_take h
    · exact h
theorem told_turn {n : Nat} {l : List TdV} (k : Nat) (hok : ∀ x ∈ l, 0 ≤ x.m ∧ ∀ m ∈ x.l, m.ok) : toldL n ((l.drop k ++ l.take k) ++ l) = toldL n l := (told_same hok (turn_mem l k)).symm
theorem want_yes {n i j : Nat} {w m : Id} (hi : i < n) (hm : m.n = (j : Int)) (hj : j < n) (hn : newerB m w = true) : wantS n i j (i : Int) w m = m := by unfold wantS; rw [if_pos ⟨rfl, hi, hm, hj, hn⟩]
theorem want_no {n i j : Nat} {xm : Int} {w m : Id} (h : ¬(xm = (i : Int) ∧ i < n ∧ m.n = (j : Int) ∧ j < n ∧ newerB m w = true)) : wantS n i j xm w m = w := by unfold wantS; rw [if_neg h]
end Go.Proofs.Ytcclnfpegepcnaa
