/-
  Plain laws for DigestMarks (17): what marks tell as more is taken.
-/
import Derived.Test.YthockpallaoelaaLaw08B
import Derived.Test.YthockpallaoelaaKnown
import Derived.Test.YthockpallaoelaaNewerL
import Derived.Test.YthockpallaoelaaLacks
namespace Go.Proofs.Ythockpallaoelaa
open Go.RowKit
def oldF (rows : List Rw) (p : Nat × Rw) : Option (Nat × Rw) := match rows[p.1]? with
  | some r => if 0 < r.i then some (p.1, r) else none
  | none => none
/-- every known row is known later -/
def Grows (rows rows' : List Rw) : Prop := rows'.length = rows.length ∧ ∀ (k : Nat) (r r' : Rw), rows[k]? = some r → rows'[k]? = some r' → 0 < r.i → 0 < r'.i ∧ (r.i < r'.i ∨ r.i = r'.i ∧ r.p ≤ r'.p)
theorem kn_old {rows rows' : List Rw} (h : Grows rows rows') : ∀ k, k ≤ rows.length → kn (rows.take k) = (kn (rows'.take k)).filterMap (oldF rows)
  | 0, _ => by simp [kn_nil]
  | k + 1, hk => by
    have ih := kn_old h k (by omega)
    obtain ⟨r, hr⟩ : ∃ r, rows[k]? = some r := ⟨_, List.getElem?_eq_getElem (by omega)⟩
    obtain ⟨r', hr'⟩ : ∃ r', rows'[k]? = some r' := ⟨_, List.getElem?_eq_getElem (by have := h.1; omega)⟩
    by_cases h1 : 0 < r.i
    · have h2 := (h.2 k r r' hr hr' h1).1
      rw [kn_yes hr h1, kn_yes hr' h2, List.filterMap_append, ← ih]
      simp [oldF, hr, h1]
    · rw [kn_no hr h1, ih]
      by_cases h2 : 0 < r'.i
      · rw [kn_yes hr' h2, List.filterMap_append]
        simp [oldF, hr, h1]
      · rw [kn_no hr' h2]
theorem kn_old' {rows rows' : List Rw} (h : Grows rows rows') : kn rows = (kn rows').filterMap (oldF rows) := by
  have := kn_old h rows.length (Nat.le_refl _)
  rwa [List.take_length, List.take_of_length_le (by have := h.1; omega)] at this
theorem kn_in : ∀ (rows : List Rw) (k : Nat), k ≤ rows.length → ∀ p ∈ kn (rows.take k), p.1 < k ∧ rows[p.1]? = some p.2 ∧ 0 < p.2.i
  | rows, 0, _, p, hp => by simp [kn_nil] at hp
  | rows, k + 1, hk, p, hp => by
    obtain ⟨r, hr⟩ : ∃ r, rows[k]? = some r := ⟨_, List.getElem?_eq_getElem (by omega)⟩
    have ih := kn_in rows k (by omega)
    by_cases h1 : 0 < r.i
    · rw [kn_yes hr h1, List.mem_append] at hp
      rcases hp with hp | hp
      · obtain ⟨a, b, c⟩ := ih p hp; exact ⟨by omega, b, c⟩
      · obtain rfl : p = (k, r) := by simpa using hp
        exact ⟨by simp, hr, h1⟩
    · rw [kn_no hr h1] at hp
      obtain ⟨a, b, c⟩ := ih p hp; exact ⟨by omega, b, c⟩
theorem kn_mem {rows : List Rw} {p : Nat × Rw} (hp : p ∈ kn rows) : p.1 < rows.length ∧ rows[p.1]? = some p.2 ∧ 0 < p.2.i :=
  kn_in rows rows.length (Nat.le_refl _) p (by rwa [List.take_length])
theorem kn_pair : ∀ (rows : List Rw) (k : Nat), k ≤ rows.length → (kn (rows.take k)).Pairwise (fun p q => p.1 < q.1)
  | rows, 0, _ => by simp [kn_nil]
  | rows, k + 1, hk => by
    obtain ⟨r, hr⟩ : ∃ r, rows[k]? = some r := ⟨_, List.getElem?_eq_getElem (by omega)⟩
    have ih := kn_pair rows k (by omega)
    by_cases h1 : 0 < r.i
    · rw [kn_yes hr h1, List.pairwise_append]
      exact ⟨ih, by simp, fun a ha b hb => by
        obtain rfl : b = (k, r) := by simpa using hb
        exact (kn_in rows k (by omega) a ha).1⟩
    · rw [kn_no hr h1]; exact ih
theorem kn_rise {rows : List Rw} {i : Nat} {p q : Nat × Rw} (h1 : (kn rows)[i]? = some p) (h2 : (kn rows)[i + 1]? = some q) : p.1 < q.1 := by
  have := kn_pair rows rows.length (Nat.le_refl _)
  rw [List.take_length, List.pairwise_iff_getElem] at this
  obtain ⟨l1, e1⟩ := List.getElem?_eq_some_iff.1 h1
  obtain ⟨l2, e2⟩ := List.getElem?_eq_some_iff.1 h2
  have h3 := this i (i + 1) l1 l2 (by omega)
  rwa [e1, e2] at h3
theorem fm_hit {α β : Type} {f : α → Option β} {L : List α} {i : Nat} {p : α} {q : β} (h : L[i]? = some p) (hf : f p = some q) : (L.filterMap f)[((L.take i).filterMap f).length]? = some q := by
  obtain ⟨hl, e⟩ := List.getElem?_eq_some_iff.1 h
  have e2 : L = L.take i ++ p :: L.drop (i + 1) := by
    rw [← e, ← List.drop_eq_getElem_cons hl, List.take_append_drop]
  have e3 : L.filterMap f = (L.take i).filterMap f ++ q :: (L.drop (i + 1)).filterMap f := by
    conv => lhs; rw [e2, List.filterMap_append, List.filterMap_cons, hf]
  rw [e3, List.getElem?_append_right (Nat.le_refl _)]
  simp
def kc (rows rows' : List Rw) (i : Nat) : Nat := (((kn rows').take i).filterMap (oldF rows)).length
theorem kc_zero (rows rows' : List Rw) : kc rows rows' 0 = 0 := by simp [kc]
theorem kc_all {rows rows' : List Rw} (h : Grows rows rows') : kc rows rows' (marksL rows').length = (marksL rows).length := by
  unfold kc marksL
  rw [List.length_map, List.length_map, List.take_length, ← kn_old' h]
theorem kc_next {rows rows' : List Rw} {i : Nat} {p : Nat × Rw} (hp : (kn rows')[i]? = some p) : kc rows rows' (i + 1) = kc rows rows' i + (match oldF rows p with | some _ => 1 | none => 0) := by
  unfold kc
  rw [List.take_add_one, hp, Option.toList_some, List.filterMap_append, List.length_append]
  cases h : oldF rows p <;> simp [h]
theorem mark_at {rows : List Rw} {i : Nat} {m : Id} (h : (marksL rows)[i]? = some m) : ∃ p, (kn rows)[i]? = some p ∧ m = ⟨p.1, p.2.i, p.2.p⟩ := by
  unfold marksL at h
  rw [List.getElem?_map] at h
  cases e : (kn rows)[i]? with
  | none => rw [e] at h; cases h
  | some p => rw [e] at h; exact ⟨p, rfl, by simpa using h.symm⟩
theorem at_mark {rows : List Rw} {i : Nat} {p : Nat × Rw} (h : (kn rows)[i]? = some p) : (marksL rows)[i]? = some ⟨p.1, p.2.i, p.2.p⟩ := by
  unfold marksL; rw [List.getElem?_map, h]; rfl
/-- the mark of a node, and that one ahead of it, if there was one -/
theorem mark_step {rows rows' : List Rw} (h : Grows rows rows') {i : Nat} {m : Id} (hm : (marksL rows')[i]? = some m) :
    ∃ (a : Nat) (r : Rw), m = ⟨a, r.i, r.p⟩ ∧ a < rows'.length ∧ rows'[a]? = some r ∧ 0 < r.i ∧
      ((∃ o : Id, (marksL rows)[kc rows rows' i]? = some o ∧ o.n = a ∧ newerB o m = false ∧ (o ≠ m → newerB m o = true) ∧ kc rows rows' (i + 1) = kc rows rows' i + 1) ∨
       (kc rows rows' (i + 1) = kc rows rows' i ∧ ∀ o, (marksL rows)[kc rows rows' i]? = some o → o.n ≠ a)) := by
  obtain ⟨p, hp, rfl⟩ := mark_at hm
  obtain ⟨h1, h2, h3⟩ := kn_mem (List.mem_of_getElem? hp)
  refine ⟨p.1, p.2, rfl, h1, h2, h3, ?_⟩
  have hn := kc_next (rows := rows) hp
  cases ho : oldF rows p with
  | some q =>
    left
    rw [ho] at hn
    have hk := fm_hit hp ho
    rw [← kn_old' h] at hk
    unfold oldF at ho
    obtain ⟨r, hr⟩ : ∃ r, rows[p.1]? = some r := ⟨_, List.getElem?_eq_getElem (by have := h.1; omega)⟩
    rw [hr] at ho
    by_cases h0 : 0 < r.i
    · rw [show (match some r with | some r => if 0 < r.i then some (p.1, r) else none | none => none) = some (p.1, r) by simp [h0]] at ho
      obtain rfl := (Option.some.inj ho).symm
      obtain ⟨_, h5⟩ := h.2 p.1 r p.2 hr h2 h0
      refine ⟨_, at_mark hk, rfl, ?_, fun hne => ?_, hn⟩
      · simp only [newerB, decide_eq_false_iff_not]; omega
      · simp only [newerB, decide_eq_true_iff]
        refine ⟨trivial, ?_⟩
        rcases h5 with h5 | ⟨h5, h6⟩
        · exact .inl h5
        · refine .inr ⟨h5.symm, ?_⟩
          rcases Int.lt_or_eq_of_le h6 with h7 | h7
          · exact h7
          · exact absurd (by rw [h5, h7]) hne
    · simp [h0] at ho
  | none =>
    right
    rw [ho] at hn
    refine ⟨hn, fun o hq he => ?_⟩
    obtain ⟨q, hq2, rfl⟩ := mark_at hq
    obtain ⟨_, g2, g3⟩ := kn_mem (List.mem_of_getElem? hq2)
    have e : q.1 = p.1 := by have h9 : (q.1 : Int) = (p.1 : Int) := he; omega
    unfold oldF at ho
    rw [← e, g2] at ho
    simp [g3] at ho
theorem mark_rise {rows : List Rw} {i : Nat} {m o : Id} (h1 : (marksL rows)[i]? = some m) (h2 : (marksL rows)[i + 1]? = some o) : m.n < o.n := by
  obtain ⟨p, hp, rfl⟩ := mark_at h1
  obtain ⟨q, hq, rfl⟩ := mark_at h2
  have := kn_rise hp hq
  show (p.1 : Int) < (q.1 : Int)
  omega
theorem marks_grow {rows rows' : List Rw} (h : Grows rows rows') : (marksL rows).length ≤ (marksL rows').length := by
  unfold marksL
  rw [List.length_map, List.length_map, kn_old' h]
  exact List.length_filterMap_le _ _
theorem nrm_ge : ∀ (f : Nat) (p b : Int), p ≤ (nrm f p b).1
  | 0, p, b => by simp [nrm]
  | f + 1, p, b => by
    by_cases ho : b % 2 = 1
    · rw [nrm_one ho]; have := nrm_ge f (p + 1) (b / 2); omega
    · rw [nrm_end ho]; exact Int.le_refl _
def GoodR (r : Rw) : Prop := r.ok ∧ fitsR r.p r.b
theorem good_zero : GoodR ⟨0, 0, 0⟩ := ⟨⟨by simp, by simp, by simp⟩, fits_zero⟩
theorem good_fit {r : Rw} (h : GoodR r) (x : Id) : fitsR (lim r x).p (lim r x).b := by
  unfold lim; split
  · exact fits_zero
  · exact h.2
theorem good_take {r : Rw} {x : Id} {m : Int} (h : GoodR r) (hx : x.ok) (hm : mayB r x m = true) : GoodR (takeR r x) :=
  ⟨take_ok h.1 hx hm (good_fit h x), take_fits hx hm (good_fit h x)⟩
theorem take_mark {r : Rw} {x : Id} {m : Int} (h : GoodR r) (hx : x.ok) (hm : mayB r x m = true) : 0 < (takeR r x).i ∧ (r.i < (takeR r x).i ∨ r.i = (takeR r x).i ∧ r.p ≤ (takeR r x).p) := by
  simp only [mayB, decide_eq_true_iff] at hm
  obtain ⟨_, h1, _, h2, _⟩ := hm
  have h3 := hx.2.1.1
  have h4 := h.1.1.1
  by_cases hl : r.i < x.i
  · have : (takeR r x).i = x.i := by unfold takeR lim; rw [if_pos hl]
    rw [this]; exact ⟨by omega, .inl hl⟩
  · have e : lim r x = r := by unfold lim; rw [if_neg hl]
    have : (takeR r x).i = r.i := by unfold takeR; rw [e]
    rw [this]
    refine ⟨by omega, .inr ⟨rfl, ?_⟩⟩
    unfold takeR; rw [e]; exact nrm_ge _ _ _
theorem grows_refl (rows : List Rw) : Grows rows rows := ⟨rfl, fun k r r' h h' h0 => by
  obtain rfl := Option.some.inj (h.symm.trans h')
  exact ⟨h0, .inr ⟨rfl, Int.le_refl _⟩⟩⟩
theorem grows_set {rows : List Rw} {j : Nat} {r : Rw} {x : Id} {m : Int} (hg : ∀ r ∈ rows, GoodR r) (hj : rows[j]? = some r) (hx : x.ok) (hm : mayB r x m = true) : Grows rows (rows.set j (takeR r x)) := by
  refine ⟨by simp, fun k a b ha hb h0 => ?_⟩
  by_cases hk : j = k
  · subst hk
    obtain rfl := Option.some.inj (hj.symm.trans ha)
    have hl : j < rows.length := (List.getElem?_eq_some_iff.1 hj).1
    rw [List.getElem?_set_self hl] at hb
    obtain rfl := Option.some.inj hb
    exact take_mark (hg _ (List.mem_of_getElem? hj)) hx hm
  · rw [List.getElem?_set_ne hk] at hb
    obtain rfl := Option.some.inj (ha.symm.trans hb)
    exact ⟨h0, .inr ⟨rfl, Int.le_refl _⟩⟩
theorem good_set {rows : List Rw} {j : Nat} {r : Rw} (hg : ∀ r ∈ rows, GoodR r) (h : GoodR r) : ∀ y ∈ rows.set j r, GoodR y := fun y hy => by
  rcases List.mem_or_eq_of_mem_set hy with h1 | h1
  · exact hg y h1
  · rw [h1]; exact h
theorem marks_none (n : Nat) : marksL (List.replicate n ⟨0, 0, 0⟩) = [] := by
  cases h : marksL (List.replicate n (⟨0, 0, 0⟩ : Rw)) with
  | nil => rfl
  | cons m t =>
    have h0 : (marksL (List.replicate n (⟨0, 0, 0⟩ : Rw)))[0]? = some m := by rw [h]; rfl
    obtain ⟨p, hp, _⟩ := mark_at h0
    obtain ⟨_, h2, h3⟩ := kn_mem (List.mem_of_getElem? hp)
    have := List.eq_of_mem_replicate (List.mem_of_getElem? h2)
    rw [this] at h3
    simp at h3
theorem lacks_low {rows : List Rw} {a : Nat} {r : Rw} {m : Int} (h : rows[a]? = some r) (hp : 0 < r.p) : lacksL [⟨a, r.i, r.p⟩, ⟨a, r.i, 1⟩] rows m = [] := by
  refine dd_none _ fun x hx => ?_
  simp only [List.mem_cons, List.not_mem_nil, or_false] at hx
  have e : ∀ s, s ≤ r.p → lackOk rows m ⟨a, r.i, s⟩ = false := fun s hs => by
    unfold lackOk
    simp only [Int.toNat_natCast, h]
    exact may_low hs
  rcases hx with rfl | rfl
  · exact e _ (Int.le_refl _)
  · exact e _ (by omega)
end Go.Proofs.Ythockpallaoelaa
