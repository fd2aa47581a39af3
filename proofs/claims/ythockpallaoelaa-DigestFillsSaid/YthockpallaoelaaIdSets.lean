/-
  Ids put one by one: the plain laws.
-/
import Derived.Test.YthockpallaoelaaIdDrop
import Derived.Test.YthockpallaoelaaIdPut
namespace Go.Proofs.Ythockpallaoelaa

abbrev Rise (l : List Id) : Prop := l.Pairwise fun x y => lessB x y = true
theorem rising_pw : ∀ l : List Id, risingB l = true ↔ Rise l
  | [] => by simp [risingB]
  | [x] => by simp [risingB]
  | x :: y :: t => by
    have ih := rising_pw (y :: t)
    rw [show risingB (x :: y :: t) = (lessB x y && risingB (y :: t)) from rfl, Bool.and_eq_true, ih]
    constructor
    · rintro ⟨h1, h2⟩
      refine List.pairwise_cons.2 ⟨fun z hz => ?_, h2⟩
      rcases List.mem_cons.1 hz with rfl | hz
      · exact h1
      · exact less_trans h1 ((List.pairwise_cons.1 h2).1 z hz)
    · intro h
      obtain ⟨h1, h2⟩ := List.pairwise_cons.1 h
      exact ⟨h1 y (by simp), h2⟩
theorem eq_of_mem : ∀ {l1 l2 : List Id}, Rise l1 → Rise l2 → (∀ y, y ∈ l1 ↔ y ∈ l2) → l1 = l2
  | [], [], _, _, _ => rfl
  | [], y :: t, _, _, h => absurd ((h y).2 (by simp)) (by simp)
  | x :: t, [], _, _, h => absurd ((h x).1 (by simp)) (by simp)
  | x :: s, y :: t, h1, h2, h => by
    obtain ⟨a1, a2⟩ := List.pairwise_cons.1 h1
    obtain ⟨b1, b2⟩ := List.pairwise_cons.1 h2
    have e : x = y := by
      rcases List.mem_cons.1 ((h x).1 (by simp)) with e | hx
      · exact e
      · rcases List.mem_cons.1 ((h y).2 (by simp)) with e | hy
        · exact e.symm
        · have c1 := b1 x hx
          have c2 := a1 y hy
          rw [less_asym c1] at c2
          cases c2
    subst e
    congr 1
    refine eq_of_mem a2 b2 fun z => ⟨fun hz => ?_, fun hz => ?_⟩
    · rcases List.mem_cons.1 ((h z).1 (List.mem_cons_of_mem _ hz)) with e | h3
      · have := a1 z hz
        rw [e, less_irr] at this; cases this
      · exact h3
    · rcases List.mem_cons.1 ((h z).2 (List.mem_cons_of_mem _ hz)) with e | h3
      · have := b1 z hz
        rw [e, less_irr] at this; cases this
      · exact h3
theorem has_mem {l : List Id} {x : Id} : hasB l x = true ↔ x ∈ l := by
  simp only [hasB, List.any_eq_true, decide_eq_true_iff]
  exact ⟨fun ⟨y, h, e⟩ => e ▸ h, fun h => ⟨x, h, rfl⟩⟩
theorem has_not {l : List Id} {x : Id} : hasB l x = false ↔ x ∉ l := by
  rw [← has_mem]; simp
def insL (x : Id) : List Id → List Id
  | [] => [x]
  | y :: t => if lessB x y = true then x :: y :: t else y :: insL x t
theorem ins_at (x : Id) : ∀ l : List Id, l.take (putAt l x) ++ x :: l.drop (putAt l x) = insL x l
  | [] => by simp [insL]
  | y :: t => by
    have ih := ins_at x t
    by_cases h : lessB x y = true
    · have : putAt (y :: t) x = 0 := by simp [putAt, List.findIdx?_cons, h]
      rw [this]; simp [insL, h]
    · have : putAt (y :: t) x = putAt t x + 1 := by
        unfold putAt
        rw [List.findIdx?_cons, if_neg h]
        rcases t.findIdx? (fun y => lessB x y) with _ | k <;> simp
      rw [this]
      simp [insL, h, ih]
theorem mem_ins (x z : Id) : ∀ l : List Id, z ∈ insL x l ↔ z = x ∨ z ∈ l
  | [] => by simp [insL]
  | y :: t => by
    by_cases h : lessB x y = true
    · simp [insL, h]
    · simp only [insL, h, Bool.false_eq_true, if_false, List.mem_cons, mem_ins x z t]
      exact ⟨fun h => h.elim (fun h => .inr (.inl h)) (fun h => h.elim .inl (fun h => .inr (.inr h))), fun h => h.elim (fun h => .inr (.inl h)) (fun h => h.elim .inl (fun h => .inr (.inr h)))⟩
theorem ins_rise (x : Id) : ∀ l : List Id, Rise l → x ∉ l → Rise (insL x l)
  | [], _, _ => by simp [insL]
  | y :: t, h, hx => by
    obtain ⟨a1, a2⟩ := List.pairwise_cons.1 h
    by_cases hl : lessB x y = true
    · simp only [insL, hl, if_true]
      exact List.pairwise_cons.2 ⟨fun z hz => (List.mem_cons.1 hz).elim (fun e => e ▸ hl) (fun hz => less_trans hl (a1 z hz)), h⟩
    · simp only [insL, hl, Bool.false_eq_true, if_false]
      refine List.pairwise_cons.2 ⟨fun z hz => ?_, ins_rise x t a2 (fun h => hx (List.mem_cons_of_mem _ h))⟩
      rcases (mem_ins x z t).1 hz with rfl | hz
      · rcases less_tri z y with e | e | e
        · exact absurd (by rw [e]; simp) hx
        · exact absurd e hl
        · exact e
      · exact a1 z hz
theorem put_eq (l : List Id) (x : Id) : putL l x = if hasB l x then l else insL x l := by
  unfold putL; split
  · rfl
  · exact ins_at x l
theorem put_rise {l : List Id} (h : Rise l) (x : Id) : Rise (putL l x) := by
  rw [put_eq]; split
  · exact h
  · rename_i hh
    exact ins_rise x l h (has_not.1 (by simpa using hh))
theorem mem_put {l : List Id} {x z : Id} : z ∈ putL l x ↔ z = x ∨ z ∈ l := by
  rw [put_eq]; split
  · rename_i hh
    have := has_mem.1 hh
    exact ⟨.inr, fun h => h.elim (fun e => e ▸ this) id⟩
  · exact mem_ins x z l
theorem mem_drop {l : List Id} {x z : Id} : z ∈ dropL l x ↔ z ∈ l ∧ z ≠ x := by simp [dropL]
theorem drop_rise {l : List Id} (h : Rise l) (x : Id) : Rise (dropL l x) := List.Pairwise.filter _ h
def madeL (l : List Id) : List Id := l.foldl putL []
theorem made_snoc (l : List Id) (x : Id) : madeL (l ++ [x]) = putL (madeL l) x := by simp [madeL]
theorem foldl_rise : ∀ (l : List Id) {a : List Id}, Rise a → Rise (l.foldl putL a)
  | [], _, h => h
  | x :: t, _, h => foldl_rise t (put_rise h x)
theorem foldl_mem : ∀ (l : List Id) {a : List Id} {z : Id}, z ∈ l.foldl putL a ↔ z ∈ a ∨ z ∈ l
  | [], _, _ => by simp
  | x :: t, a, z => by
    rw [List.foldl_cons, foldl_mem t, mem_put, List.mem_cons]
    exact ⟨fun h => h.elim (fun h => h.elim (fun e => .inr (.inl e)) .inl) (fun h => .inr (.inr h)), fun h => h.elim (fun h => .inl (.inr h)) (fun h => h.elim (fun e => .inl (.inl e)) .inr)⟩
theorem foldl_len : ∀ (l : List Id) (a : List Id), (l.foldl putL a).length ≤ a.length + l.length
  | [], _ => by simp
  | x :: t, a => by
    have h1 := foldl_len t (putL a x)
    have h2 := putL_len a x
    simp only [List.foldl_cons, List.length_cons]
    omega
theorem made_len (l : List Id) : (madeL l).length ≤ l.length := by have := foldl_len l []; simpa [madeL] using this
theorem made_rise (l : List Id) : Rise (madeL l) := foldl_rise l List.Pairwise.nil
theorem mem_made {l : List Id} {z : Id} : z ∈ madeL l ↔ z ∈ l := by simp [madeL, foldl_mem]
theorem made_turn (l : List Id) (k : Nat) : madeL (l.drop k ++ l.take k) = madeL l :=
  eq_of_mem (made_rise _) (made_rise _) fun y => by
    rw [mem_made, mem_made, List.mem_append]
    conv => rhs; rw [← List.take_append_drop k l, List.mem_append]
    exact Or.comm
theorem put_put (l : List Id) (x : Id) : putL (putL l x) x = putL l x := by
  rw [put_eq (putL l x), if_pos (has_mem.2 (mem_put.2 (.inl rfl)))]
theorem drop_drop' (l : List Id) (x : Id) : dropL (dropL l x) x = dropL l x := by simp [dropL]
theorem drop_put {l : List Id} (h : Rise l) (x : Id) : dropL (putL l x) x = dropL l x :=
  eq_of_mem (drop_rise (put_rise h x) x) (drop_rise h x) fun y => by
    rw [mem_drop, mem_drop, mem_put]
    exact ⟨fun ⟨h1, h2⟩ => ⟨h1.elim (fun e => absurd e h2) id, h2⟩, fun ⟨h1, h2⟩ => ⟨.inr h1, h2⟩⟩
end Go.Proofs.Ythockpallaoelaa
