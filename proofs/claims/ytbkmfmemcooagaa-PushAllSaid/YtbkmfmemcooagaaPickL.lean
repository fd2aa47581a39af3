/-
  Picks: plain lists.
-/
import Derived.Test.YtbkmfmemcooagaaBase
namespace Go.Proofs.Ytbkmfmemcooagaa

/-- at most n picks out of l, by the draws ds, one behind another -/
def pickL : Nat → List Int → List Int → List Int
  | 0, _, _ => []
  | n + 1, l, ds => if l = [] then [] else l.getD ((ds.headD 0).toNat % l.length) 0 :: pickL n (l.eraseIdx ((ds.headD 0).toNat % l.length)) ds.tail

theorem pickL_nil (n : Nat) (ds : List Int) : pickL n [] ds = [] := by cases n <;> simp [pickL]
theorem pickL_cons {l : List Int} (h : 0 < l.length) (n : Nat) (ds : List Int) : pickL (n + 1) l ds = l.getD ((ds.headD 0).toNat % l.length) 0 :: pickL n (l.eraseIdx ((ds.headD 0).toNat % l.length)) ds.tail := by
  rw [pickL, if_neg (by intro e; rw [e] at h; simp at h)]
theorem erase_len {l : List Int} {at_ : Nat} (h : at_ < l.length) : (l.eraseIdx at_).length = l.length - 1 := by rw [List.length_eraseIdx]; simp [h]
theorem pickL_len (n : Nat) : ∀ (l ds : List Int), (pickL n l ds).length = min n l.length := by
  induction n with
  | zero => intro l ds; simp [pickL]
  | succ n ih =>
    intro l ds
    rcases Nat.eq_zero_or_pos l.length with h | h
    · rw [List.length_eq_zero_iff.1 h, pickL_nil]; simp
    · rw [pickL_cons h, List.length_cons, ih, erase_len (Nat.mod_lt _ h)]; omega
theorem pickL_take (n : Nat) : ∀ (m : Nat) (l ds : List Int), n ≤ m → pickL n l ds = (pickL m l ds).take n := by
  induction n with
  | zero => intro m l ds _; simp [pickL]
  | succ n ih =>
    intro m l ds hm
    obtain ⟨m, rfl⟩ : ∃ k, m = k + 1 := ⟨m - 1, by omega⟩
    rcases Nat.eq_zero_or_pos l.length with h | h
    · rw [List.length_eq_zero_iff.1 h, pickL_nil, pickL_nil]; simp
    · rw [pickL_cons h, pickL_cons h, List.take_succ_cons, ih m _ _ (by omega)]
theorem pickL_more {n : Nat} {l ds : List Int} (h : l.length ≤ n) : pickL n l ds = pickL l.length l ds := by
  rw [pickL_take l.length n l ds h, List.take_of_length_le]
  rw [pickL_len]; omega
theorem perm_erase : ∀ {l : List Int} {k : Nat}, k < l.length → List.Perm (l.getD k 0 :: l.eraseIdx k) l
  | [], _, h => by simp at h
  | x :: l, 0, _ => by simp
  | x :: l, k + 1, h => by
    have ih := perm_erase (l := l) (k := k) (by simpa using h)
    simp only [List.getD_cons_succ, List.eraseIdx_cons_succ]
    exact (List.Perm.swap _ _ _).trans (ih.cons x)
theorem pickL_perm (n : Nat) : ∀ (l ds : List Int), l.length ≤ n → List.Perm (pickL n l ds) l := by
  induction n with
  | zero => intro l ds h; rw [List.length_eq_zero_iff.1 (show l.length = 0 by omega)]; simp [pickL]
  | succ n ih =>
    intro l ds h
    rcases Nat.eq_zero_or_pos l.length with h0 | h0
    · rw [List.length_eq_zero_iff.1 h0, pickL_nil]
    · rw [pickL_cons h0]
      have hm := Nat.mod_lt (ds.headD 0).toNat h0
      exact ((ih _ ds.tail (by rw [erase_len hm]; omega)).cons _).trans (perm_erase hm)
/-- each is picked no more often than it stands there -/
theorem pickL_count (n : Nat) (l ds : List Int) (x : Int) : (pickL n l ds).count x ≤ l.count x := by
  rw [pickL_take n (max n l.length) l ds (by omega), ← (pickL_perm (max n l.length) l ds (by omega)).count_eq x]
  exact (List.take_sublist _ _).count_le x
theorem pickL_same (n : Nat) : ∀ (l ds es : List Int), (∀ k, k < n → k < l.length → (ds.getD k 0).toNat % (l.length - k) = (es.getD k 0).toNat % (l.length - k)) → pickL n l ds = pickL n l es := by
  induction n with
  | zero => intro l ds es _; simp [pickL]
  | succ n ih =>
    intro l ds es h
    rcases Nat.eq_zero_or_pos l.length with h0 | h0
    · rw [List.length_eq_zero_iff.1 h0, pickL_nil, pickL_nil]
    · have e0 : (ds.headD 0).toNat % l.length = (es.headD 0).toNat % l.length := by
        have := h 0 (by omega) h0
        rw [Nat.sub_zero] at this
        cases ds <;> cases es <;> first | exact this | simpa using this
      rw [pickL_cons h0, pickL_cons h0, e0]
      congr 1
      have hm := Nat.mod_lt (es.headD 0).toNat h0
      refine ih _ _ _ fun k hk hk2 => ?_
      rw [erase_len hm] at hk2 ⊢
      have := h (k + 1) (by omega) (by omega)
      rw [show l.length - (k + 1) = l.length - 1 - k by omega] at this
      cases ds <;> cases es <;> first | exact this | simpa using this
theorem pickL_zero (n : Nat) : ∀ (l : List Int), pickL n l [] = l.take n := by
  induction n with
  | zero => intro l; simp [pickL]
  | succ n ih =>
    intro l
    cases l with
    | nil => rw [pickL_nil]; simp
    | cons x l =>
      rw [pickL_cons (by simp)]
      simp [ih]
theorem pickL_first {l : List Int} {k : Int} (h0 : 0 ≤ k) (h : k < l.length) : pickL l.length l [k] = l.getD k.toNat 0 :: l.eraseIdx k.toNat := by
  obtain ⟨m, hm⟩ : ∃ m, l.length = m + 1 := ⟨l.length - 1, by omega⟩
  rw [hm, pickL_cons (by omega)]
  have e : ([k].headD 0).toNat % l.length = k.toNat := Nat.mod_eq_of_lt (by simp; omega)
  rw [e]
  congr 1
  show pickL m _ [] = _
  rw [pickL_zero, List.take_of_length_le]
  rw [erase_len (by omega)]; omega
/-- a round of the loop -/
theorem pick_step {F k : Nat} {l left acc ds : List Int} (h : acc ++ pickL (F - k) left (ds.drop k) = pickL F l ds) (hk : k < F) (hl : 0 < left.length) :
    (acc ++ [left.getD ((ds.getD k 0).toNat % left.length) 0]) ++ pickL (F - (k + 1)) (left.eraseIdx ((ds.getD k 0).toNat % left.length)) (ds.drop (k + 1)) = pickL F l ds := by
  rw [← h, show F - k = F - (k + 1) + 1 by omega, pickL_cons hl]
  have e1 : (ds.drop k).headD 0 = ds.getD k 0 := by
    rw [List.headD_eq_head?_getD, List.head?_drop, List.getD_eq_getElem?_getD]
  have e2 : (ds.drop k).tail = ds.drop (k + 1) := by rw [List.tail_drop]
  rw [e1, e2, List.append_assoc]
  rfl
end Go.Proofs.Ytbkmfmemcooagaa
