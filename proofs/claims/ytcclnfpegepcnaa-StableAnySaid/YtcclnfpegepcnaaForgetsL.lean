/-
  Plain laws for StableForgets (19): who is forgotten, and told anew.
-/
import Derived.Test.YtcclnfpegepcnaaTold
namespace Go.Proofs.Ytcclnfpegepcnaa
open Go.RowKit
theorem forget_len (t : List (List Id)) (m : Nat) : (forgetL t m).length = t.length := by unfold forgetL; split <;> simp
theorem forget_report_same {t : List (List Id)} {m : Nat} {ms : List Id} : forgetL (reportL t m ms) m = forgetL t m := by
  unfold forgetL
  rw [reportL_len]
  split
  · unfold reportL
    split
    · rw [List.set_set]
    · rfl
  · rename_i h
    exact rep_same (by omega)
theorem forget_report_other {t : List (List Id)} {m k : Nat} {ms : List Id} (hne : ¬k = m) : forgetL (reportL t k ms) m = reportL (forgetL t m) k ms := by
  unfold forgetL
  rw [reportL_len]
  split
  · unfold reportL
    have e : (t.set m (blank t.length))[k]? = t[k]? := List.getElem?_set_ne (fun h => hne h.symm)
    rw [e]
    cases hk : t[k]? with
    | none => rfl
    | some row => exact List.set_comm _ _ hne
  · rfl
theorem forget_new (n m : Nat) : forgetL (List.replicate n (blank n)) m = List.replicate n (blank n) := by
  unfold forgetL
  split
  · rename_i h
    simp only [List.length_replicate] at h ⊢
    exact set_same (by rw [List.getElem?_replicate, if_pos h])
  · rfl
theorem toldL_snoc (n : Nat) (l : List TdV) (x : TdV) : toldL n (l ++ [x]) = reportL (toldL n l) x.m.toNat x.l := by
  unfold toldL; rw [List.foldl_append]; rfl
theorem snoc_ind' {α : Type} {P : List α → Prop} (h0 : P []) (h1 : ∀ l x, P l → P (l ++ [x])) : ∀ l, P l := fun l => by
  rw [← List.reverse_reverse l]
  generalize l.reverse = r
  induction r with
  | nil => exact h0
  | cons x r ih => rw [List.reverse_cons]; exact h1 _ _ ih
theorem forget_told (n m : Nat) (l : List TdV) : forgetL (toldL n l) m = toldL n (l.filter fun x => decide (¬x.m.toNat = m)) := by
  refine snoc_ind' (P := fun l => forgetL (toldL n l) m = toldL n (l.filter fun x => decide (¬x.m.toNat = m))) ?_ ?_ l
  · exact forget_new n m
  · intro l x ih
    rw [toldL_snoc, List.filter_append]
    by_cases h : x.m.toNat = m
    · have e : [x].filter (fun x => decide (¬x.m.toNat = m)) = [] := by simp [h]
      rw [e, List.append_nil, ← ih]
      subst h
      exact forget_report_same
    · have e : [x].filter (fun x => decide (¬x.m.toNat = m)) = [x] := by simp [h]
      rw [e, toldL_snoc, ← ih]
      exact forget_report_other h
theorem of_forget {t : List (List Id)} {m i k : Nat} : ofL (forgetL t m) i k = if i = m then (if m < t.length then ofL [blank t.length] 0 k else ofL t i k) else ofL t i k := by
  unfold forgetL
  split
  · rename_i h
    by_cases hi : i = m
    · subst hi
      rw [if_pos rfl]
      unfold ofL
      rw [List.getElem?_set_self h]
      rfl
    · rw [if_neg hi]
      unfold ofL
      rw [List.getElem?_set_ne (fun h => hi h.symm)]
  · split <;> rfl
theorem of_blank1 (n k : Nat) : ofL [blank n] 0 k = ⟨(k : Int), 0, 0⟩ := by
  by_cases h : k < n
  · exact of_at (row := blank n) rfl (blank_at h)
  · exact of_short (row := blank n) rfl (by rw [blank_len]; omega)
end Go.Proofs.Ytcclnfpegepcnaa
