/-
  A list's elements that may, each once, in their order: plain.
-/
import Derived.Test.YthockpallaoelaaBase
namespace Go.Proofs.Ythockpallaoelaa
theorem snoc_ind {α : Type} {P : List α → Prop} (h0 : P []) (h1 : ∀ l x, P l → P (l ++ [x])) : ∀ l, P l := fun l => by
  rw [← List.reverse_reverse l]
  generalize l.reverse = r
  induction r with
  | nil => exact h0
  | cons x r ih => rw [List.reverse_cons]; exact h1 _ _ ih
section
variable {α : Type} [DecidableEq α]
/-- each that may, once, in this order -/
def ddStep (p : α → Bool) (acc : List α) (x : α) : List α := if p x && !decide (x ∈ acc) then acc ++ [x] else acc
def dd (p : α → Bool) (l : List α) : List α := l.foldl (ddStep p) []
variable {p : α → Bool}
theorem dd_nil : dd p [] = [] := rfl
theorem dd_snoc (l : List α) (x : α) : dd p (l ++ [x]) = ddStep p (dd p l) x := by simp [dd, List.foldl_append]
theorem dd_take (l : List α) (k : Nat) (x : α) (h : l[k]? = some x) : dd p (l.take (k + 1)) = ddStep p (dd p (l.take k)) x := by
  rw [List.take_add_one, h, Option.toList_some, dd_snoc]
theorem ddStep_no {acc : List α} {x : α} (h : p x = false) : ddStep p acc x = acc := by simp [ddStep, h]
theorem ddStep_old {acc : List α} {x : α} (h : decide (x ∈ acc) = true) : ddStep p acc x = acc := by simp only [ddStep, h]; simp
theorem ddStep_new {acc : List α} {x : α} (h : p x = true) (h2 : decide (x ∈ acc) = false) : ddStep p acc x = acc ++ [x] := by simp only [ddStep, h, h2]; simp
theorem mem_step {acc : List α} {x y : α} : y ∈ ddStep p acc x ↔ y ∈ acc ∨ (y = x ∧ p x = true) := by
  unfold ddStep
  by_cases h : p x = true <;> by_cases h2 : x ∈ acc <;> simp [h, h2]
  rintro rfl; exact h2
theorem mem_dd (l : List α) (y : α) : y ∈ dd p l ↔ y ∈ l ∧ p y = true := by
  refine snoc_ind (P := fun l => y ∈ dd p l ↔ y ∈ l ∧ p y = true) (by simp [dd]) (fun l x ih => ?_) l
  rw [dd_snoc, mem_step, ih, List.mem_append, List.mem_singleton]
  constructor
  · rintro (⟨h1, h2⟩ | ⟨rfl, h⟩)
    · exact ⟨.inl h1, h2⟩
    · exact ⟨.inr rfl, h⟩
  · rintro ⟨h1 | rfl, h2⟩
    · exact .inl ⟨h1, h2⟩
    · exact .inr ⟨rfl, h2⟩
theorem nodup_dd (l : List α) : (dd p l).Nodup := by
  refine snoc_ind (P := fun l => (dd p l).Nodup) (by simp [dd]) (fun l x ih => ?_) l
  rw [dd_snoc]
  unfold ddStep
  split
  · rename_i h
    rw [List.nodup_append]
    refine ⟨ih, by simp, ?_⟩
    rintro a ha b hb rfl
    simp at hb h
    subst hb
    exact h.2 ha
  · exact ih
theorem dd_len (l : List α) : (dd p l).length ≤ l.length := by
  refine snoc_ind (P := fun l => (dd p l).length ≤ l.length) (by simp [dd]) (fun l x ih => ?_) l
  rw [dd_snoc]
  unfold ddStep
  split <;> simp <;> omega
theorem dd_none (l : List α) (h : ∀ x ∈ l, p x = false) : dd p l = [] := by
  rcases hd : dd p l with _ | ⟨y, r⟩
  · rfl
  · have : y ∈ dd p l := by rw [hd]; simp
    rw [mem_dd] at this
    rw [h y this.1] at this
    cases this.2
end
end Go.Proofs.Ythockpallaoelaa
