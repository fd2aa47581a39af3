/-
  Tables: what Merge, Tick and Up make of them; plain (14).
-/
import Derived.Test.YtgkdljfhmflmjaaChanged
namespace Go.Proofs.Ytgkdljfhmflmjaa
section
variable {α : Type} {M l : List α} {k : Nat}
/-- the first k are new, the others old -/
def mix (M l : List α) (k : Nat) : List α := M.take k ++ l.drop k
theorem mix_zero : mix M l 0 = l := by simp [mix]
theorem mix_len (h : M.length = l.length) (hk : k ≤ l.length) : (mix M l k).length = l.length := by unfold mix; simp; omega
theorem mix_at (h : M.length = l.length) (hk : k < l.length) : (mix M l k)[k]? = l[k]? := by
  unfold mix
  rw [List.getElem?_append_right (by simp; omega)]
  have e : k - (M.take k).length = 0 := by simp; omega
  rw [e]
  simp
theorem mix_set (h : M.length = l.length) {y : α} (hy : M[k]? = some y) : (mix M l k).set k y = mix M l (k + 1) := by
  have hk : k < M.length := (List.getElem?_eq_some_iff.1 hy).1
  unfold mix
  rw [List.set_append_right _ _ (by simp; omega)]
  have e : k - (M.take k).length = 0 := by simp; omega
  rw [e, List.take_add_one, hy, Option.toList_some, List.append_assoc]
  congr 1
  have hd : l.drop k = l[k]'(by omega) :: l.drop (k + 1) := List.drop_eq_getElem_cons (by omega)
  rw [hd]
  rfl
theorem mix_same (h : M.length = l.length) (he : M[k]? = l[k]?) : mix M l (k + 1) = mix M l k := by
  by_cases hk : k < l.length
  · obtain ⟨y, hy⟩ : ∃ y, M[k]? = some y := ⟨_, List.getElem?_eq_getElem (by omega)⟩
    rw [← mix_set h hy]
    have h2 := mix_at h hk
    rw [← he, hy] at h2
    apply List.ext_getElem?
    intro j
    rw [List.getElem?_set]
    split
    · rename_i hj; subst hj; rw [h2]; split
      · rfl
      · rename_i hn; exact absurd (List.getElem?_eq_some_iff.1 h2).1 hn
    · rfl
  · unfold mix
    rw [List.take_of_length_le (by omega), List.take_of_length_le (by omega), List.drop_eq_nil_of_le (by omega), List.drop_eq_nil_of_le (by omega)]
theorem mix_end (h : M.length = l.length) (he : ∀ j, k ≤ j → M[j]? = l[j]?) : mix M l k = M := by
  apply List.ext_getElem?
  intro j
  unfold mix
  by_cases hj : j < k
  · by_cases hjm : j < M.length
    · rw [List.getElem?_append_left (by simp; omega), List.getElem?_take, if_pos hj]
    · rw [List.getElem?_eq_none (by simp; omega), List.getElem?_eq_none (by omega)]
  · by_cases hk : k ≤ M.length
    · rw [List.getElem?_append_right (by simp; omega), List.getElem?_drop, he j (by omega)]
      congr 1
      simp; omega
    · rw [List.getElem?_eq_none (by simp; omega), List.getElem?_eq_none (by omega)]
end
def mrg1 (o : List Mb) (self : Int) (j : Nat) (x : Mb) : Mb := match o[j]? with | some y => if (j : Int) ≠ self ∧ newerM y x = true then ⟨y.i, y.s, 0⟩ else x | none => x
def mergeL (l o : List Mb) (self : Int) : List Mb := l.mapIdx (mrg1 o self)
theorem merge_len (l o : List Mb) (self : Int) : (mergeL l o self).length = l.length := by simp [mergeL]
theorem merge_at {l o : List Mb} {self : Int} {j : Nat} {x : Mb} (h : l[j]? = some x) : (mergeL l o self)[j]? = some (mrg1 o self j x) := by unfold mergeL; rw [List.getElem?_mapIdx, h]; rfl
theorem merge_far {l o : List Mb} {self : Int} {j : Nat} (h : o.length ≤ j) : (mergeL l o self)[j]? = l[j]? := by
  unfold mergeL
  rw [List.getElem?_mapIdx]
  rcases l[j]? with _ | x
  · rfl
  · show some (mrg1 o self j x) = _
    unfold mrg1; rw [List.getElem?_eq_none h]
def q1 (q : Int) : Int := if q < 255 then q + 1 else q
def goneB (self after : Int) (j : Nat) (x : Mb) : Bool := decide ((j : Int) ≠ self ∧ x.s = 1 ∧ after ≤ q1 x.q)
def tick1 (self after : Int) (j : Nat) (x : Mb) : Mb := if (j : Int) = self ∨ upB x = false then x else if goneB self after j x then ⟨x.i, 2, q1 x.q⟩ else ⟨x.i, x.s, q1 x.q⟩
def tickL (l : List Mb) (self after : Int) : List Mb := l.mapIdx (tick1 self after)
theorem tick_len (l : List Mb) (self after : Int) : (tickL l self after).length = l.length := by simp [tickL]
theorem tick_at {l : List Mb} {self after : Int} {j : Nat} {x : Mb} (h : l[j]? = some x) : (tickL l self after)[j]? = some (tick1 self after j x) := by unfold tickL; rw [List.getElem?_mapIdx, h]; rfl
/-- those places among the first k where p holds -/
def plc (p : Nat → Mb → Bool) (l : List Mb) : Nat → List Int
  | 0 => []
  | k + 1 => plc p l k ++ (match l[k]? with | some x => if p k x then [(k : Int)] else [] | none => [])
theorem plc_yes {p : Nat → Mb → Bool} {l : List Mb} {k : Nat} {x : Mb} (h : l[k]? = some x) (hp : p k x = true) : plc p l (k + 1) = plc p l k ++ [(k : Int)] := by simp [plc, h, hp]
theorem plc_no {p : Nat → Mb → Bool} {l : List Mb} {k : Nat} {x : Mb} (h : l[k]? = some x) (hp : p k x = false) : plc p l (k + 1) = plc p l k := by simp [plc, h, hp]
theorem plc_len (p : Nat → Mb → Bool) (l : List Mb) : ∀ k, (plc p l k).length ≤ k
  | 0 => by simp [plc]
  | k + 1 => by
    have := plc_len p l k
    simp only [plc, List.length_append]
    split
    · split <;> simp <;> omega
    · simp; omega
theorem plc_in (p : Nat → Mb → Bool) (l : List Mb) : ∀ k, ∀ x ∈ plc p l k, 0 ≤ x ∧ x < k
  | 0, x, h => by simp [plc] at h
  | k + 1, x, h => by
    simp only [plc, List.mem_append] at h
    rcases h with h | h
    · have := plc_in p l k x h; omega
    · split at h
      · split at h
        · simp at h; omega
        · simp at h
      · simp at h
def goneL (l : List Mb) (self after : Int) : List Int := plc (goneB self after) l l.length
def upL (l : List Mb) : List Int := plc (fun _ x => upB x) l l.length
end Go.Proofs.Ytgkdljfhmflmjaa
