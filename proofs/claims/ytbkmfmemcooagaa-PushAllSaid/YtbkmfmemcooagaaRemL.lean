/-
  What is left of a list, by marks of what is gone: plain lists.
-/
import Derived.Test.YtbkmfmemcooagaaPickL
namespace Go.Proofs.Ytbkmfmemcooagaa

def rem : List Int → List Bool → List Int
  | x :: l, g :: gs => if g then rem l gs else x :: rem l gs
  | _, _ => []
theorem rem_none : ∀ l : List Int, rem l (List.replicate l.length false) = l
  | [] => rfl
  | x :: l => by simp [rem, List.replicate_succ, rem_none l]
theorem rem_app : ∀ (a : List Int) (g : List Bool) (b : List Int) (h : List Bool), a.length = g.length → rem (a ++ b) (g ++ h) = rem a g ++ rem b h
  | [], [], _, _, _ => rfl
  | x :: a, y :: g, b, h, e => by
    cases y <;> simp [rem, rem_app a g b h (by simpa using e)]
  | [], _ :: _, _, _, e => by simp at e
  | _ :: _, [], _, _, e => by simp at e
theorem rem_one (x : Int) (g : Bool) (l : List Int) (gs : List Bool) : rem (x :: l) (g :: gs) = (if g then [] else [x]) ++ rem l gs := by cases g <;> simp [rem]
theorem rem_split {l : List Int} {g : List Bool} (hl : g.length = l.length) {i : Nat} {x : Int} {y : Bool} (hx : l[i]? = some x) (hy : g[i]? = some y) :
    rem l g = rem (l.take i) (g.take i) ++ ((if y then [] else [x]) ++ rem (l.drop (i + 1)) (g.drop (i + 1))) := by
  obtain ⟨h1, rfl⟩ := List.getElem?_eq_some_iff.1 hx
  obtain ⟨h2, rfl⟩ := List.getElem?_eq_some_iff.1 hy
  have e1 : l = l.take i ++ l[i] :: l.drop (i + 1) := by rw [← List.drop_eq_getElem_cons h1, List.take_append_drop]
  have e2 : g = g.take i ++ g[i] :: g.drop (i + 1) := by rw [← List.drop_eq_getElem_cons h2, List.take_append_drop]
  rw [← rem_one, ← rem_app _ _ _ _ (by simp; omega), ← e1, ← e2]
theorem rem_take {l : List Int} {g : List Bool} (hl : g.length = l.length) {i : Nat} {x : Int} {y : Bool} (hx : l[i]? = some x) (hy : g[i]? = some y) :
    rem (l.take (i + 1)) (g.take (i + 1)) = rem (l.take i) (g.take i) ++ (if y then [] else [x]) := by
  obtain ⟨h1, rfl⟩ := List.getElem?_eq_some_iff.1 hx
  obtain ⟨h2, rfl⟩ := List.getElem?_eq_some_iff.1 hy
  rw [List.take_succ_eq_append_getElem h1, List.take_succ_eq_append_getElem h2, rem_app _ _ _ _ (by simp; omega)]
  cases g[i] <;> simp [rem]
theorem rem_hit {l : List Int} {g : List Bool} (hl : g.length = l.length) {i : Nat} {x : Int} (hx : l[i]? = some x) (hy : g[i]? = some false) :
    (rem l g).getD (rem (l.take i) (g.take i)).length 0 = x ∧ (rem l g).eraseIdx (rem (l.take i) (g.take i)).length = rem l (g.set i true) := by
  have h2 := (List.getElem?_eq_some_iff.1 hy).1
  have e := rem_split hl hx hy
  have e' := rem_split (g := g.set i true) (by simpa using hl) hx (by rw [List.getElem?_set_self h2])
  rw [List.take_set_of_le (Nat.le_refl _), List.drop_set_of_lt (by omega)] at e'
  rw [e, e']
  constructor
  · simp [List.getD_eq_getElem?_getD]
  · rw [List.eraseIdx_append_of_length_le (Nat.le_refl _)]; simp
theorem rem_len_set {l : List Int} {g : List Bool} (hl : g.length = l.length) {i : Nat} {x : Int} (hx : l[i]? = some x) (hy : g[i]? = some false) : (rem l (g.set i true)).length + 1 = (rem l g).length := by
  have e := rem_split hl hx hy
  have := rem_hit hl hx hy
  rw [← this.2, List.length_eraseIdx]
  have h : (rem (l.take i) (g.take i)).length < (rem l g).length := by rw [e]; simp
  rw [if_pos h]; omega
end Go.Proofs.Ytbkmfmemcooagaa
