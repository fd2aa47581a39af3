/-
  Worlds that differ in two blocks; a row of integers at an offset, that is deleted from in place.
-/
import Derived.Test.YtbkmfmemcooagaaBase
import Derived.Deep.MidRow
import Derived.RangeFuncBox
namespace Go.Proofs.Ytbkmfmemcooagaa
open Go.RowKit

/-- all blocks of w but p and q are as they were -/
structure Touch (w w' : World) (p q : Nat) : Prop where
  os : w'.os = w.os
  tape : w'.tape = w.tape
  output : w'.output = w.output
  size : w.heap.size ≤ w'.heap.size
  block : ∀ k, k < w.heap.size → k ≠ p → k ≠ q → w'.heap[k]? = w.heap[k]?
section
variable {w w' w2 : World} {p q n : Nat}
theorem Touch.refl (w : World) (p q : Nat) : Touch w w p q := ⟨rfl, rfl, rfl, Nat.le_refl _, fun _ _ _ _ => rfl⟩
theorem Touch.trans (h : Touch w w' p q) (h2 : Touch w' w2 p q) : Touch w w2 p q :=
  ⟨h2.os.trans h.os, h2.tape.trans h.tape, h2.output.trans h.output, Nat.le_trans h.size h2.size, fun k hk h3 h4 => (h2.block k (Nat.lt_of_lt_of_le hk h.size) h3 h4).trans (h.block k hk h3 h4)⟩
theorem Touch.of_below (h : Below w.heap.size w w') (p q : Nat) : Touch w w' p q := ⟨h.os, h.tape, h.output, h.size, fun k hk _ _ => h.block k hk⟩
theorem Touch.grown {row : Option Nat} (h : w.grownBy w' row) (hr : ∀ k, row = some k → k = p ∨ k = q) : Touch w w' p q :=
  ⟨h.os, h.tape, h.output, h.size, fun k hk h3 h4 => h.block k hk (fun e => by rcases hr k e.symm with e | e <;> contradiction)⟩
theorem Touch.below (h : Touch w w' p q) (hn : n ≤ w.heap.size) (h1 : n ≤ p) (h2 : n ≤ q) : Below n w w' :=
  ⟨h.os, h.tape, h.output, h.size, fun k hk => h.block k (by omega) (by omega) (by omega)⟩
theorem Touch.set (w : World) (p q o : Nat) (u : Value) (hp : o = p ∨ o = q) (f : Nat) : Touch w (w.setCell ⟨o, f, none⟩ u) p q :=
  ⟨rfl, rfl, rfl, by simp [World.setCell], fun k hk h3 h4 => by simp [World.setCell, Array.getElem?_modify]; intro e; rcases hp with h | h <;> omega⟩
theorem Touch.own {α : Type} {enc : α → List Value} {sz base : Nat} {E : TypeId} {v : Value} {l : List α} (h : Touch w w' p q) (ho : Own enc sz E base w v l) (h1 : ∀ k, v.ownBlock = some k → k ≠ p ∧ k ≠ q) : Own enc sz E base w' v l := by
  refine ⟨ho.1, ?_⟩
  rcases ho.2 with hn | ⟨g, cap, cur, rfl, hb, hgg, rest⟩
  · exact .inl hn
  · obtain ⟨h2, h3⟩ := h1 g rfl
    exact .inr ⟨g, cap, cur, rfl, hb, (h.block g (Array.getElem?_eq_some_iff.1 hgg).1 h2 h3).trans hgg, rest⟩
theorem Touch.boxed {B : Nat} {t : TypeId} {v : Value} (h : Touch w w' p q) (hb : Boxed w B t v) (h1 : B ≠ p) (h2 : B ≠ q) : Boxed w' B t v := (h.block B hb.lt h1 h2).trans hb
theorem Touch.setCells (w : World) (p q b : Nat) (hp : b = p ∨ b = q) : ∀ (vs : List Value) (o : Nat), Touch w (w.setCells b o vs) p q := by
  intro vs
  induction vs generalizing w with
  | nil => intro o; exact Touch.refl _ _ _
  | cons v vs ih => intro o; exact (Touch.set w p q b v hp o).trans (ih _ _)
end

theorem flat_one (f : Int → Value) : ∀ l : List Int, l.flatMap (fun z => [f z]) = l.map f
  | [] => rfl
  | x :: l => by rw [List.flatMap_cons, flat_one f l]; rfl
/-- block g holds l from place off on; it may be written -/
def Lf (k : IntKind) (w : World) (g off : Nat) (l : List Int) : Prop := ∀ j x, l[j]? = some x → w.cell? ⟨g, off + j, none⟩ = some (.int k x) ∧ w.frozen? ⟨g, off + j, none⟩ = false
theorem Lf.block {k : IntKind} {w w' : World} {g off : Nat} {l : List Int} (h : Lf k w g off l) (hb : w'.heap[g]? = w.heap[g]?) : Lf k w' g off l := fun j x hj => by
  obtain ⟨h1, h2⟩ := h j x hj
  exact ⟨(World.cell?_of_block (a := ⟨g, off + j, none⟩) hb).trans h1, (World.frozen?_of_block (a := ⟨g, off + j, none⟩) hb).trans h2⟩
theorem Lf.of_own {k : IntKind} {E : TypeId} {base : Nat} {w : World} {g n c : Nat} {l : List Int} (h : Own (fun z : Int => [Value.int k z]) 1 E base w (.slice (some ⟨g, 0, none⟩) n c) l) : Lf k w g 0 l := fun j x hj => by
  rcases h.2 with ⟨e, _⟩ | ⟨g', cap, cur, e, hb, hgg, h3, h4, h5, h6⟩
  · cases e
  · injection e with e1 e2 e3
    injection e1 with e1
    injection e1 with e1 _ _
    subst e1
    have hc : (l.flatMap (fun z : Int => [Value.int k z]))[j]? = some (.int k x) := by
      rw [flat_one]
      simp [hj]
    rw [← h6, List.getElem?_take] at hc
    split at hc
    · refine ⟨?_, ?_⟩
      · rw [Nat.zero_add, cell_of_row w g j cur E (0, 0) hgg]; simpa using hc
      · simp [World.frozen?, hgg]
    · cases hc
theorem Lf.tail {k : IntKind} {w : World} {g off : Nat} {x : Int} {l : List Int} (h : Lf k w g off (x :: l)) : Lf k w g (off + 1) l := fun j y hj => by
  have := h (j + 1) y (by simpa using hj)
  rwa [show off + (j + 1) = off + 1 + j by omega] at this
/-- the two writes of a deletion of one element: those behind it one place down, a zero in the last place -/
theorem Lf.delete {k : IntKind} {w : World} {g off : Nat} {l : List Int} (h : Lf k w g off l) {i : Nat} (hi : i < l.length) (z : List Value) (hz : z.length = 1) :
    Lf k ((w.setCells g (off + i) ((l.drop (i + 1)).map (Value.int k))).setCells g (off + (l.length - 1)) z) g off (l.eraseIdx i) := fun j x hj => by
  have hjl := (List.getElem?_eq_some_iff.1 hj).1
  rw [List.length_eraseIdx, if_pos hi] at hjl
  rw [World.frozen?_setCells, World.frozen?_setCells, World.cell?_setCells_out g z _ _ _ (fun _ _ => by left; show off + j < off + (l.length - 1); omega)]
  rw [List.getElem?_eraseIdx] at hj
  split at hj
  · rename_i hji
    obtain ⟨h1, h2⟩ := h j x hj
    rw [World.cell?_setCells_out g _ _ _ _ (fun _ _ => by left; show off + j < off + i; omega)]
    exact ⟨h1, h2⟩
  · rename_i hji
    have hf := (h j (l[j]'(by omega)) (List.getElem?_eq_getElem (by omega))).2
    have := World.cell?_setCells_in g ((l.drop (i + 1)).map (Value.int k)) (off + i) w (fun t ht => by
      simp at ht
      rw [show off + i + t = off + (i + t) by omega, (h (i + t) (l[i + t]'(by omega)) (List.getElem?_eq_getElem (by omega))).1]; rfl) (j - i) (by simp; omega)
    rw [show off + i + (j - i) = off + j by omega] at this
    rw [this]
    refine ⟨?_, hf⟩
    obtain ⟨h3, rfl⟩ := List.getElem?_eq_some_iff.1 hj
    simp
    congr 1
    omega
end Go.Proofs.Ytbkmfmemcooagaa
