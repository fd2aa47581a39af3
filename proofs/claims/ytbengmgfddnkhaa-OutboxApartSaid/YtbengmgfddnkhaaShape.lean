/-
  Same shape: through stores of integers into the blocks [lo, hi), cells of integers stay such, all else is kept (21, OutboxApart).
-/
import Derived.Test.YtbengmgfddnkhaaBox
namespace Go.Proofs.Ytbengmgfddnkhaa
open Go.RowKit
def alike (v v' : Value) : Prop := v' = v ∨ ∃ T z z', v = .int T z ∧ v' = .int T z'
theorem alike.refl (v : Value) : alike v v := .inl rfl
theorem alike.trans {a b c : Value} (h : alike a b) (h' : alike b c) : alike a c := by
  rcases h with rfl | ⟨T, z, z', rfl, rfl⟩
  · exact h'
  · rcases h' with rfl | ⟨T', y, y', h1, rfl⟩
    · exact .inr ⟨T, z, z', rfl, rfl⟩
    · cases h1; exact .inr ⟨T, z, y', rfl, rfl⟩
structure Shape (lo hi : Nat) (w w' : World) : Prop where
  os : w'.os = w.os
  tape : w'.tape = w.tape
  output : w'.output = w.output
  size : w.heap.size ≤ w'.heap.size
  block : ∀ k, k < w.heap.size → k < lo ∨ hi ≤ k → w'.heap[k]? = w.heap[k]?
  frz : ∀ p : Addr, p.block < w.heap.size → w'.frozen? p = w.frozen? p
  inn : ∀ (p : Addr) (v : Value), lo ≤ p.block → p.block < hi → w.cell? p = some v → ∃ v', w'.cell? p = some v' ∧ alike v v'
theorem Shape.refl (lo hi : Nat) (w : World) : Shape lo hi w w := ⟨rfl, rfl, rfl, Nat.le_refl _, fun _ _ _ => rfl, fun _ _ => rfl, fun _ v _ _ h => ⟨v, h, .refl v⟩⟩
theorem Shape.trans {lo hi : Nat} {w w1 w2 : World} (h : Shape lo hi w w1) (h' : Shape lo hi w1 w2) : Shape lo hi w w2 :=
  ⟨h'.os.trans h.os, h'.tape.trans h.tape, h'.output.trans h.output, Nat.le_trans h.size h'.size, fun k hk hq => (h'.block k (Nat.lt_of_lt_of_le hk h.size) hq).trans (h.block k hk hq), fun p hp => (h'.frz p (Nat.lt_of_lt_of_le hp h.size)).trans (h.frz p hp), fun p v h1 h2 hv => by
    obtain ⟨v1, e1, a1⟩ := h.inn p v h1 h2 hv
    obtain ⟨v2, e2, a2⟩ := h'.inn p v1 h1 h2 e1
    exact ⟨v2, e2, a1.trans a2⟩⟩
theorem Shape.drewN {lo hi : Nat} {w w' : World} (h : Shape lo hi w w') (n : Nat) : Shape lo hi w (w'.drewN n) := ⟨h.os, h.tape, h.output, h.size, h.block, h.frz, h.inn⟩
theorem Shape.drew {lo hi : Nat} {w w' : World} (h : Shape lo hi w w') : Shape lo hi w w'.drew := ⟨h.os, h.tape, h.output, h.size, h.block, h.frz, h.inn⟩
theorem Shape.ofBelow {lo hi : Nat} {w w' : World} (h : Below w.heap.size w w') (hh : hi ≤ w.heap.size) : Shape lo hi w w' :=
  ⟨h.os, h.tape, h.output, h.size, fun k hk _ => h.block k hk, fun p hp => h.frozen hp, fun p v _ h2 hv => ⟨v, (h.cell (by omega)).trans hv, .refl v⟩⟩
theorem Shape.below {lo hi : Nat} {w w' : World} (h : Shape lo hi w w') (hl : lo ≤ w.heap.size) : Below lo w w' := ⟨h.os, h.tape, h.output, h.size, fun k hk => h.block k (by omega) (.inl hk)⟩
theorem Shape.belowOf {lo hi : Nat} {a w w' : World} (h : Shape lo hi w w') (hb : Below a.heap.size a w) (hl : a.heap.size ≤ lo) : Below a.heap.size a w' :=
  ⟨h.os.trans hb.os, h.tape.trans hb.tape, h.output.trans hb.output, Nat.le_trans hb.size h.size, fun k hk => (h.block k (Nat.lt_of_lt_of_le hk hb.size) (.inl (by omega))).trans (hb.block k hk)⟩
/-- a block out of the range, whole -/
theorem Shape.ob {lo hi : Nat} {w w' : World} (h : Shape lo hi w w') {g : Nat} {cs : Array Value} {T : TypeId} (o : Ob w g cs T) (hg : g < w.heap.size) (hh : g < lo ∨ hi ≤ g) : Ob w' g cs T := (h.block g hg hh).trans o
/-- a slice's header or another thing than an integer -/
theorem Shape.keep {lo hi : Nat} {w w' : World} (h : Shape lo hi w w') {p : Addr} {A : Option Addr} {n c : Nat} (h1 : lo ≤ p.block) (h2 : p.block < hi) (hv : w.cell? p = some (.slice A n c)) : w'.cell? p = some (.slice A n c) := by
  obtain ⟨v, e, rfl | ⟨T, z, z', h3, _⟩⟩ := h.inn p _ h1 h2 hv
  · exact e
  · cases h3
theorem Shape.int {lo hi : Nat} {w w' : World} (h : Shape lo hi w w') {p : Addr} {T : IntKind} {z : Int} (h1 : lo ≤ p.block) (h2 : p.block < hi) (hv : w.cell? p = some (.int T z)) : ∃ z', w'.cell? p = some (.int T z') := by
  obtain ⟨v, e, rfl | ⟨T', y, y', h3, rfl⟩⟩ := h.inn p _ h1 h2 hv
  · exact ⟨z, e⟩
  · cases h3; exact ⟨y', e⟩
theorem Shape.store {lo hi : Nat} {w w' : World} (h : Shape lo hi w w') {p : Addr} {T : IntKind} {z z' : Int} (h1 : lo ≤ p.block) (h2 : p.block < hi) (hv : w'.cell? p = some (.int T z)) : Shape lo hi w (w'.setCell p (.int T z')) :=
  h.trans ⟨rfl, rfl, rfl, by simp [World.setCell], fun k _ hq => Below.heap_setCell _ _ _ _ (by omega), fun q _ => World.frozen?_setCell .., fun q v _ _ hqv => by
    by_cases e : p = q
    · subst e
      rw [hv] at hqv
      cases hqv
      exact ⟨_, World.cell?_setCell_same _ _ _ hv, .inr ⟨T, z, z', rfl, rfl⟩⟩
    · exact ⟨v, (World.cell?_setCell_other _ _ _ _ e).trans hqv, .refl v⟩⟩
end Go.Proofs.Ytbengmgfddnkhaa
