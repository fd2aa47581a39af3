/-
  Slices of integers: small words.
-/
import Derived.Test.YtfdppebbpcjhjaaBase
namespace Go.Proofs.Ytfdppebbpcjhjaa
open Go.RowKit
/-- one integer in a block of its own -/
theorem Rd.one (k : IntKind) (w : World) (z : Int) (E : TypeId) : Rd (fun z : Int => [Value.int k z]) 1 (w.heap.size + 1) (w.alloc (.cells #[.int k z] E)) (some ⟨w.heap.size, 0, none⟩) [z] :=
  Rd.lit (enc := fun z : Int => [Value.int k z]) (fun _ => rfl) w _ rfl #[.int k z] E [z] rfl
theorem Rd.oneAt (k : IntKind) (w : World) (g : Nat) (hg : g = w.heap.size) (z : Int) (E : TypeId) : Rd (fun z : Int => [Value.int k z]) 1 (w.heap.size + 1) (w.alloc (.cells #[.int k z] E)) (some ⟨g, 0, none⟩) [z] := by
  subst hg; exact Rd.one k w z E
theorem int_one (k : IntKind) : ∀ x : Int, ∀ u ∈ (fun z : Int => [Value.int k z]) x, u.oneCell' = true := fun _ u hu => by simp at hu; subst hu; rfl
theorem int_len (k : IntKind) : ∀ x : Int, ((fun z : Int => [Value.int k z]) x).length = 1 := fun _ => rfl
theorem Rd.cut1 {α : Type} {enc : α → List Value} {B : Nat} {w : World} {A : Option Addr} {l : List α} (h : Rd enc 1 B w A l) {k cap : Nat} (hc : l.length ≤ cap) : Rd enc 1 B w (if cap = k then A else A.map (·.add k)) (l.drop k) := by
  have := h.cut (k := k) hc
  simpa only [Nat.mul_one] using this
theorem Rd.int1 {k : IntKind} {B : Nat} {w : World} {A : Option Addr} {l : List Int} (h : Rd (fun z : Int => [Value.int k z]) 1 B w A l) {j : Nat} {x : Int} (hx : l[j]? = some x) :
    ∃ b o, A = some ⟨b, o, none⟩ ∧ b < B ∧ w.cell? ⟨b, o + j, none⟩ = some (.int k x) := by
  obtain ⟨b, o, hA, hb, hc⟩ := h.at_ hx
  exact ⟨b, o, hA, hb, by simpa using hc 0 _ rfl⟩
end Go.Proofs.Ytfdppebbpcjhjaa
