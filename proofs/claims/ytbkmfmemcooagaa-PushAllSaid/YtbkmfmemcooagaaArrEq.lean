/-
  An array of whole numbers is equal to itself.
-/
import Derived.DeepKeys
import Derived.Laws.StructEq
namespace Go.Proofs.Ytbkmfmemcooagaa
open Go
theorem eq_items_same {P : Program} (w : World) (d : Nat) {e : TypeId} {k : IntKind} (he : P.underlying e = some (.int k)) (xs : Array Value) : ∀ is : List Nat, (∀ i ∈ is, ∃ z, xs[i]? = some (.int k z)) → (Op.eqItems (d + 1) e 1 xs xs is).run P w = .ok true w
  | [], _ => by simp [Op.eqItems]
  | i :: is, h => by
    obtain ⟨z, hz⟩ := h i (by simp)
    have ih := eq_items_same w d he xs is (fun j hj => h j (by simp [hj]))
    have hp : (part e xs i).run P w = .ok (.int k z) w := by
      simp [part, isAgg, Sem.run_bind, run_underlying he, hz]
    simp [Op.eqItems, Sem.run_bind, hp, run_equalIn_int w d e k k z z he, ih]
theorem run_equalIn_same {P : Program} (w : World) (d : Nat) {t e : TypeId} {k : IntKind} {n : Nat} (ht : P.underlying t = some (.array n e)) (he : P.underlying e = some (.int k)) (hi : (P.info? e).map (·.size) = some 1) (xs : Array Value) (h : ∀ i, i < n → ∃ z, xs[i]? = some (.int k z)) :
    (Op.equalIn (d + 2) t (.agg xs) (.agg xs)).run P w = .ok true w := by
  cases hq : P.info? e with
  | none => simp [hq] at hi
  | some ie =>
    rw [run_equalIn_array w (d + 1) xs xs ht hq]
    have hs : ie.size = 1 := by simpa [hq] using hi
    have := eq_items_same w d he xs (List.range n) (fun i hi => h i (by simpa using hi))
    have hc : P.cellsOf e = 1 := by simp [Program.cellsOf, hq, hs]
    rw [hc]
    exact this
end Go.Proofs.Ytbkmfmemcooagaa
