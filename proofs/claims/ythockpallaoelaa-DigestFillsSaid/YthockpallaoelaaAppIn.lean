/-
  append onto an own slice, inside a fence.
-/
import Derived.Test.YthockpallaoelaaTurn
import Derived.OwnWalkIn
namespace Go.Proofs.Ythockpallaoelaa
open Go.RowKit
theorem wpListIn_app {F : Fence} {r : Nat} {P : Program} {ops : Array Oper} {rest : List Oper} {o : Oper} {a : Act} {Q : Exit → Act → World → Prop} (w : World) (hgd : o.guard = none) (s x : Operand) (t : TypeId)
    (ho : o.op = .call { callee := .builtin .append, args := #[s, x], argTypes := #[t, t] })
    {α : Type} {enc : α → List Value} {sz : Nat} (base : Nat) (e : TypeId) (i : TypeInfo) (z : Value) (bytes : Nat) (ht : P.underlying t = some (.slice e)) (hi : P.info? e = some i) (hz : i.zero = some z)
    (hsize : i.size = sz) (hby : i.bytes = bytes) (hzs : z.cells.size = sz) (hsz : 0 < sz) (hs : ∀ x, (enc x).length = sz) (h1 : ∀ x, ∀ u ∈ enc x, u.oneCell' = true)
    (v : Value) (l : List α) (hv : a.eval s = v) (hown : Own enc sz e base w v l) (n : Nat) (hn : n = l.length) (B : Nat) (A : Option Addr) (m c : Nat) (l2 : List α) (hx : a.eval x = .slice A m c) (hm : m = l2.length) (hr : Rd enc sz B w A l2)
    (hbd : (n + m) * bytes ≤ 140737488355328) (h63 : n + m ≤ 140737488355328) (hbase : base ≤ w.heap.size)
    (h : ∀ A' c' w', Own enc sz e base w' (.slice A' (n + m) c') (l ++ l2) → w.grownBy w' v.ownBlock → wpListIn F r P ops Q rest (a.put o.dst (.slice A' (n + m) c')) w') : wpListIn F r P ops Q (o :: rest) a w := by
  subst hn hm
  obtain ⟨A', c', w', hrun, h2, h3⟩ := run_app (P := P) w base t o.type e i z bytes ht hi hz hsize hby hzs hsz hs h1 v l hown B A c l2 hr hbd h63 hbase
  refine wpListIn_plain hgd fun K hK' => ?_
  unfold Oper.wpIn
  refine ⟨?_, ?_⟩
  · simp [Oper.about, ho, resolve, Target.leads, Sem.run_pure]
  · rw [Oper.semAt_plain F _ _ (by rw [ho]; intro c hc'; cases hc')]
    simp [execOp, ho, resolve, invoke, builtin, hv, hx, hrun, Result.andThen]
    exact hK' _ _ (h A' c' w' h2 h3)
theorem own_cells {α : Type} {enc : α → List Value} {sz base : Nat} {E : TypeId} {W : World} {v : Value} {l : List α} (h : Own enc sz E base W v l) : ∀ (j : Nat) (o : Obj), v.ownBlock = some j → W.heap[j]? = some o → o.isCells = true := fun j o hj ho => by
  rcases h.2 with ⟨rfl, _⟩ | ⟨g', cap, cur, rfl, _, hgb, _⟩
  · simp [Value.ownBlock] at hj
  · have hj' : j = g' := own_blk hj
    rw [← hj'] at hgb
    rw [hgb] at ho; cases ho; rfl
end Go.Proofs.Ythockpallaoelaa
