/-
  append in a region that draws its order, inside a fence: the operation is veiled from the walk's own steps and met by its law.
-/
import Derived.Test.YthockpallaoelaaAppIn
namespace Go.Proofs.Ythockpallaoelaa
open Go.RowKit
def AppWp (F : Fence) (r : Nat) (P : Program) (o : Oper) (a : Act) (w : World) (K : Act → World → Prop) (Q : Exit → Act → World → Prop) : Prop := o.wpIn F r P a w K Q
/-- lay this ahead of the region: 'have HAP := veil_app (F := ..) (r := ..) (P := ..)' -/
theorem veil_app {F : Fence} {r : Nat} {P : Program} (dst : Option Tmp) (s x : Operand) (tys : Array TypeId) (ty : TypeId) (pos : String) (aft : Array Edge) (g : Option (Nat × Bool)) (a : Act) (w : World) (K : Act → World → Prop) (Q : Exit → Act → World → Prop) :
    Oper.wpIn F r P ⟨dst, .call ⟨.builtin .append, #[s, x], tys⟩, ty, pos, aft, g⟩ a w K Q = AppWp F r P ⟨dst, .call ⟨.builtin .append, #[s, x], tys⟩, ty, pos, aft, g⟩ a w K Q := rfl
theorem appWp {F : Fence} {r : Nat} {P : Program} {o : Oper} {a : Act} {K : Act → World → Prop} {Q : Exit → Act → World → Prop} (w : World) (s x : Operand) (t : TypeId)
    (ho : o.op = .call { callee := .builtin .append, args := #[s, x], argTypes := #[t, t] })
    {α : Type} {enc : α → List Value} {sz : Nat} (base : Nat) (e : TypeId) (i : TypeInfo) (z : Value) (bytes : Nat) (ht : P.underlying t = some (.slice e)) (hi : P.info? e = some i) (hz : i.zero = some z)
    (hsize : i.size = sz) (hby : i.bytes = bytes) (hzs : z.cells.size = sz) (hsz : 0 < sz) (hs : ∀ x, (enc x).length = sz) (h1 : ∀ x, ∀ u ∈ enc x, u.oneCell' = true)
    (v : Value) (l : List α) (hv : a.eval s = v) (hown : Own enc sz e base w v l) (n : Nat) (hn : n = l.length) (B : Nat) (A : Option Addr) (m c : Nat) (l2 : List α) (hx : a.eval x = .slice A m c) (hm : m = l2.length) (hr : Rd enc sz B w A l2)
    (hbd : (n + m) * bytes ≤ 140737488355328) (h63 : n + m ≤ 140737488355328) (hbase : base ≤ w.heap.size)
    (h : ∀ A' c' w', Own enc sz e base w' (.slice A' (n + m) c') (l ++ l2) → w.grownBy w' v.ownBlock → K (a.put o.dst (.slice A' (n + m) c')) w') : AppWp F r P o a w K Q := by
  subst hn hm
  obtain ⟨A', c', w', hrun, h2, h3⟩ := run_app (P := P) w base t o.type e i z bytes ht hi hz hsize hby hzs hsz hs h1 v l hown B A c l2 hr hbd h63 hbase
  unfold AppWp Oper.wpIn
  refine ⟨?_, ?_⟩
  · simp [Oper.about, ho, resolve, Target.leads, Sem.run_pure]
  · rw [Oper.semAt_plain F _ _ (by rw [ho]; intro c hc'; cases hc')]
    simp [execOp, ho, resolve, invoke, builtin, hv, hx, hrun, Result.andThen]
    exact h A' c' w' h2 h3
end Go.Proofs.Ythockpallaoelaa
