/-
  append onto an own slice, as a step of a region that draws its order.
-/
import Derived.Test.YtddebgdilcfgkaaBase
import Derived.Deep.RegionHeld3
import Derived.Deep.AppendLies
namespace Go.Proofs.Ytddebgdilcfgkaa
open Go.RowKit
section
variable {P : Program}
theorem step_app {ops : Array Oper} {o : Oper} {a : Act} {K : Act → World → Prop} {Q : Exit → Act → World → Prop} {EE : Prop} (hgd : o.guard = none) (w : World) (s x : Operand) (t : TypeId)
    (ho : o.op = .call { callee := .builtin .append, args := #[s, x], argTypes := #[t, t] })
    {α : Type} {enc : α → List Value} {sz : Nat} (base : Nat) (e : TypeId) (i : TypeInfo) (z : Value) (bytes : Nat) (ht : P.underlying t = some (.slice e)) (hi : P.info? e = some i) (hz : i.zero = some z)
    (hsize : i.size = sz) (hby : i.bytes = bytes) (hzs : z.cells.size = sz) (hsz : 0 < sz) (hs : ∀ x, (enc x).length = sz) (h1 : ∀ x, ∀ u ∈ enc x, u.oneCell' = true)
    (v : Value) (l : List α) (hv : a.eval s = v) (hown : Own enc sz e base w v l) (n : Nat) (hn : n = l.length) (B : Nat) (A : Option Addr) (m c : Nat) (l2 : List α) (hx : a.eval x = .slice A m c) (hm : m = l2.length) (hr : Rd enc sz B w A l2)
    (hbd : (n + m) * bytes ≤ 140737488355328) (h63 : n + m ≤ 140737488355328) (hbase : base ≤ w.heap.size)
    (h : ∀ A' c' w', Own enc sz e base w' (.slice A' (n + m) c') (l ++ l2) → w.grownBy w' v.ownBlock → K (a.put o.dst (.slice A' (n + m) c')) w') :
    if Region.wanted o (yielded ops a.tmps) = true then Oper.wp P o a w K Q else EE := by
  have hw : Region.wanted o (yielded ops a.tmps) = true := by simp [Region.wanted, hgd]
  rw [if_pos hw]
  exact wp_app w s x t ho base e i z bytes ht hi hz hsize hby hzs hsz hs h1 v l hv hown n hn B A m c l2 hx hm hr hbd h63 hbase h
end
theorem Own.hi {α : Type} {enc : α → List Value} {sz : Nat} {E : TypeId} {base : Nat} {w : World} {v : Value} {l : List α} (h : Own enc sz E base w v l) : ∀ k, v.ownBlock = some k → k < w.heap.size := fun k hk => (World.ownsRow.lt h k hk).2
theorem grown_set (W : World) (p : Addr) (u : Value) : W.grownBy (W.setCell p u) (some p.block) :=
  ⟨rfl, rfl, rfl, by simp [World.setCell], fun k _ hk => by
    have h : k ≠ p.block := fun h => hk (by rw [h])
    simp [World.setCell, Array.getElem?_modify, Ne.symm h]⟩
theorem Own.far {α : Type} {enc : α → List Value} {sz : Nat} {E : TypeId} {base : Nat} {w : World} {v : Value} {l : List α} (h : Own enc sz E base w v l) {p : Addr} (hp : ∀ k, v.ownBlock = some k → k ≠ p.block) (u : Value) : Own enc sz E base (w.setCell p u) v l :=
  h.keep (grown_set w p u) (by
    rcases hv : v.ownBlock with _ | k
    · exact .inl rfl
    · exact .inr (fun h' => hp k hv (by injection h')))
end Go.Proofs.Ytddebgdilcfgkaa
