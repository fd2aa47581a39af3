/-
  Outboxes: values, what they tell; Put and Take, as the document has them (21).
-/
import Derived.Test.YtbengmgfddnkhaaEachM
import Derived.Deep.RegionHeld3
import Derived.Deep.DeepCutAuto
namespace Go.Proofs.Ytbengmgfddnkhaa
open Go.RowKit
theorem take_d {P : Program} {ops : Array Oper} {Q : Exit → Act → World → Prop} {md : Region.Mode} {S : World → Prop} {i : Nat} {oi : Oper} {v : Value} {d : Option Nat} {fuel : Nat} {listed : Array Bool} {a : Act} {w : World} (hi : ops[i]? = some oi) (hd : oi.dst = d)
    (hs : Region.noSelect ops = true) (hf : Region.free md ops listed i = true) (hr : (Region.ready md ops listed).contains i = true)
    (hQ : ∀ c a w, Q (.panic c) (a.put oi.dst v) w → Q (.panic c) a w) (hy : YieldsIf P ops S oi v a) (hS : S w)
    (h : wpAnyH P md ops Q S fuel (listed.setIfInBounds i true) (a.put d v) w) : wpAnyH P md ops Q S (fuel + 1) listed a w :=
  wpAnyH_take hi hs hf hr hQ hy hS (hd ▸ h)
theorem Ob.hopO {α : Type} {enc : α → List Value} {sz base g : Nat} {E T : TypeId} {W W' : World} {v : Value} {l : List α} {cs : Array Value} (h : Ob W g cs T) (ho : Own enc sz E base W v l) (hg : W.grownBy W' v.ownBlock) (hlt : g < base) : Ob W' g cs T :=
  (hg.block g h.lt (fun e => by have := Own.lt ho g e.symm; omega)).trans h
theorem Try.size21Bx : (Try.prog.info? 24).map (·.size) = some 3 := by kernel_rfl
section
variable {ops : Array Oper} {rest : List Oper} {op : Oper} {a : Act} {w : World} {Q : Exit → Act → World → Prop}
theorem ldB (cs : Array Value) (g : Nat) (hO : Ob w g cs 24) (hs : cs.size = 3) (hgd : op.guard = none) (x : Operand) (ho : op.op = .load 24 x) (hx : a.eval x = .pointer (some ⟨g, 0, none⟩))
    (h : wpList Try.prog ops Q rest (a.put op.dst (.agg cs)) w) : wpList Try.prog ops Q (op :: rest) a w :=
  wpList_load_row hgd 24 x ho g hx 24 cs (0, 0) _ hO Try.underlying24 rfl (by rw [hs]; exact Try.size21Bx) h
theorem stB (cs : Array Value) (g : Nat) (z : Array Value) (hO : Ob w g z 24) (hz : z.size = 3) (hs : cs.size = 3) (h1 : cs.all (·.oneCell') = true) (hgd : op.guard = none) (x y : Operand) (ho : op.op = .store 24 x y) (hx : a.eval x = .pointer (some ⟨g, 0, none⟩)) (hy : a.eval y = .agg cs)
    (h : wpList Try.prog ops Q rest (a.put op.dst undef) (w.setRow g cs)) : wpList Try.prog ops Q (op :: rest) a w :=
  wpList_store_row hgd _ x y ho g cs hx hy 24 z hO (by rw [hs]; exact Try.size21Bx) (hz.trans hs.symm) h1 h
end
theorem step_stB {ops : Array Oper} {op : Oper} {a : Act} {w : World} {K : Act → World → Prop} {Q : Exit → Act → World → Prop} {EE : Prop} (cs : Array Value) (g : Nat) (z : Array Value) (hO : Ob w g z 24) (hz : z.size = 3) (hs : cs.size = 3) (h1 : cs.all (·.oneCell') = true) (hgd : op.guard = none) (x y : Operand) (ho : op.op = .store 24 x y) (hx : a.eval x = .pointer (some ⟨g, 0, none⟩)) (hy : a.eval y = .agg cs)
    (h : K (a.put op.dst undef) (w.setRow g cs)) : if Region.wanted op (yielded ops a.tmps) = true then Oper.wp Try.prog op a w K Q else EE := by
  have hw : Region.wanted op (yielded ops a.tmps) = true := by simp [Region.wanted, hgd]
  rw [if_pos hw]
  exact wp_store_row _ x y ho g cs hx hy 24 z hO (by rw [hs]; exact Try.size21Bx) (hz.trans hs.symm) h1 h
theorem box_one (r x : Int) (A : Option Addr) (n c : Nat) : (#[.int .i64 r, .slice A n c, .int .i64 x] : Array Value).all (·.oneCell') = true := Array.all_eq_true_iff_forall_mem.2 (fun v hv => by
  simp at hv
  rcases hv with rfl | rfl | rfl <;> rfl)
structure Bx where
  r : Int
  l : List Ms
  x : Int
structure BxV where
  r : Int
  A : Option Addr
  l : List MsV
  c : Nat
  x : Int
abbrev boxv (b : BxV) : Value := .agg #[.int .i64 b.r, .slice b.A b.l.length b.c, .int .i64 b.x]
def BxV.abs (b : BxV) : Bx := ⟨b.r, b.l.map MsV.abs, b.x⟩
def BxV.own (base : Nat) (W : World) (b : BxV) : Prop := OutX base W (.slice b.A b.l.length b.c) b.l
def BxV.rd (B : Nat) (W : World) (b : BxV) : Prop := OutR B W b.A b.l
theorem BxV.own.rd {base : Nat} {W : World} {b : BxV} (h : b.own base W) : b.rd W.heap.size W := OutX.rd h
theorem BxV.own.below {base : Nat} {W W' : World} {b : BxV} (h : b.own base W) (hb : Below W.heap.size W W') : b.own base W' := OutX.below h hb
theorem BxV.rd.up {W W' : World} {b : BxV} (h : b.rd W.heap.size W) (hb : Below W.heap.size W W') : b.rd W'.heap.size W' := OutR.up h hb
def putB (b : Bx) (m : Ms) : Bx := if (b.l.length : Int) < b.r then ⟨b.r, b.l ++ [m], b.x⟩ else ⟨b.r, b.l, wrap64 (b.x + 1)⟩
def nilMs : Ms := nilM.abs
def takeM (b : Bx) : Ms := b.l.headD nilMs
def takeB (b : Bx) : Bx := ⟨b.r, b.l.tail, b.x⟩
def takeX (b : Bx) : Bool := !b.l.isEmpty
theorem put_yes {b : BxV} {m : MsV} (h : (b.l.length : Int) < b.r) : putB b.abs m.abs = ⟨b.r, b.l.map MsV.abs ++ [m.abs], b.x⟩ := by
  unfold putB BxV.abs; rw [List.length_map, if_pos h]
theorem put_no {b : BxV} {m : MsV} (h : ¬(b.l.length : Int) < b.r) : putB b.abs m.abs = ⟨b.r, b.l.map MsV.abs, wrap64 (b.x + 1)⟩ := by
  unfold putB BxV.abs; rw [List.length_map, if_neg h]
end Go.Proofs.Ytbengmgfddnkhaa
