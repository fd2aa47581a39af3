/-
  Where a message of the call's own may lie: between two numbers of blocks (21, OutboxApart).
-/
import Derived.Test.YtbengmgfddnkhaaMesg
namespace Go.Proofs.Ytbengmgfddnkhaa
open Go.RowKit
def Bnd (L : Nat) (v : Value) : Prop := ∀ k, v.ownBlock = some k → k < L
theorem Bnd.mono {L L' : Nat} {v : Value} (h : Bnd L v) (hl : L ≤ L') : Bnd L' v := fun k hk => Nat.lt_of_lt_of_le (h k hk) hl
section
variable {α : Type} {enc : α → List Value} {sz lo hi base : Nat} {E : TypeId} {W W' : World} {A : Option Addr} {n c : Nat} {v : Value} {l : List α}
theorem Own.bnd (h : Own enc sz E base W v l) : Bnd W.heap.size v := fun k hk => (World.ownsRow.lt h k hk).2
theorem Own.rdB (hs : ∀ x, (enc x).length = sz) (h : Own enc sz E base W (.slice A n c) l) (hb : Bnd hi (.slice A n c)) : Rd enc sz hi W A l := fun hl => by
  obtain ⟨b, o, hA, _, hc⟩ := h.rd hs hl
  exact ⟨b, o, hA, hb b (by subst hA; rfl), hc⟩
theorem Own.same (h : Own enc sz E lo W v l) (hb : Bnd hi v) (hk : ∀ k, lo ≤ k → k < hi → W'.heap[k]? = W.heap[k]?) : Own enc sz E lo W' v l := by
  refine ⟨h.1, ?_⟩
  rcases h.2 with hn | ⟨g, cap, cur, rfl, hbg, hgg, rest⟩
  · exact .inl hn
  · exact .inr ⟨g, cap, cur, rfl, hbg, (hk g hbg (hb g rfl)).trans hgg, rest⟩
end
structure MsV.bnd (B : Nat) (x : MsV) : Prop where
  L : Bnd B (.slice x.LA x.L.length x.Lc)
  F : ∀ d ∈ x.L, Bnd B (.slice d.A d.l.length d.c)
  T : Bnd B (.slice x.TA x.T.length x.Tc)
  V : Bnd B (.slice x.VA x.V.length x.Vc)
  D : Bnd B (.slice x.DA x.D.length x.Dc)
  M : Bnd B (.slice x.MA x.M.length x.Mc)
  I : Bnd B (.slice x.IA x.I.length x.Ic)
section
variable {lo hi : Nat} {W W' : World} {x : MsV}
theorem MsV.bnd.mono {L L' : Nat} (h : x.bnd L) (hl : L ≤ L') : x.bnd L' := ⟨h.L.mono hl, fun d hd => (h.F d hd).mono hl, h.T.mono hl, h.V.mono hl, h.D.mono hl, h.M.mono hl, h.I.mono hl⟩
theorem Bnd.min_ {a b : Nat} {v : Value} (h : Bnd a v) (h2 : Bnd b v) : Bnd (min a b) v := fun k hk => by have := h k hk; have := h2 k hk; omega
theorem MsV.bnd.min_ {a b : Nat} (h : x.bnd a) (h2 : x.bnd b) : x.bnd (min a b) := ⟨h.L.min_ h2.L, fun d hd => (h.F d hd).min_ (h2.F d hd), h.T.min_ h2.T, h.V.min_ h2.V, h.D.min_ h2.D, h.M.min_ h2.M, h.I.min_ h2.I⟩
theorem MsV.own.bnd (h : x.own lo W) : x.bnd W.heap.size := ⟨Own.bnd h.L, fun d hd => Own.bnd (h.F d hd), Own.bnd h.T, Own.bnd h.V, Own.bnd h.D, Own.bnd h.M, Own.bnd h.I⟩
theorem MsV.own.rdB (h : x.own lo W) (hb : x.bnd hi) : x.rd hi W :=
  ⟨Own.rdB dsc_len h.L hb.L, fun d hd => Own.rdB spc_len (h.F d hd) (hb.F d hd), Own.rdB memc_len h.T hb.T, Own.rdB (int_len .i32) h.V hb.V, Own.rdB (int_len .u8) h.D hb.D, Own.rdB idc_len h.M hb.M, Own.rdB idc_len h.I hb.I⟩
theorem MsV.own.same (h : x.own lo W) (hb : x.bnd hi) (hk : ∀ k, lo ≤ k → k < hi → W'.heap[k]? = W.heap[k]?) : x.own lo W' :=
  ⟨Own.same h.L hb.L hk, fun d hd => Own.same (h.F d hd) (hb.F d hd) hk, Own.same h.T hb.T hk, Own.same h.V hb.V hk, Own.same h.D hb.D hk, Own.same h.M hb.M hk, Own.same h.I hb.I hk⟩
end
/-- a row of messages, so -/
structure OutB (L : Nat) (v : Value) (ms : List MsV) : Prop where
  out : Bnd L v
  row : ∀ m ∈ ms, m.bnd L
section
variable {lo hi : Nat} {W W' : World} {v : Value} {ms : List MsV} {A : Option Addr} {n c : Nat}
theorem OutX.bnd (h : OutX lo W v ms) : OutB W.heap.size v ms := ⟨Own.bnd h.out, fun m hm => (h.row m hm).bnd⟩
theorem OutX.same (h : OutX lo W v ms) (hb : OutB hi v ms) (hk : ∀ k, lo ≤ k → k < hi → W'.heap[k]? = W.heap[k]?) : OutX lo W' v ms :=
  ⟨Own.same h.out hb.out hk, fun m hm => (h.row m hm).same (hb.row m hm) hk⟩
end
end Go.Proofs.Ytbengmgfddnkhaa
