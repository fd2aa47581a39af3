/-
  Reading a slice of ops: a struct of four integers and a slice of members.
-/
import Derived.Test.YtgkdljfhmflmjaaOpen
import Derived.Test.YtgkdljfhmflmjaaMem
namespace Go.Proofs.Ytgkdljfhmflmjaa
open Go.RowKit Go.ChangeShapes Go.WideShapes Go.ChangeAt Go.Deep
structure OpV where
  k : Int
  nd : Int
  inc : Int
  af : Int
  A : Option Addr
  l : List Mb
  cap : Nat
deriving Inhabited
def opc (x : OpV) : List Value := [.int .u8 x.k, .int .u8 x.nd, .int .u16 x.inc, .int .i64 x.af, .slice x.A x.l.length x.cap]
theorem opc_len (x : OpV) : (opc x).length = 5 := rfl
def OpV.ok (w : World) (x : OpV) : Prop :=
  (0 ≤ x.k ∧ x.k ≤ 255) ∧ (0 ≤ x.nd ∧ x.nd ≤ 255) ∧ (0 ≤ x.inc ∧ x.inc ≤ 65535) ∧ (-9223372036854775808 ≤ x.af ∧ x.af ≤ 9223372036854775807) ∧ x.l.length ≤ x.cap ∧ x.cap ≤ maxLen ∧ Rd memc 3 w.heap.size w x.A x.l ∧ ∀ m ∈ x.l, m.ok
section
variable {P : Program} {H : Type} {enc : TypeId × Value → H} {w : World} {base : Nat} {spare : Nat → Bool} {held : Bool}
theorem trod_op {t tm e : TypeId} {fs fm : Array Field} {f0 f1 f2 f3 f4 : Field} {fuel : Nat} {cs : List Value} {y : DataW H × List MemPlace}
    (ht : P.underlying t = some (.struct fs)) (hone : oneCellFields P fs = true) (hC : P.cellsOf t = fs.size) (hfs : fs = #[f0, f1, f2, f3, f4])
    (h0 : P.underlying f0.type = some (.int .u8)) (h1 : P.underlying f1.type = some (.int .u8)) (h2 : P.underlying f2.type = some (.int .u16)) (h3 : P.underlying f3.type = some (.int .i64)) (h4 : P.underlying f4.type = some (.slice tm)) (he : tm = e)
    (hm : P.underlying e = some (.struct fm)) (hmone : oneCellFields P fm = true) (hmC : P.cellsOf e = fm.size) (hmc : fm.size = 3) (hmk : intFields P fm [.u16, .u8, .u8] = true)
    (hf : DataW.trod enc P w base spare held fuel t cs = some y) : ∃ x : OpV, cs = opc x ∧ x.ok w := by
  subst he
  obtain ⟨ys, n, _, _, hlen, hyl, hff⟩ := DataW.trod_struct ht hf
  rw [hC, hfs] at hlen
  subst hfs
  have e0 := hff 0 f0 rfl
  have e1 := hff 1 f1 rfl
  have e2 := hff 2 f2 rfl
  have e3 := hff 3 f3 rfl
  have e4 := hff 4 f4 rfl
  obtain ⟨o0, c0⟩ := hone_of hone 0 f0 rfl
  obtain ⟨o1, c1⟩ := hone_of hone 1 f1 rfl
  obtain ⟨o2, c2⟩ := hone_of hone 2 f2 rfl
  obtain ⟨o3, c3⟩ := hone_of hone 3 f3 rfl
  obtain ⟨o4, c4⟩ := hone_of hone 4 f4 rfl
  rw [o0, c0] at e0
  rw [o1, c1] at e1
  rw [o2, c2] at e2
  rw [o3, c3] at e3
  rw [o4, c4] at e4
  obtain ⟨v0, v1, v2, v3, v4, rfl⟩ : ∃ a b c d e, cs = [a, b, c, d, e] := by
    match cs, hlen with
    | [a, b, c, d, e], _ => exact ⟨a, b, c, d, e, rfl⟩
  obtain ⟨y0, y1, y2, y3, y4, rfl⟩ : ∃ a b c d e, ys = [a, b, c, d, e] := by
    match ys, hyl with
    | [a, b, c, d, e], _ => exact ⟨a, b, c, d, e, rfl⟩
  obtain ⟨z0, hz0, _, hw0⟩ := DataW.trod_int h0 (e0.trans rfl)
  obtain ⟨z1, hz1, _, hw1⟩ := DataW.trod_int h1 (e1.trans rfl)
  obtain ⟨z2, hz2, _, hw2⟩ := DataW.trod_int h2 (e2.trans rfl)
  obtain ⟨z3, hz3, _, hw3⟩ := DataW.trod_int h3 (e3.trans rfl)
  obtain ⟨A, l, cap, hA, hc, hmx, hr, hw⟩ := trod_sl (encf := memc) (ok := Mb.ok) (c := 3) (by omega) memc_len h4 (hmC.trans hmc) (fun ht' => by
    obtain ⟨zs, g1, g2, g3⟩ := trod_flat hm hmone hmC hmk ht'
    obtain ⟨x, hx, hok⟩ := flat_mem zs g1 g3
    exact ⟨x, g2.trans hx.symm, hok⟩) (e4.trans rfl)
  have q0 : v0 = .int .u8 z0 := by simpa using hz0
  have q1 : v1 = .int .u8 z1 := by simpa using hz1
  have q2 : v2 = .int .u16 z2 := by simpa using hz2
  have q3 : v3 = .int .i64 z3 := by simpa using hz3
  have q4 : v4 = .slice A l.length cap := by simpa using hA
  subst q0 q1 q2 q3 q4
  exact ⟨⟨z0, z1, z2, z3, A, l, cap⟩, rfl, wf_u8 hw0, wf_u8 hw1, wf_u16 hw2, wf_i64 hw3, hc, hmx, hr, hw⟩
end
end Go.Proofs.Ytgkdljfhmflmjaa
