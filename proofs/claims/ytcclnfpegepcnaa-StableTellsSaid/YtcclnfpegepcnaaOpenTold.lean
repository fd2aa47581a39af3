/-
  Reading a slice of what is told: a struct of an integer, a slice of marks and a bool (19).
-/
import Derived.Test.YtcclnfpegepcnaaOpen
import Derived.Test.YtcclnfpegepcnaaFlatId
namespace Go.Proofs.Ytcclnfpegepcnaa
open Go.RowKit Go.ChangeShapes Go.WideShapes Go.ChangeAt Go.Deep
structure TdV where
  m : Int
  A : Option Addr
  l : List Id
  cap : Nat
  f : Bool
deriving Inhabited
def tdc (x : TdV) : List Value := [.int .u8 x.m, .slice x.A x.l.length x.cap, .bool x.f]
theorem tdc_len (x : TdV) : (tdc x).length = 3 := rfl
theorem tdc_one (x : TdV) : ∀ u ∈ tdc x, u.oneCell' = true := by intro u hu; simp [tdc] at hu; rcases hu with rfl | rfl | rfl <;> rfl
def TdV.ok (w : World) (x : TdV) : Prop := (0 ≤ x.m ∧ x.m ≤ 255) ∧ x.l.length ≤ x.cap ∧ x.cap ≤ maxLen ∧ Rd idc 3 w.heap.size w x.A x.l ∧ ∀ m ∈ x.l, m.ok
section
variable {P : Program} {H : Type} {enc : TypeId × Value → H} {w : World} {base : Nat} {spare : Nat → Bool} {held : Bool}
theorem trod_told {t tm e : TypeId} {fs fm : Array Field} {f0 f1 f2 : Field} {fuel : Nat} {cs : List Value} {y : DataW H × List MemPlace}
    (ht : P.underlying t = some (.struct fs)) (hone : oneCellFields P fs = true) (hC : P.cellsOf t = fs.size) (hfs : fs = #[f0, f1, f2])
    (h0 : P.underlying f0.type = some (.int .u8)) (h1 : P.underlying f1.type = some (.slice tm)) (h2 : P.underlying f2.type = some .bool) (he : tm = e)
    (hm : P.underlying e = some (.struct fm)) (hmone : oneCellFields P fm = true) (hmC : P.cellsOf e = fm.size) (hmc : fm.size = 3) (hmk : intFields P fm [.u8, .u16, .u32] = true)
    (hf : DataW.trod enc P w base spare held fuel t cs = some y) : ∃ x : TdV, cs = tdc x ∧ x.ok w := by
  subst he
  obtain ⟨ys, n, _, _, hlen, hyl, hff⟩ := DataW.trod_struct ht hf
  rw [hC, hfs] at hlen
  subst hfs
  have e0 := hff 0 f0 rfl
  have e1 := hff 1 f1 rfl
  have e2 := hff 2 f2 rfl
  obtain ⟨o0, c0⟩ := hone_of hone 0 f0 rfl
  obtain ⟨o1, c1⟩ := hone_of hone 1 f1 rfl
  obtain ⟨o2, c2⟩ := hone_of hone 2 f2 rfl
  rw [o0, c0] at e0
  rw [o1, c1] at e1
  rw [o2, c2] at e2
  obtain ⟨v0, v1, v2, rfl⟩ : ∃ a b c, cs = [a, b, c] := by
    match cs, hlen with
    | [a, b, c], _ => exact ⟨a, b, c, rfl⟩
  obtain ⟨y0, y1, y2, rfl⟩ : ∃ a b c, ys = [a, b, c] := by
    match ys, hyl with
    | [a, b, c], _ => exact ⟨a, b, c, rfl⟩
  obtain ⟨z0, hz0, _, hw0⟩ := DataW.trod_int h0 (e0.trans rfl)
  obtain ⟨A, l, cap, hA, hc, hmx, hr, hw⟩ := trod_sl (encf := idc) (ok := Id.ok) (c := 3) (by omega) idc_len h1 (hmC.trans hmc) (fun ht' => by
    obtain ⟨zs, g1, g2, g3⟩ := trod_flat hm hmone hmC hmk ht'
    obtain ⟨x, hx, hok⟩ := flat_id zs g1 g3
    exact ⟨x, g2.trans hx.symm, hok⟩) (e1.trans rfl)
  obtain ⟨z2, hz2, _⟩ := DataW.trod_bool h2 (e2.trans rfl)
  have q0 : v0 = .int .u8 z0 := by simpa using hz0
  have q1 : v1 = .slice A l.length cap := by simpa using hA
  have q2 : v2 = .bool z2 := by simpa using hz2
  subst q0 q1 q2
  exact ⟨⟨z0, A, l, cap, z2⟩, rfl, wf_u8 hw0, hc, hmx, hr, hw⟩
end
end Go.Proofs.Ytcclnfpegepcnaa
