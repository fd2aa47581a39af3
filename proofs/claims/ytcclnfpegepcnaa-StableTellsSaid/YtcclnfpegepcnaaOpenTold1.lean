/-
  One thing that is told, as an argument (19).
-/
import Derived.Test.YtcclnfpegepcnaaOpenTold
namespace Go.Proofs.Ytcclnfpegepcnaa
open Go.RowKit Go.ChangeShapes Go.WideShapes Go.ChangeAt Go.Deep
section
variable {P : Program} {H : Type} {enc : TypeId × Value → H} {w : World} {base : Nat} {spare : Nat → Bool} {held : Bool}
theorem open_told {t tm e : TypeId} {fs fm : Array Field} {f0 f1 f2 : Field} {r : Reach} {b0 : Nat} {v : Value} {d : DataW H} {p : List MemPlace}
    (ht : P.underlying t = some (.struct fs)) (hone : oneCellFields P fs = true) (hC : P.cellsOf t = fs.size) (hfs : fs = #[f0, f1, f2])
    (h0 : P.underlying f0.type = some (.int .u8)) (h1 : P.underlying f1.type = some (.slice tm)) (h2 : P.underlying f2.type = some .bool) (he : tm = e)
    (hm : P.underlying e = some (.struct fm)) (hmone : oneCellFields P fm = true) (hmC : P.cellsOf e = fm.size) (hmc : fm.size = 3) (hmk : intFields P fm [.u8, .u16, .u32] = true)
    (hv : Value.okWide P w r b0 t v) (h : DataW.Trod enc P w base spare held t v d p) :
    ∃ x : TdV, v = .agg #[.int .u8 x.m, .slice x.A x.l.length x.cap, .bool x.f] ∧ x.ok w := by
  obtain ⟨cs, rfl, _⟩ := okWide_struct ht hv
  obtain ⟨fuel, hf⟩ := h
  obtain ⟨x, hx, hok⟩ := trod_told ht hone hC hfs h0 h1 h2 he hm hmone hmC hmc hmk hf
  refine ⟨x, ?_, hok⟩
  have : cs.toList = [.int .u8 x.m, .slice x.A x.l.length x.cap, .bool x.f] := by
    simpa [Value.cells, tdc] using hx
  congr 1
  rw [← Array.toArray_toList (xs := cs), this]
end
end Go.Proofs.Ytcclnfpegepcnaa
