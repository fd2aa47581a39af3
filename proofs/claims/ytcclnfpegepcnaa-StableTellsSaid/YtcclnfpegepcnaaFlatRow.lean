/-
  A row is three integers.
-/
import Derived.Test.YtcclnfpegepcnaaFlatId
import Derived.Test.YtcclnfpegepcnaaRow
namespace Go.Proofs.Ytcclnfpegepcnaa
instance : Inhabited Rw := ⟨⟨0, 0, 0⟩⟩
theorem flat_row : Flat rowc [.u16, .u32, .u64] Rw.ok := by
  intro zs hl hw
  match zs, hl with
  | [a, b, c], _ => exact ⟨⟨a, b, c⟩, rfl, wf_u16 (hw 0 _ _ rfl rfl), wf_u32 (hw 1 _ _ rfl rfl), wf_u64 (hw 2 _ _ rfl rfl)⟩
end Go.Proofs.Ytcclnfpegepcnaa
