/-
  An id is three integers.
-/
import Derived.Test.YtfdppebbpcjhjaaFrame
import Derived.Test.YtfdppebbpcjhjaaIds
namespace Go.Proofs.Ytfdppebbpcjhjaa
instance : Inhabited Id := ⟨⟨0, 0, 0⟩⟩
theorem flat_id : Flat idc [.u8, .u16, .u32] Id.ok := by
  intro zs hl hw
  match zs, hl with
  | [a, b, c], _ => exact ⟨⟨a, b, c⟩, rfl, wf_u8 (hw 0 _ _ rfl rfl), wf_u16 (hw 1 _ _ rfl rfl), wf_u32 (hw 2 _ _ rfl rfl)⟩
end Go.Proofs.Ytfdppebbpcjhjaa
