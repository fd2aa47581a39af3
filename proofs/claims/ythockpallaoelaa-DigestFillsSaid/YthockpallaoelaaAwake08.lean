/-
  The chapter's examples: grapevinelaw08.awake returns true.
-/
import Derived.Test.YthockpallaoelaaRight
namespace Go.Proofs.Ythockpallaoelaa
open Go.RowKit

def tabCells : List Value := [.int .i64 1, .int .i64 2, .bool true, .int .u16 1, .int .u32 0, .int .u64 2, .int .i64 1, .int .i64 1, .bool true, .int .u16 1, .int .u32 2, .int .u64 0, .int .i64 1, .int .i64 2, .bool false, .int .u16 1, .int .u32 2, .int .u64 0, .int .i64 1, .int .i64 7, .bool false, .int .u16 1, .int .u32 2, .int .u64 0, .int .i64 1, .int .i64 6, .bool true, .int .u16 1, .int .u32 2, .int .u64 8, .int .i64 2, .int .i64 1, .bool true, .int .u16 2, .int .u32 1, .int .u64 0, .int .i64 1, .int .i64 3, .bool false, .int .u16 2, .int .u32 1, .int .u64 0]
def stCells : Nat → List Value
  | 0 => [.int .u16 0, .int .u32 0, .int .u64 0]
  | 1 => [.int .u16 1, .int .u32 0, .int .u64 2]
  | 2 => [.int .u16 1, .int .u32 2, .int .u64 0]
  | 3 => [.int .u16 1, .int .u32 2, .int .u64 0]
  | 4 => [.int .u16 1, .int .u32 2, .int .u64 0]
  | 5 => [.int .u16 1, .int .u32 2, .int .u64 8]
  | 6 => [.int .u16 2, .int .u32 1, .int .u64 0]
  | 7 => [.int .u16 2, .int .u32 1, .int .u64 0]
  | _ => []
theorem fits_zero : fitsR 0 0 := ⟨by omega, by omega, by omega, by omega, fun j hj => by simp [tb] at hj⟩
theorem fits_lit {p b : Int} (h1 : 0 ≤ b) (h2 : b ≤ 15) (h3 : 0 ≤ p) (h4 : p ≤ 1000) : fitsR p b := by
  refine ⟨h1, by omega, h3, by omega, fun j hj => ?_⟩
  rcases Nat.lt_or_ge j 64 with h | h
  · omega
  · rw [tb_high h1 (by omega) h] at hj; cases hj

end Go.Proofs.Ythockpallaoelaa
