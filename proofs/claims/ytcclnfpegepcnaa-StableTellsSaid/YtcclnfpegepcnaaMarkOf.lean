/-
  seen.Mark.
-/
import Derived.Test.YtcclnfpegepcnaaIds
import Derived.Test.YtcclnfpegepcnaaFlatId
import Derived.Test.YtcclnfpegepcnaaRow
import Derived.Test.YtcclnfpegepcnaaObj
namespace Go.Proofs.Ytcclnfpegepcnaa
open Go.RowKit
theorem markof_any (n : Int) (r : Rw) (w : World) : Calls Try.prog 29 #[.int .u8 n, rwv r] w fun e w' => e = .returned (idv ⟨n, r.i, r.p⟩) ∧ Below w.heap.size w w' := by
  have b0 := Gw.al (Gw.al (Below.refl w.heap.size w) (.cells #[.int .u16 r.i, .int .u32 r.p, .int .u64 r.b] 44)) (.cells #[.int .u8 n, .int .u16 r.i, .int .u32 r.p] 40)
  have M := Ob.new (w.alloc (.cells #[.int .u16 r.i, .int .u32 r.p, .int .u64 r.b] 44)) #[.int .u8 n, .int .u16 r.i, .int .u32 r.p] 40
  simp only [World.size_alloc] at M
  have m0 := M.blk.2.1 0 _ rfl
  have m1 := M.blk.2.1 1 _ rfl
  have m2 := M.blk.2.1 2 _ rfl
  go_enter Try.func29, Try.ntmps29
  go_wp2_with fail
  refine bodyPost_ret (v := idv ⟨n, r.i, r.p⟩) (by simp [results, Try.results29, go_sem, m0, m1, m2]) rfl ⟨rfl, b0⟩
end Go.Proofs.Ytcclnfpegepcnaa
