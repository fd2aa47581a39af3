/-
  digest.Newer: marks are triples as ids are.
-/
import Derived.Test.YtcclnfpegepcnaaIds
import Derived.Test.YtcclnfpegepcnaaFlatId
namespace Go.Proofs.Ytcclnfpegepcnaa
open Go.RowKit
def newerB (x y : Id) : Bool := decide (x.n = y.n ∧ (y.i < x.i ∨ x.i = y.i ∧ y.s < x.s))
set_option maxHeartbeats 1000000 in
theorem newer_any (x y : Id) (w : World) : Calls Try.prog 16 #[idv x, idv y] w fun e w' => e = .returned (.bool (newerB x y)) ∧ Below w.heap.size w w' := by
  have b0 := Gw.al (Gw.al (Below.refl w.heap.size w) (.cells #[.int .u8 x.n, .int .u16 x.i, .int .u32 x.s] 40)) (.cells #[.int .u8 y.n, .int .u16 y.i, .int .u32 y.s] 40)
  by_cases h0 : x.n = y.n
  · have t0 : (x.n != y.n) = false := by rw [h0]; simp
    by_cases h1 : x.i = y.i
    · have t1 : (x.i != y.i) = false := by rw [h1]; simp
      have hres : newerB x y = decide (y.s < x.s) := by
        unfold newerB; rw [decide_eq_decide]; constructor
        · rintro ⟨_, h | ⟨_, h⟩⟩ <;> omega
        · exact fun h => ⟨h0, .inr ⟨h1, h⟩⟩
      rw [hres]
      clear h0 h1 hres
      go_enter Try.func16, Try.ntmps16
      go_wp2_with fail
      go_ret
      exact ⟨rfl, b0⟩
    · have t1 : (x.i != y.i) = true := by rw [bne_iff_ne]; exact h1
      have hres : newerB x y = decide (y.i < x.i) := by
        unfold newerB; rw [decide_eq_decide]; constructor
        · rintro ⟨_, h | ⟨h, _⟩⟩
          · exact h
          · exact absurd h h1
        · exact fun h => ⟨h0, .inl h⟩
      rw [hres]
      clear h0 h1 hres
      go_enter Try.func16, Try.ntmps16
      go_wp2_with fail
      go_ret
      exact ⟨rfl, b0⟩
  · have t0 : (x.n != y.n) = true := by rw [bne_iff_ne]; exact h0
    have hres : newerB x y = false := by
      unfold newerB; rw [decide_eq_false_iff_not]; exact fun h => h0 h.1
    rw [hres]
    clear h0 hres
    go_enter Try.func16, Try.ntmps16
    go_wp2_with fail
    go_ret
    exact ⟨rfl, b0⟩
end Go.Proofs.Ytcclnfpegepcnaa
