/-
  PushHops: the walk.
-/
import Derived.Test.YtbkmfmemcooagaaAwake16
import Derived.Test.YtbkmfmemcooagaaFrame
namespace Go.Proofs.Ytbkmfmemcooagaa
open Go.RowKit

set_option maxHeartbeats 1000000 in
theorem hops_any (h : Int) (hh : 0 ≤ h ∧ h ≤ 255) (w : World) :
    Calls Try.prog 7 #[.int .u8 h] w fun e w' => e = .returned (.bool true) ∧ Below w.heap.size w w' := by
  obtain ⟨h1, h2⟩ := hh
  go_enter Try.func7, Try.ntmps7
  go_wp2_with fail
  go_loop [3, 4] (fun n x => ∃ y : Int, 0 ≤ y ∧ y ≤ h ∧ n = .int .i64 (h - y) ∧ x = .int .u8 y) (fun _ x => (intOf x).toNat)
  case atStart => exact ⟨h, h1, Int.le_refl _, by go_num, rfl⟩
  case round =>
    obtain ⟨y, hy0, hyh, rfl, rfl⟩ := hrel
    by_cases hc : y = 0
    · subst hc
      go_wp2_with (first
        | (go_at_call 9; (with_reducible refine (hop_zero _).mono ?_); rintro e w' ⟨rfl, rfl⟩)
        | (go_at_call 8; (with_reducible refine (awake_any _).mono ?_); rintro e w' ⟨rfl, hb⟩))
      go_ret
      exact ⟨rfl, hb⟩
    · have hy1 : 0 < y := by omega
      have e1 : decide (y = 0) = false := by simpa using hc
      go_wp2_with (first
        | (go_at_call 9; (with_reducible refine (hop_more y hy1 (by omega) _).mono ?_); rintro e w' ⟨rfl, rfl⟩))
      go_round
      case rel => exact ⟨y - 1, by omega, by omega, by go_num, rfl⟩
      case measure => simp [intOf]; omega
end Go.Proofs.Ytbkmfmemcooagaa
