/-
  slices.Clone of marks.
-/
import Derived.Test.YtcclnfpegepcnaaRep
import Derived.Test.YtcclnfpegepcnaaOwnPut
namespace Go.Proofs.Ytcclnfpegepcnaa
open Go.RowKit
set_option maxHeartbeats 1000000 in
theorem cloneMk_any (l : List Id) (A : Option Addr) (cap : Nat) (w : World) (hr : Rd idc 3 w.heap.size w A l) (hlen : l.length ≤ 1000000) :
    Calls Try.prog 35 #[.slice A l.length cap] w fun e w' => ∃ A' c', e = .returned (.slice A' l.length c') ∧ Own idc 3 40 w.heap.size w' (.slice A' l.length c') l ∧ Below w.heap.size w w' := by
  obtain ⟨i0, hi, hz0, hz1, hz2⟩ := info_parts Try.infoMk
  have q22 := fun (w : World) (a : Option Addr) (n c n' c' : Nat) => Lib.run_eql_slice_nil (P := Try.prog) w 29 _ a n c n' c' Try.underlying29
  rcases A with _ | ad
  · obtain rfl : l = [] := by
      rcases l with _ | ⟨x, l⟩
      · rfl
      · obtain ⟨b, o, h, _⟩ := hr (by simp); cases h
    go_enter Try.func35, Try.ntmps35
    go_wp2
    go_ret
    exact ⟨none, 0, rfl, Own.nil_, Below.refl _ _⟩
  · go_enter Try.func35, Try.ntmps35
    go_wp2_with (at_builtin; refine wpList_app _ rfl _ _ 29 rfl w.heap.size 40 i0 _ 8 Try.underlying29 hi hz0 hz1 hz2 rfl (by omega) idc_len idc_one (.slice (some ⟨w.heap.size, 0, none⟩) 0 0) [] rfl (Own.lit w #[] 0 (Nat.le_refl _) (Nat.zero_le _) rfl rfl rfl) 0 rfl (w.heap.size + 1) (some ad) l.length cap l rfl rfl ((hr.below (Below.alloc (Below.refl _ _) (Nat.le_refl _) _)).mono (Nat.le_succ _)) (by omega) (by omega) (by simp) ?_; intro A' c' w1 hown hg; simp only [Nat.zero_add, List.nil_append] at hown)
    go_ret
    refine ⟨A', c', rfl, hown, ?_⟩
    exact ((Below.refl _ w).alloc (Nat.le_refl _) _).grown hg (by simp) (by intro k hk; simp [Value.ownBlock] at hk; omega)
end Go.Proofs.Ytcclnfpegepcnaa
