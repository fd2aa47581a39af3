/-
  stable.New and stable.copied (19).
-/
import Derived.Test.YtcclnfpegepcnaaBlank
namespace Go.Proofs.Ytcclnfpegepcnaa
open Go.RowKit
theorem Apart.symm {u v : Value} (h : Apart u v) : Apart v u := fun k hk hv => h k hv hk
theorem rep_len {rs : List RsV} {rows : List (List Id)} (h : rs.map RsV.l = rows) : rows.length = rs.length := by rw [← h, List.length_map]
set_option maxRecDepth 100000 in
set_option maxHeartbeats 4000000 in
theorem new_any (n : Nat) (w : World) (h2 : n ≤ 256) :
    Calls Try.prog 17 #[.int .i64 n] w fun e w' => ∃ A' c', e = .returned (.slice A' n c') ∧ RepO w.heap.size w' (.slice A' n c') (List.replicate n (blank n)) ∧ Below w.heap.size w w' := by
  obtain ⟨i0, hi0, hz0, hz1, hz2⟩ := info_parts Try.infoMkS
  have hmi : (if (256 : Int) < (n : Int) then (256 : Int) else (n : Int)) = (n : Int) := by split <;> omega
  go_enter Try.func17, Try.ntmps17
  go_wp2_with fail
  go_loopw [3, 4] (fun t i wr => ∃ (k : Nat) (A : Option Addr) (c : Nat), k ≤ n ∧ i = .int .i64 k ∧ t = .slice A k c ∧ RepO w.heap.size wr (.slice A k c) (List.replicate k (blank n)) ∧ Below w.heap.size w wr) (fun _ i _ => n - (intOf i).toNat)
  case atStart => exact ⟨0, none, 0, Nat.zero_le _, rfl, rfl, RepO.nil_, Below.refl _ _⟩
  case round =>
    obtain ⟨k, A, c, hk, rfl, rfl, ⟨rs, hrs, rx⟩, bl⟩ := hrel
    have hkl : k = rs.length := by have := rep_len hrs; simpa using this
    by_cases hlt : k < n
    · have ki : (k : Int) < (n : Int) := by omega
      have HKL := Lib.hid hkl
      clear hkl
      go_wp2_with fail
      refine (blank_any n _ h2).mono ?_
      rintro e w2 ⟨A2, c2, rfl, o2, hb⟩
      have hf : Hid (∀ y ∈ rs, Apart y.v (RsV.v ⟨A2, blank n, c2⟩)) := Lib.hid fun y hy => Apart.symm (by
        have := Apart.newer (rx.row y hy) o2
        show Apart (.slice A2 (blank n).length c2) _
        rw [blank_len]; exact this)
      have ox : Own idc 3 40 w.heap.size w2 (RsV.v ⟨A2, blank n, c2⟩) (blank n) := by
        show Own idc 3 _ _ _ (.slice A2 (blank n).length c2) _
        rw [blank_len]; exact o2.base_le bl.size
      have rx2 := rx.keep hb
      have b2 := Gw.call bl hb
      clear hb bl rx o2
      have LT : Rd rsc 1 (w2.alloc (.cells #[.slice A2 n c2] 29)).heap.size (w2.alloc (.cells #[.slice A2 n c2] 29)) (some ⟨w2.heap.size, 0, none⟩) [(⟨A2, blank n, c2⟩ : RsV)] := by
        rw [World.size_alloc]; exact Rd.lit rsc_len w2 _ rfl _ _ _ (by simp [rsc, blank_len])
      have b3 := Gw.al b2 (.cells #[.slice A2 n c2] 29)
      have rx3 := rx2.keep (Below.alloc (Below.refl _ _) (Nat.le_refl _) (.cells #[.slice A2 n c2] 29))
      have ox3 := ox.alloc (.cells #[.slice A2 n c2] 29)
      clear rx2 ox b2
      go_wp2_with (first | (at_builtin; refine wpList_app _ rfl _ _ 35 rfl w.heap.size 29 i0 _ 24 Try.underlying35 hi0 hz0 hz1 hz2 rfl (by omega) rsc_len rsc_one (.slice A k c) rs rfl rx3.out k HKL.out _ _ 1 1 [(⟨A2, blank n, c2⟩ : RsV)] rfl rfl LT (by omega) (by omega) b3.size ?_; intro A4 c4 w4 o4 hg) | fail)
      have rx4 := rx3.snoc hg o4 ox3 hf.out
      have b4 := Gw.gr b3 hg rx3.out.lt
      go_roundw
      case rel => exact ⟨k + 1, A4, c4, hlt, by go_num, rfl, ⟨_, by rw [List.map_append, hrs]; simp [List.replicate_succ'], rx4⟩, b4⟩
      case measure => simp [intOf]; omega
    · obtain rfl : k = n := by omega
      go_wp2_with fail
      go_ret
      exact ⟨A, c, rfl, ⟨rs, hrs, rx⟩, bl⟩
set_option maxHeartbeats 400000 in
theorem new_none (n : Int) (w : World) (h : n ≤ 0) :
    Calls Try.prog 17 #[.int .i64 n] w fun e w' => e = .returned (.slice none 0 0) ∧ Below w.heap.size w w' := by
  have hmi : (if (256 : Int) < n then (256 : Int) else n) = n := by split <;> omega
  have t1 : decide (0 < n) = false := by simp; omega
  go_enter Try.func17, Try.ntmps17
  go_wp2_with fail
  go_loopw [3, 4] (fun t i wr => i = .int .i64 0 ∧ t = .slice none 0 0 ∧ Below w.heap.size w wr) (fun _ _ _ => 0)
  case atStart => exact ⟨rfl, rfl, Below.refl _ _⟩
  case round =>
    obtain ⟨rfl, rfl, bl⟩ := hrel
    go_wp2_with fail
    go_ret
    exact ⟨rfl, bl⟩
end Go.Proofs.Ytcclnfpegepcnaa
