/-
  The reference's functions of chapter 7 do what the program's do.
-/
import Derived.Test.YthockpallaoelaaIdDrop
import Derived.Deep.QuietTactic
import Derived.BigQuiet
namespace Go.Proofs.Ythockpallaoelaa
open Go.RowKit

theorem any_snoc {l : List Id} {k : Nat} {x : Id} {p : Id → Bool} (h : ∀ j y, j < k → l[j]? = some y → p y = false) (hx : l[k]? = some x) (hp : p x = false) : ∀ j y, j < k + 1 → l[j]? = some y → p y = false := snoc_all h hx hp
theorem has_hit {l : List Id} {k : Nat} {x : Id} (h : l[k]? = some x) : hasB l x = true := by
  unfold hasB; rw [List.any_eq_true]
  obtain ⟨hk, he⟩ := List.getElem?_eq_some_iff.1 h
  exact ⟨l[k], List.getElem_mem hk, by simpa using he⟩
theorem has_miss {l : List Id} {x : Id} (h : ∀ j y, j < l.length → l[j]? = some y → decide (y = x) = false) : hasB l x = false := by
  rw [← has_idx, idx_miss h]; simp

set_option maxHeartbeats 1000000 in
theorem ref_has_any (l : List Id) (x : Id) (A : Option Addr) (cap : Nat) (w : World) (hr : Rd idc 3 w.heap.size w A l) (hlen : l.length ≤ 140737488355328) :
    Calls Try.prog 36 #[.slice A l.length cap, idv x] w fun e w' => e = .returned (.bool (hasB l x)) ∧ Below w.heap.size w w' := by
  go_enter Try.func36, Try.ntmps36
  go_wp2_with fail
  go_loopw [5] (fun i wr => ∃ k : Nat, k ≤ l.length ∧ i = .int .i64 k ∧ Below w.heap.size w wr ∧ Blk wr w.heap.size [.int .u8 x.n, .int .u16 x.i, .int .u32 x.s] ∧ Hid (∀ j y, j < k → l[j]? = some y → decide (y = x) = false)) (fun i _ => l.length - (intOf i).toNat)
  case atStart => exact ⟨0, Nat.zero_le _, rfl, Gw.al (Below.refl _ _) _, Blk.new w #[.int .u8 x.n, .int .u16 x.i, .int .u32 x.s] _, fun j y hj => absurd hj (Nat.not_lt_zero _)⟩
  case round =>
    obtain ⟨k, hk, rfl, hb, X, HH⟩ := hrel
    by_cases hlt : k < l.length
    · obtain ⟨y, hy⟩ : ∃ y, l[k]? = some y := ⟨_, List.getElem?_eq_getElem hlt⟩
      obtain ⟨b, o, rfl, hbb, e0, e1, e2⟩ := (hr.below hb).id3 hy
      obtain ⟨g0, g1, g2⟩ := X.c3
      have hax := eql_id y x
      have HY := Lib.hid hy
      clear hy hr
      cases hp : decide (y = x)
      all_goals
        have HP := Lib.hid hp
        go_wp2_with fail
        go_quiet (fail)
        go_wp2
      · go_roundw
        case rel => exact ⟨k + 1, by omega, by go_num, Gw.drewN hb _, X.drewN _, snoc_all (p := fun y => decide (y = x)) HH.out HY.out HP.out⟩
        case measure => simp [intOf]; omega
      · go_ret
        have : y = x := by simpa using HP.out
        exact ⟨ret_bool (has_hit (by rw [← this]; exact HY.out)).symm, Gw.drewN hb _⟩
    · obtain rfl : k = l.length := by omega
      go_wp2_with fail
      go_ret
      exact ⟨ret_bool (has_miss HH.out).symm, hb⟩

end Go.Proofs.Ythockpallaoelaa
