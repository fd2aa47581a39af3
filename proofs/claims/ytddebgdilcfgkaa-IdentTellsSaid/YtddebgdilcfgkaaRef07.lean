/-
  The reference's functions of chapter 7 do what the program's do.
-/
import Derived.Test.YtddebgdilcfgkaaIdDrop
import Derived.Deep.QuietTactic
import Derived.BigQuiet
namespace Go.Proofs.Ytddebgdilcfgkaa
open Go.RowKit

set_option maxHeartbeats 400000 in
theorem ref_right_any (x : Id) (nodes last : Int) (hx : x.ok) (w : World) :
    Calls Try.prog 13 #[idv x, .int .i64 nodes, .int .u32 last] w fun e w' => e = .returned (.bool (rightB x nodes last)) ∧ Below w.heap.size w w' := by
  obtain ⟨⟨h1, h2⟩, _⟩ := hx
  go_enter Try.func13, Try.ntmps13
  go_wp2
  all_goals go_ret
  all_goals refine ⟨ret_bool ?_, (Below.refl _ _).alloc (Nat.le_refl _) _⟩
  all_goals go_tidy
  all_goals (rw [Bool.eq_iff_iff]; simp [rightB]; omega)

set_option maxHeartbeats 400000 in
theorem ref_less_any (x y : Id) (w : World) :
    Calls Try.prog 14 #[idv x, idv y] w fun e w' => e = .returned (.bool (lessB x y)) ∧ Below w.heap.size w w' := by
  go_enter Try.func14, Try.ntmps14
  go_wp2
  all_goals go_ret
  all_goals refine ⟨ret_bool ?_, ((Below.refl _ _).alloc (Nat.le_refl _) _).alloc (by simp) _⟩
  all_goals go_tidy
  all_goals simp_all [lessB]
  all_goals omega

set_option maxHeartbeats 400000 in
theorem ref_next_no (x : Id) (last : Int) (hx : x.ok) (hl : last ≤ x.s) (w : World) :
    Calls Try.prog 12 #[idv x, .int .u32 last] w fun e w' => e = .returned (.tuple #[idv ⟨0, 0, 0⟩, .int .i64 55]) ∧ Below w.heap.size w w' := by
  go_enter Try.func12, Try.ntmps12
  go_wp2
  refine bodyPost_ret (v := .tuple #[.agg #[.int .u8 0, .int .u16 0, .int .u32 0], .int .i64 55]) (by simp [results, Try.results12, go_sem]) rfl ⟨rfl, ((Below.refl _ _).alloc (Nat.le_refl _) _).alloc (by simp) _⟩

set_option maxHeartbeats 400000 in
theorem ref_next_yes (x : Id) (last : Int) (hx : x.ok) (hl : x.s < last) (h9 : last ≤ 4294967295) (w : World) :
    Calls Try.prog 12 #[idv x, .int .u32 last] w fun e w' => e = .returned (.tuple #[idv ⟨x.n, x.i, x.s + 1⟩, .int .i64 0]) ∧ Below w.heap.size w w' := by
  obtain ⟨_, _, h3, h4⟩ := hx
  go_enter Try.func12, Try.ntmps12
  go_wp2
  refine bodyPost_ret (v := .tuple #[.agg #[.int .u8 x.n, .int .u16 x.i, .int .u32 (x.s + 1)], .int .i64 0]) (by simp [results, Try.results12, go_sem]) rfl ⟨rfl, ((Below.refl _ _).alloc (Nat.le_refl _) _).alloc (by simp) _⟩

set_option maxHeartbeats 800000 in
theorem ref_rising_any (l : List Id) (A : Option Addr) (cap : Nat) (w : World) (hr : Rd idc 3 w.heap.size w A l) (hlen : l.length ≤ 140737488355328) :
    Calls Try.prog 16 #[.slice A l.length cap] w fun e w' => e = .returned (.bool (risingB l)) ∧ Below w.heap.size w w' := by
  go_enter Try.func16, Try.ntmps16
  go_wp2_with fail
  go_loopw [3] (fun i wr => ∃ k : Nat, 1 ≤ k ∧ (k ≤ l.length ∨ k = 1) ∧ i = .int .i64 k ∧ Below w.heap.size w wr ∧ Hid (∀ j x y, j + 1 < k → l[j]? = some x → l[j + 1]? = some y → lessB x y = true)) (fun i _ => l.length - (intOf i).toNat)
  case atStart => exact ⟨1, by omega, .inr rfl, rfl, Below.refl _ _, fun j x y hj => absurd hj (by omega)⟩
  case round =>
    obtain ⟨k, hk1, hk, rfl, hb, HH⟩ := hrel
    by_cases hlt : k < l.length
    · obtain ⟨x, hx⟩ : ∃ x, l[k - 1]? = some x := ⟨_, List.getElem?_eq_getElem (by omega)⟩
      obtain ⟨y, hy⟩ : ∃ y, l[k]? = some y := ⟨_, List.getElem?_eq_getElem hlt⟩
      obtain ⟨b, o, rfl, hbb, e0, e1, e2⟩ := (hr.below hb).id3 hx
      obtain ⟨b', o', hA, _, f0, f1, f2⟩ := (hr.below hb).id3 hy
      injection hA with hA
      injection hA with hA1 hA2
      subst hA1 hA2
      have HX := Lib.hid hx
      have HY := Lib.hid hy
      clear hx hy hr hk
      have hcc := fun W => ref_less_any x y W
      cases hp : lessB x y
      all_goals
        rw [hp] at hcc
        have HP := Lib.hid hp
        have HC := Lib.hid hcc
        clear hp hcc
        go_wp2_with fail
        have k1 : IntKind.i64.wrap ((k : Int) - 1) = (k : Int) - 1 := IntWalk.i64_in _ (by omega)
        have k2 : (k : Int) - 1 < (l.length : Int) := by omega
        have k3 : (k : Int) < (l.length : Int) := by omega
        have k4 : (0 : Int) ≤ (k : Int) - 1 := by omega
        have k5 : ((k : Int) - 1).toNat = k - 1 := by omega
        have k7 : (1 : Int) ≤ (k : Int) := by omega
        go_region_with (go_at_call 14; refine (HC.out _).mono ?_; rintro e w1 ⟨rfl, hb1⟩)
        all_goals
          clear k1 k2 k3 k4 k5 k7
          go_wp2
      · go_ret
        exact ⟨ret_bool (rising_no (k := k - 1) HX.out (by rw [show k - 1 + 1 = k by omega]; exact HY.out) HP.out).symm, Gw.call (Below.drew hb) hb1⟩
      · go_ret
        exact ⟨ret_bool (rising_no (k := k - 1) HX.out (by rw [show k - 1 + 1 = k by omega]; exact HY.out) HP.out).symm, Gw.call (Below.drew hb) hb1⟩
      · go_roundw
        case rel => exact ⟨k + 1, by omega, by omega, by go_num, Gw.call (Below.drew hb) hb1, rising_snoc HH.out hk1 HX.out HY.out HP.out⟩
        case measure => simp [intOf]; omega
      · go_roundw
        case rel => exact ⟨k + 1, by omega, by omega, by go_num, Gw.call (Below.drew hb) hb1, rising_snoc HH.out hk1 HX.out HY.out HP.out⟩
        case measure => simp [intOf]; omega
    · go_wp2_with fail
      go_ret
      exact ⟨ret_bool (by symm; exact rising_yes (fun j x y hj => HH.out j x y (by omega))), hb⟩


theorem any_snoc {l : List Id} {k : Nat} {x : Id} {p : Id → Bool} (h : ∀ j y, j < k → l[j]? = some y → p y = false) (hx : l[k]? = some x) (hp : p x = false) : ∀ j y, j < k + 1 → l[j]? = some y → p y = false := snoc_all h hx hp
theorem has_hit {l : List Id} {k : Nat} {x : Id} (h : l[k]? = some x) : hasB l x = true := by
  unfold hasB; rw [List.any_eq_true]
  obtain ⟨hk, he⟩ := List.getElem?_eq_some_iff.1 h
  exact ⟨l[k], List.getElem_mem hk, by simpa using he⟩
theorem has_miss {l : List Id} {x : Id} (h : ∀ j y, j < l.length → l[j]? = some y → decide (y = x) = false) : hasB l x = false := by
  rw [← has_idx, idx_miss h]; simp

set_option maxHeartbeats 1000000 in
theorem ref_has_any (l : List Id) (x : Id) (A : Option Addr) (cap : Nat) (w : World) (hr : Rd idc 3 w.heap.size w A l) (hlen : l.length ≤ 140737488355328) :
    Calls Try.prog 18 #[.slice A l.length cap, idv x] w fun e w' => e = .returned (.bool (hasB l x)) ∧ Below w.heap.size w w' := by
  go_enter Try.func18, Try.ntmps18
  go_wp2_with fail
  go_loopw [5] (fun i wr => ∃ k : Nat, k ≤ l.length ∧ i = .int .i64 k ∧ Below w.heap.size w wr ∧ Blk wr w.heap.size [.int .u8 x.n, .int .u16 x.i, .int .u32 x.s] ∧ Hid (∀ j y, j < k → l[j]? = some y → decide (y = x) = false)) (fun i _ => l.length - (intOf i).toNat)
  case atStart => exact ⟨0, Nat.zero_le _, rfl, Gw.al (Below.refl _ _) _, Blk.new w #[.int .u8 x.n, .int .u16 x.i, .int .u32 x.s] _, fun j y hj => absurd hj (Nat.not_lt_zero _)⟩
  case round =>
    obtain ⟨k, hk, rfl, hb, X, HH⟩ := hrel
    by_cases hlt : k < l.length
    · obtain ⟨y, hy⟩ : ∃ y, l[k]? = some y := ⟨_, List.getElem?_eq_getElem hlt⟩
      obtain ⟨b, o, rfl, hbb, e0, e1, e2⟩ := (hr.below hb).id3 hy
      obtain ⟨g0, g1, g2⟩ := X.c3
      have hax := eql_id y x
      have HY := Lib.hid hy
      clear hy hr
      cases hp : decide (y = x)
      all_goals
        have HP := Lib.hid hp
        go_wp2_with fail
        go_quiet (fail)
        go_wp2
      · go_roundw
        case rel => exact ⟨k + 1, by omega, by go_num, Gw.drewN hb _, X.drewN _, snoc_all (p := fun y => decide (y = x)) HH.out HY.out HP.out⟩
        case measure => simp [intOf]; omega
      · go_ret
        have : y = x := by simpa using HP.out
        exact ⟨ret_bool (has_hit (by rw [← this]; exact HY.out)).symm, Gw.drewN hb _⟩
    · obtain rfl : k = l.length := by omega
      go_wp2_with fail
      go_ret
      exact ⟨ret_bool (has_miss HH.out).symm, hb⟩

set_option maxHeartbeats 2000000 in
theorem ref_drop_any (l : List Id) (x : Id) (A : Option Addr) (cap : Nat) (w : World) (hr : Rd idc 3 w.heap.size w A l) (hlen : l.length ≤ 1000000) :
    Calls Try.prog 23 #[.slice A l.length cap, idv x] w fun e w' => ∃ A' c', e = .returned (.slice A' (dropL l x).length c') ∧ Own idc 3 25 w.heap.size w' (.slice A' (dropL l x).length c') (dropL l x) ∧ Below w.heap.size w w' := by
  obtain ⟨i0, hi, hz0, hz1, hz2⟩ := info_parts Try.infoId
  go_enter Try.func23, Try.ntmps23
  go_wp2_with fail
  go_loopw [5, 6] (fun v i wr => ∃ (k : Nat) (A' : Option Addr) (c' : Nat), k ≤ l.length ∧ i = .int .i64 k ∧ v = .slice A' (dropL (l.take k) x).length c' ∧ Own idc 3 25 (w.heap.size + 1) wr (.slice A' (dropL (l.take k) x).length c') (dropL (l.take k) x) ∧ Below w.heap.size w wr ∧ Blk wr w.heap.size [.int .u8 x.n, .int .u16 x.i, .int .u32 x.s]) (fun _ i _ => l.length - (intOf i).toNat)
  case atStart => exact ⟨0, none, 0, Nat.zero_le _, rfl, rfl, Own.nil_, (Below.refl _ _).alloc (Nat.le_refl _) _, Blk.new w #[.int .u8 x.n, .int .u16 x.i, .int .u32 x.s] _⟩
  case round =>
    obtain ⟨k, A1, c1, hk, rfl, rfl, hown, hb, B⟩ := hrel
    have hdl := dropL_len (l.take k) x
    have htl : (l.take k).length ≤ k := List.length_take_le _ _
    by_cases hlt : k < l.length
    · obtain ⟨z, hz⟩ : ∃ z, l[k]? = some z := ⟨_, List.getElem?_eq_getElem hlt⟩
      obtain ⟨b, o, rfl, hbb, e0, e1, e2⟩ := (hr.below hb).id3 hz
      have hsz := hb.size
      have hB1 := B.1
      obtain ⟨f0, f1, f2⟩ := B.c3
      have hax := neq_id z x
      have HZ := Lib.hid hz
      clear hz hr
      cases hp : decide (z ≠ x)
      · have hzx : z = x := by simpa using hp
        have HX := Lib.hid hzx
        clear hzx
        go_wp2_with fail
        go_quiet (fail)
        go_wp2
        go_roundw
        case rel => exact ⟨k + 1, A1, c1, by omega, by go_num, by rw [drop_hit (by rw [← HX.out]; exact HZ.out)], by rw [drop_hit (by rw [← HX.out]; exact HZ.out)]; exact Own.below hown (Gw.drewN (Below.refl _ _) _), Gw.drewN hb _, B.drewN _⟩
        case measure => simp [intOf]; omega
      · have hzx : z ≠ x := by simpa using hp
        have HN := Lib.hid hzx
        clear hzx
        go_wp2_with fail
        go_quiet (fail)
        go_wp2_with (at_builtin; refine wpList_app _ rfl _ _ _ rfl (w.heap.size + 1) 25 i0 _ 8 Try.underlying34 hi hz0 hz1 hz2 rfl (by omega) idc_len idc_one _ _ rfl ((Own.below hown (Gw.drewN (Below.refl _ _) _)).alloc _) _ rfl _ _ 1 1 [z] rfl rfl (Rd.lit idc_len (wr.drewN _) _ (by simp) _ 25 [z] (by rfl)) (by omega) (by omega) (by simp; omega) ?_; intro A5 c5 w5 hown5 hg5)
        have b5 := Gw.gr (Gw.al (Gw.drewN hb _) _) hg5 (fun k hk => Nat.le_of_succ_le (Own.lt hown k hk))
        have B5 := ((B.drewN _).alloc _).grown hg5 (fun k hk => by have := Own.lt hown k hk; omega)
        go_roundw
        case rel => exact ⟨k + 1, A5, c5, by omega, by go_num, by rw [drop_miss HZ.out HN.out, List.length_append]; rfl, by rw [drop_miss HZ.out HN.out, List.length_append]; exact hown5, b5, B5⟩
        case measure => simp [intOf]; omega
    · obtain rfl : k = l.length := by omega
      go_wp2_with fail
      go_ret
      rw [List.take_length] at hown ⊢
      exact ⟨_, _, rfl, hown.base_le (by omega), hb⟩
end Go.Proofs.Ytddebgdilcfgkaa
