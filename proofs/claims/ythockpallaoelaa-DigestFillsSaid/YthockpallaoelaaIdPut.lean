/-
  ident.Put: the id is put before the first that it is less than, if it is not there.
-/
import Derived.Test.YthockpallaoelaaIdLists
namespace Go.Proofs.Ythockpallaoelaa
open Go.RowKit

theorem Try.infoId : (Try.prog.info? 30).map (fun i => (i.zero, i.size, i.bytes)) = some (some (.agg #[.int .u8 0, .int .u16 0, .int .u32 0]), 3, 8) := by kernel_rfl
def putAt (l : List Id) (x : Id) : Nat := (l.findIdx? (fun y => lessB x y)).getD l.length
def putL (l : List Id) (x : Id) : List Id := if hasB l x then l else l.take (putAt l x) ++ x :: l.drop (putAt l x)

set_option maxHeartbeats 1000000 in
theorem put_has (l : List Id) (x : Id) (A : Option Addr) (cap : Nat) (w : World) (hr : Rd idc 3 w.heap.size w A l) (hlen : l.length ≤ 1000000) (hh : hasB l x = true) :
    Calls Try.prog 31 #[.slice A l.length cap, idv x] w fun e w' => ∃ A' c', e = .returned (.slice A' l.length c') ∧ Own idc 3 30 w.heap.size w' (.slice A' l.length c') l ∧ Below w.heap.size w w' := by
  obtain ⟨i0, hi, hz0, hz1, hz2⟩ := info_parts Try.infoId
  have HH := Lib.hid hh
  clear hh
  go_enter Try.func31, Try.ntmps31
  go_wp2_with (at_make; refine wpList_make_own _ rfl _ _ 23 rfl w.heap.size 30 i0 _ 3 Try.underlying23 hi hz0 hz1 _ _ _ (l.length + 1) rfl rfl (by omega) (by rw [hz2]; omega) (by unfold maxLen; omega) (by simp) ?_; intro w1 hown1 hg1; rw [World.size_alloc] at hown1; have B1 := (Blk.new w #[.int .u8 x.n, .int .u16 x.i, .int .u32 x.s] 30).call (Gw.none_ hg1); have b1 := Gw.call ((Below.refl _ w).alloc (Nat.le_refl _) _) (Gw.none_ hg1); clear hg1; obtain ⟨e0, e1, e2⟩ := B1.c3)
  refine (has_any l x A cap w1 (hr.up b1) (by omega)).mono ?_
  rintro e w2 ⟨rfl, hb2⟩
  rw [HH.out]
  have hown2 := Own.below (enc := idc) (l := []) hown1 hb2
  have b2 := Gw.call b1 hb2
  have r2 := hr.up b2
  have s2 := b2.size
  clear hown1 b1 hb2 e0 e1 e2 B1
  go_wp2_with (at_builtin; refine wpList_app _ rfl _ _ _ rfl w.heap.size 30 i0 _ 8 Try.underlying23 hi hz0 hz1 hz2 rfl (by omega) idc_len idc_one _ _ rfl hown2 0 rfl _ A l.length cap l rfl rfl r2 (by omega) (by omega) s2 ?_; intro A' c' w3 hown3 hg3; simp only [Nat.zero_add, List.nil_append] at hown3; have b3 := Gw.gr b2 hg3 (Own.lt hown2))
  go_ret
  exact ⟨_, _, rfl, hown3, b3⟩

set_option maxHeartbeats 2000000 in
theorem put_new (l : List Id) (x : Id) (A : Option Addr) (cap : Nat) (w : World) (hr : Rd idc 3 w.heap.size w A l) (hlen : l.length ≤ 1000000) (hlc : l.length ≤ cap) (hh : hasB l x = false) :
    Calls Try.prog 31 #[.slice A l.length cap, idv x] w fun e w' => ∃ A' c', e = .returned (.slice A' (l.length + 1) c') ∧ Own idc 3 30 w.heap.size w' (.slice A' (l.length + 1) c') (l.take (putAt l x) ++ [x] ++ l.drop (putAt l x)) ∧ Below w.heap.size w w' := by
  obtain ⟨i0, hi, hz0, hz1, hz2⟩ := info_parts Try.infoId
  have HH := Lib.hid hh
  clear hh
  obtain ⟨m, hm⟩ : ∃ m, m = putAt l x := ⟨_, rfl⟩
  have HM := Lib.hid hm
  have hml : m ≤ l.length := by
    rw [hm]; unfold putAt
    rcases h : l.findIdx? (fun y => lessB x y) with _ | k
    · simp
    · have := (List.findIdx?_eq_some_iff_getElem.1 h).1; simp; omega
  have hidx : (idxOf (fun y => lessB x y) l = -1 ∧ m = l.length) ∨ idxOf (fun y => lessB x y) l = m := by
    rw [hm]; unfold idxOf putAt
    rcases h : l.findIdx? (fun y => lessB x y) with _ | k
    · left; simp
    · right; simp
  rw [← hm]
  clear hm
  go_enter Try.func31, Try.ntmps31
  go_wp2_with (at_make; refine wpList_make_own _ rfl _ _ 23 rfl w.heap.size 30 i0 _ 3 Try.underlying23 hi hz0 hz1 _ _ _ (l.length + 1) rfl rfl (by omega) (by rw [hz2]; omega) (by unfold maxLen; omega) (by simp) ?_; intro w1 hown1 hg1; rw [World.size_alloc] at hown1; have B1 := (Blk.new w #[.int .u8 x.n, .int .u16 x.i, .int .u32 x.s] 30).call (Gw.none_ hg1); have b1 := Gw.call ((Below.refl _ w).alloc (Nat.le_refl _) _) (Gw.none_ hg1); clear hg1; obtain ⟨e0, e1, e2⟩ := B1.c3)
  refine (has_any l x A cap w1 (hr.up b1) (by omega)).mono ?_
  rintro e w2 ⟨rfl, hb2⟩
  rw [HH.out]
  have hown2 := Own.below (enc := idc) (l := []) hown1 hb2
  have b2 := Gw.call b1 hb2
  have r2 := hr.up b2
  have B2 := B1.call hb2
  have s2 := b2.size
  clear hown1 b1 hb2 e0 e1 e2 B1
  go_wp2_with (go_at_call 38; fail)
  have c2 := B2.1
  obtain ⟨e0, e1, e2⟩ := B2.c3
  refine (idxput1_any l x A cap w.heap.size w2 r2 (by omega) c2 e0 e1 e2).mono ?_
  rintro e w3 ⟨rfl, hb3⟩
  have hown3 := Own.below (enc := idc) (l := []) hown2 hb3
  have b3 := Gw.call b2 hb3
  have r3 := hr.up b3
  have B3 := B2.call hb3
  have s3 := b3.size
  clear hown2 b2 hb3 e0 e1 e2 B2 r2 c2 s2
  rcases hidx with ⟨hid1, hid2⟩ | hid1
  all_goals
    rw [hid1]
    clear hid1
  · obtain rfl : m = l.length := hid2
    go_wp2_with (first
      | (at_builtin; refine wpList_app _ rfl (.tmp 24) (.tmp 27) _ rfl w.heap.size 30 i0 _ 8 Try.underlying23 hi hz0 hz1 hz2 rfl (by omega) idc_len idc_one _ _ rfl hown3 0 rfl _ A l.length cap (l.take l.length) rfl (by simp) (r3.take _) (by omega) (by omega) s3 ?_; intro A4 c4 w4 hown4 hg4; rw [Nat.zero_add, List.nil_append] at hown4; have b4 := Gw.gr b3 hg4 (Own.lt hown3); have s4 := b4.size; have r4 := hr.up b4; have B4 := B3.grown hg4 (fun k hk => by have := own_blk hk; simp at this; omega); clear hg4; obtain ⟨e0, e1, e2⟩ := B4.c3)
      | (at_builtin; refine wpList_app _ rfl (.tmp 29) (.tmp 31) _ rfl w.heap.size 30 i0 _ 8 Try.underlying23 hi hz0 hz1 hz2 rfl (by omega) idc_len idc_one _ _ rfl (hown4.alloc _) l.length (by simp) _ _ 1 1 [x] rfl rfl (Rd.lit idc_len w4 _ rfl _ 30 [x] (by rfl)) (by omega) (by omega) (by simp; omega) ?_; intro A5 c5 w5 hown5 hg5; have b5 := Gw.gr (Gw.al b4 _) hg5 (Own.lt hown4); have s5 := b5.size; have r5 := hr.up b5; clear hg5)
      | (at_builtin; refine wpList_app _ rfl (.tmp 33) (.tmp 36) _ rfl w.heap.size 30 i0 _ 8 Try.underlying23 hi hz0 hz1 hz2 rfl (by omega) idc_len idc_one _ _ rfl hown5 (l.length + 1) (by simp) _ _ _ _ (l.drop l.length) rfl (by simp) (r5.cut hlc) (by omega) (by omega) s5 ?_; intro A6 c6 w6 hown6 hg6; have b6 := Gw.gr b5 hg6 (Own.lt hown5)))
    all_goals go_ret
    all_goals
      refine ⟨A6, c6, ret_val ?_, ?_, b6⟩
      · first | rfl | (congr 1; omega)
      · simpa using hown6
  · clear HM
    go_wp2_with (first
      | (at_builtin; refine wpList_app _ rfl (.tmp 24) (.tmp 27) _ rfl w.heap.size 30 i0 _ 8 Try.underlying23 hi hz0 hz1 hz2 rfl (by omega) idc_len idc_one _ _ rfl hown3 0 rfl _ A m cap (l.take m) rfl (by simp; omega) (r3.take _) (by omega) (by omega) s3 ?_; intro A4 c4 w4 hown4 hg4; rw [Nat.zero_add, List.nil_append] at hown4; have b4 := Gw.gr b3 hg4 (Own.lt hown3); have s4 := b4.size; have r4 := hr.up b4; have B4 := B3.grown hg4 (fun k hk => by have := own_blk hk; simp at this; omega); clear hg4; obtain ⟨e0, e1, e2⟩ := B4.c3)
      | (at_builtin; refine wpList_app _ rfl (.tmp 29) (.tmp 31) _ rfl w.heap.size 30 i0 _ 8 Try.underlying23 hi hz0 hz1 hz2 rfl (by omega) idc_len idc_one _ _ rfl (hown4.alloc _) m (by simp; omega) _ _ 1 1 [x] rfl rfl (Rd.lit idc_len w4 _ rfl _ 30 [x] (by rfl)) (by omega) (by omega) (by simp; omega) ?_; intro A5 c5 w5 hown5 hg5; have b5 := Gw.gr (Gw.al b4 _) hg5 (Own.lt hown4); have s5 := b5.size; have r5 := hr.up b5; clear hg5)
      | (at_builtin; refine wpList_app _ rfl (.tmp 33) (.tmp 36) _ rfl w.heap.size 30 i0 _ 8 Try.underlying23 hi hz0 hz1 hz2 rfl (by omega) idc_len idc_one _ _ rfl hown5 (m + 1) (by simp; omega) _ _ _ _ (l.drop m) rfl (by simp) (r5.cut hlc) (by omega) (by omega) s5 ?_; intro A6 c6 w6 hown6 hg6; have b6 := Gw.gr b5 hg6 (Own.lt hown5)))
    all_goals go_ret
    all_goals
      refine ⟨A6, c6, ret_val ?_, ?_, b6⟩
      · exact congrArg (fun q => Value.slice A6 q c6) (show m + 1 + (l.length - m) = l.length + 1 by omega)
      · have e : m + 1 + (l.length - m) = l.length + 1 := by omega
        rw [e] at hown6; simpa using hown6

theorem putAt_le (l : List Id) (x : Id) : putAt l x ≤ l.length := by
  unfold putAt
  rcases h : l.findIdx? (fun y => lessB x y) with _ | k
  · simp
  · have := (List.findIdx?_eq_some_iff_getElem.1 h).1; simp; omega
theorem putL_new {l : List Id} {x : Id} (h : hasB l x = false) : putL l x = l.take (putAt l x) ++ [x] ++ l.drop (putAt l x) := by simp [putL, h]
theorem putL_len (l : List Id) (x : Id) : (putL l x).length ≤ l.length + 1 := by
  have := putAt_le l x
  unfold putL; split
  · omega
  · simp; omega
theorem put_any (l : List Id) (x : Id) (A : Option Addr) (cap : Nat) (w : World) (hr : Rd idc 3 w.heap.size w A l) (hlen : l.length ≤ 1000000) (hlc : l.length ≤ cap) :
    Calls Try.prog 31 #[.slice A l.length cap, idv x] w fun e w' => ∃ A' c', e = .returned (.slice A' (putL l x).length c') ∧ Own idc 3 30 w.heap.size w' (.slice A' (putL l x).length c') (putL l x) ∧ Below w.heap.size w w' := by
  cases hh : hasB l x
  · rw [putL_new hh]
    have e : (l.take (putAt l x) ++ [x] ++ l.drop (putAt l x)).length = l.length + 1 := by have := putAt_le l x; simp; omega
    rw [e]
    exact put_new l x A cap w hr hlen hlc hh
  · have e : putL l x = l := by simp [putL, hh]
    rw [e]
    exact put_has l x A cap w hr hlen hh
end Go.Proofs.Ythockpallaoelaa
