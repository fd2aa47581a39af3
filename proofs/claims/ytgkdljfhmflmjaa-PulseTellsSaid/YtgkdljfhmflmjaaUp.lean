/-
  The tables' functions (14): Up; the document's own, Up.
-/
import Derived.Test.YtgkdljfhmflmjaaTab
import Derived.Test.YtgkdljfhmflmjaaInts
namespace Go.Proofs.Ytgkdljfhmflmjaa
open Go.RowKit
theorem Try.infoB : (Try.prog.info? 5).map (fun i => (i.zero, i.size, i.bytes)) = some (some (.int .u8 0), 1, 1) := by kernel_rfl
set_option maxRecDepth 100000 in
set_option maxHeartbeats 4000000 in
theorem up_any (l : List Mb) (A : Option Addr) (cap : Nat) (w : World) (hr : Rd memc 3 w.heap.size w A l) (hlen : l.length ≤ 256) :
    Calls Try.prog 12 #[.slice A l.length cap] w fun e w' => ∃ A' c', e = .returned (.slice A' (upL l).length c') ∧ Own (fun z : Int => [Value.int .u8 z]) 1 5 w.heap.size w' (.slice A' (upL l).length c') (upL l) ∧ Below w.heap.size w w' := by
  obtain ⟨i0, hi0, hz0, hz1, hz2⟩ := info_parts Try.infoB
  go_enter Try.func12, Try.ntmps12
  go_wp2_with fail
  go_loopw [3, 8] (fun v i wr => ∃ (k : Nat) (acc : List Int) (A' : Option Addr) (c' : Nat), k ≤ l.length ∧ i = .int .i64 k ∧ v = .slice A' acc.length c' ∧ Hid (plc (fun _ x => upB x) l k = acc) ∧ Own (fun z : Int => [Value.int .u8 z]) 1 5 w.heap.size wr (.slice A' acc.length c') acc ∧ Below w.heap.size w wr) (fun _ i _ => l.length - (intOf i).toNat)
  case atStart => exact ⟨0, [], none, 0, Nat.zero_le _, rfl, rfl, Lib.hid rfl, Own.nil_, Below.refl _ _⟩
  case round =>
    obtain ⟨k, acc, A', c', hk, rfl, rfl, HA, hown, hb⟩ := hrel
    have ACCL := plc_len (fun _ x => upB x) l k
    rw [HA.out] at ACCL
    by_cases hlt : k < l.length
    · obtain ⟨x, hx⟩ : ∃ x, l[k]? = some x := ⟨_, List.getElem?_eq_getElem hlt⟩
      obtain ⟨b, o, rfl, hbb, e0, e1, e2⟩ := (hr.below hb).mem3 hx
      have k255 : (k : Int) ≤ 255 := by omega
      have hsz := hb.size
      have X := Gw.al hb (.cells #[.int .u16 x.i, .int .u8 x.s, .int .u8 x.q] 27)
      cases hq : upB x
      · have STP := Lib.hid (plc_no (p := fun _ x => upB x) hx hq)
        have HQ := Lib.hid hq
        clear hx hr hq
        go_wp2_with fail
        refine (heardof_any x _).mono ?_
        rintro e w1 ⟨rfl, hb1⟩
        rw [HQ.out]
        have own1 := (hown.alloc (.cells #[.int .u16 x.i, .int .u8 x.s, .int .u8 x.q] 27)).below hb1
        have bl := Gw.call X hb1
        have hs1 := bl.size
        clear hb1 X
        go_wp2_with fail
        go_roundw
        case rel => exact ⟨k + 1, acc, A', c', hlt, by go_num, rfl, Lib.hid (by rw [STP.out, HA.out]), own1, bl⟩
        case measure => simp [intOf]; omega
      · have STP := Lib.hid (plc_yes (p := fun _ x => upB x) hx hq)
        have HQ := Lib.hid hq
        clear hx hr hq
        go_wp2_with fail
        refine (heardof_any x _).mono ?_
        rintro e w1 ⟨rfl, hb1⟩
        rw [HQ.out]
        have own1 := (hown.alloc (.cells #[.int .u16 x.i, .int .u8 x.s, .int .u8 x.q] 27)).below hb1
        have bl := Gw.call X hb1
        have hs1 := bl.size
        clear hb1 X
        go_wp2_with (at_builtin; refine wpList_app _ rfl _ _ 28 rfl w.heap.size 5 i0 _ 1 Try.underlying28 hi0 hz0 hz1 hz2 rfl (by omega) (int_len .u8) (int_one .u8) _ acc rfl (own1.alloc _) acc.length rfl _ _ 1 1 [(k : Int)] rfl rfl (Rd.oneAt .u8 _ _ rfl _ _) (by omega) (by omega) (by rw [World.size_alloc]; omega) ?_; intro A2 c2 w3 hown3 hg3)
        have lown := Own.lt own1
        have hg3' : (w1.alloc (.cells #[.int .u8 k] 5)).grownBy w3 (Value.slice A' acc.length c').ownBlock := hg3
        clear hg3
        go_roundw
        case rel => exact ⟨k + 1, acc ++ [(k : Int)], A2, c2, hlt, by go_num, by simp, Lib.hid (by rw [STP.out, HA.out]), by simpa using hown3, Gw.gr (Gw.al bl _) hg3' lown⟩
        case measure => simp [intOf]; omega
    · obtain rfl : k = l.length := by omega
      go_wp2_with fail
      go_ret
      unfold upL
      rw [HA.out]
      exact ⟨A', c', rfl, hown, hb⟩
set_option maxHeartbeats 1000000 in
theorem refown_any (l : List Mb) (A : Option Addr) (cap : Nat) (w : World) (hr : Rd memc 3 w.heap.size w A l) (hlen : l.length ≤ 1000000) :
    Calls Try.prog 32 #[.slice A l.length cap] w fun e w' => ∃ A' c', e = .returned (.slice A' l.length c') ∧ Own memc 3 27 w.heap.size w' (.slice A' l.length c') l ∧ Below w.heap.size w w' := by
  obtain ⟨i0, hi0, hz0, hz1, hz2⟩ := info_parts Try.infoMem
  go_enter Try.func32, Try.ntmps32
  go_wp2_with (at_builtin; refine wpList_app _ rfl _ _ 23 rfl w.heap.size 27 i0 _ 4 Try.underlying23 hi0 hz0 hz1 hz2 rfl (by omega) memc_len memc_one (.slice none 0 0) [] rfl Own.nil_ 0 rfl _ A l.length cap l rfl rfl hr (by omega) (by omega) (Nat.le_refl _) ?_; intro A' c' w1 hown hg; simp only [Nat.zero_add, List.nil_append] at hown)
  go_ret
  refine ⟨A', c', rfl, hown, ?_⟩
  exact (Below.refl _ w).grown hg (Nat.le_refl _) (fun k hk => by simp [Value.ownBlock] at hk)
set_option maxRecDepth 100000 in
set_option maxHeartbeats 4000000 in
theorem refup_any (l : List Mb) (A : Option Addr) (cap : Nat) (w : World) (hr : Rd memc 3 w.heap.size w A l) (hlen : l.length ≤ 256) :
    Calls Try.prog 24 #[.slice A l.length cap] w fun e w' => ∃ A' c', e = .returned (.slice A' (upL l).length c') ∧ Own (fun z : Int => [Value.int .u8 z]) 1 5 w.heap.size w' (.slice A' (upL l).length c') (upL l) ∧ Below w.heap.size w w' := by
  obtain ⟨i0, hi0, hz0, hz1, hz2⟩ := info_parts Try.infoB
  go_enter Try.func24, Try.ntmps24
  go_wp2_with fail
  go_loopw [3, 4] (fun v i wr => ∃ (k : Nat) (acc : List Int) (A' : Option Addr) (c' : Nat), k ≤ l.length ∧ i = .int .i64 k ∧ v = .slice A' acc.length c' ∧ Hid (plc (fun _ x => upB x) l k = acc) ∧ Own (fun z : Int => [Value.int .u8 z]) 1 5 w.heap.size wr (.slice A' acc.length c') acc ∧ Below w.heap.size w wr) (fun _ i _ => l.length - (intOf i).toNat)
  case atStart => exact ⟨0, [], none, 0, Nat.zero_le _, rfl, rfl, Lib.hid rfl, Own.nil_, Below.refl _ _⟩
  case round =>
    obtain ⟨k, acc, A', c', hk, rfl, rfl, HA, hown, hb⟩ := hrel
    have ACCL := plc_len (fun _ x => upB x) l k
    rw [HA.out] at ACCL
    by_cases hlt : k < l.length
    · obtain ⟨x, hx⟩ : ∃ x, l[k]? = some x := ⟨_, List.getElem?_eq_getElem hlt⟩
      obtain ⟨b, o, rfl, hbb, e0, e1, e2⟩ := (hr.below hb).mem3 hx
      have k255 : (k : Int) ≤ 255 := by omega
      have hsz := hb.size
      cases hq : upB x
      · have STP := Lib.hid (plc_no (p := fun _ x => upB x) hx hq)
        have own1 := hown
        have bl := hb
        have t1 : (x.s == 1) = false := by simp [upB] at hq; simpa using hq.1
        have t2 : (x.s == 2) = false := by simp [upB] at hq; simpa using hq.2
        clear hx hr hq
        go_wp2_with fail
        go_roundw
        case rel => exact ⟨k + 1, acc, A', c', hlt, by go_num, rfl, Lib.hid (by rw [STP.out, HA.out]), own1, bl⟩
        case measure => simp [intOf]; omega
      · have STP := Lib.hid (plc_yes (p := fun _ x => upB x) hx hq)
        have own1 := hown
        have bl := hb
        rcases (show x.s = 1 ∨ x.s = 2 by simpa [upB] using hq) with hs | hs
        all_goals
          rw [hs] at e1
          clear hx hr hq hs
          go_wp2_with (at_builtin; refine wpList_app _ rfl _ _ 28 rfl w.heap.size 5 i0 _ 1 Try.underlying28 hi0 hz0 hz1 hz2 rfl (by omega) (int_len .u8) (int_one .u8) _ acc rfl (own1.alloc _) acc.length rfl _ _ 1 1 [(k : Int)] rfl rfl (Rd.oneAt .u8 _ _ rfl _ _) (by omega) (by omega) (by rw [World.size_alloc]; omega) ?_; intro A2 c2 w3 hown3 hg3)
          have lown := Own.lt own1
          have hg3' : (wr.alloc (.cells #[.int .u8 k] 5)).grownBy w3 (Value.slice A' acc.length c').ownBlock := hg3
          clear hg3
          go_roundw
          case rel => exact ⟨k + 1, acc ++ [(k : Int)], A2, c2, hlt, by go_num, by simp, Lib.hid (by rw [STP.out, HA.out]), by simpa using hown3, Gw.gr (Gw.al bl _) hg3' lown⟩
          case measure => simp [intOf]; omega
    · obtain rfl : k = l.length := by omega
      go_wp2_with fail
      go_ret
      unfold upL
      rw [HA.out]
      exact ⟨A', c', rfl, hown, hb⟩
end Go.Proofs.Ytgkdljfhmflmjaa
