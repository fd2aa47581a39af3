/-
  A tick of a table (14): the program's, the document's.
-/
import Derived.Test.YtgkdljfhmflmjaaMerge
namespace Go.Proofs.Ytgkdljfhmflmjaa
open Go.RowKit
set_option maxRecDepth 100000 in
set_option maxHeartbeats 8000000 in
theorem tick_any (l : List Mb) (A : Option Addr) (ca : Nat) (self after : Int) (w : World) (hr : Rd memc 3 w.heap.size w A l) (hlen : l.length ≤ 256) (hs : 0 ≤ self ∧ self ≤ 255) (hok : ∀ x ∈ l, x.ok) :
    Calls Try.prog 11 #[.slice A l.length ca, .int .u8 self, .int .i64 after] w fun e w' => ∃ A' c' A2 c2, e = .returned (.tuple #[.slice A' l.length c', .slice A2 (goneL l self after).length c2]) ∧ Own memc 3 27 w.heap.size w' (.slice A' l.length c') (tickL l self after) ∧ Own (fun z : Int => [Value.int .u8 z]) 1 5 w.heap.size w' (.slice A2 (goneL l self after).length c2) (goneL l self after) ∧ Below w.heap.size w w' := by
  have HOK := Lib.hid hok
  clear hok
  obtain ⟨s0, s1⟩ := hs
  obtain ⟨i0, hi0, hz0, hz1, hz2⟩ := info_parts Try.infoB
  go_enter Try.func11, Try.ntmps11
  go_wp2_with fail
  refine (cloneMem_any l A ca _ hr (by omega)).mono ?_
  rintro e w1 ⟨A1, c1, rfl, o1, b1⟩
  have hi1 := Own.hi o1
  have hw1 := b1.size
  go_wp2_with fail
  go_loopw [9, 16] (fun v i wr => ∃ (k : Nat) (acc : List Int) (A2 : Option Addr) (c2 : Nat), k ≤ l.length ∧ i = .int .i64 k ∧ v = .slice A2 acc.length c2 ∧ Hid (plc (goneB self after) l k = acc) ∧ Own memc 3 27 w.heap.size wr (.slice A1 l.length c1) (mix (tickL l self after) l k) ∧ Own (fun z : Int => [Value.int .u8 z]) 1 5 w1.heap.size wr (.slice A2 acc.length c2) acc ∧ Below w.heap.size w wr ∧ w1.heap.size ≤ wr.heap.size) (fun _ i _ => l.length - (intOf i).toNat)
  case atStart => exact ⟨0, [], none, 0, Nat.zero_le _, rfl, rfl, Lib.hid rfl, by rw [mix_zero]; exact o1, Own.nil_, b1, Nat.le_refl _⟩
  case round =>
    obtain ⟨k, acc, A2, c2, hk, rfl, rfl, HA, hown, hacc, hb, hws⟩ := hrel
    have ACCL := plc_len (goneB self after) l k
    rw [HA.out] at ACCL
    by_cases hlt : k < l.length
    · obtain ⟨x, hx⟩ : ∃ x, l[k]? = some x := ⟨_, List.getElem?_eq_getElem hlt⟩
      have xok := HOK.out x (List.mem_of_getElem? hx)
      obtain ⟨_, ⟨xs0, xs1⟩, xq0, xq1⟩ := xok
      have kl : (k : Int) < (l.length : Int) := by omega
      have k255 : (k : Int) ≤ 255 := by omega
      have HML := Lib.hid (tick_len l self after)
      have hmx := mix_at HML.out (k := k) hlt
      rw [hx] at hmx
      have HMX := Lib.hid hmx
      clear hmx
      have HMA := Lib.hid (tick_at (self := self) (after := after) hx)
      obtain ⟨g1, rfl⟩ : ∃ g1, A1 = some ⟨g1, 0, none⟩ := by
        rcases hown.2 with ⟨_, h0⟩ | ⟨g1, _, _, hv, _⟩
        · rw [mix_len HML.out (by omega)] at h0; omega
        · injection hv with hA _ _; exact ⟨g1, hA⟩
      have lown := (Own.row hown).2.1
      have gh1 : g1 < w1.heap.size := hi1 g1 rfl
      have ghi : g1 < wr.heap.size := Own.hi hown g1 rfl
      have alo := Own.lt hacc
      have HLX := Lib.hid hx
      clear hx hr hi1
      by_cases hself : (k : Int) = self
      · have t1 : ((k : Int) == self) = true := by simpa using hself
        have GN : Hid (goneB self after k x = false) := Lib.hid (by unfold goneB; rw [decide_eq_false_iff_not]; exact fun h => h.1 hself)
        have TK : Hid (tick1 self after k x = x) := Lib.hid (by unfold tick1; rw [if_pos (.inl hself)])
        clear hself
        go_wp2_with fail
        go_roundw
        case rel => exact ⟨k + 1, acc, A2, c2, hlt, by go_num, rfl, Lib.hid (by rw [plc_no HLX.out GN.out, HA.out]), by rw [mix_same HML.out (by rw [HMA.out, HLX.out, TK.out])]; exact hown, hacc, hb, hws⟩
        case measure => simp [intOf]; omega
      · have t1 : ((k : Int) == self) = false := by simpa using hself
        cases hup : upB x
        · have HM : Hid (∀ W, Calls Try.prog 30 #[.agg #[.int .u16 x.i, .int .u8 x.s, .int .u8 x.q]] W fun e w' => e = .returned (.bool false) ∧ Below W.heap.size W w') := Lib.hid (fun W => hup ▸ heardof_any x W)
          have e0 := Own.at_ memc_len hown HMX.out (j := 0) rfl
          rw [Nat.add_zero] at e0
          have e1 := Own.at_ memc_len hown HMX.out (j := 1) rfl
          have e2 := Own.at_ memc_len hown HMX.out (j := 2) rfl
          have ff := fun j => Own.free hown j
          have GN : Hid (goneB self after k x = false) := Lib.hid (by unfold goneB; rw [decide_eq_false_iff_not]; intro h; unfold upB at hup; rw [decide_eq_false_iff_not] at hup; exact hup (.inl h.2.1))
          have TK : Hid (tick1 self after k x = x) := Lib.hid (by unfold tick1; rw [if_pos (.inr hup)])
          clear hself hup
          go_wp2_with fail
          refine (HM.out _).mono ?_
          rintro e w5 ⟨rfl, hb5⟩
          have own5 := hown.below hb5
          have acc5 := hacc.below hb5
          have bl5 := Gw.call hb hb5
          have sz5 := Nat.le_trans hws hb5.size
          clear e0 e1 e2 ff hb5 HM hown hacc hb
          go_wp2_with fail
          go_roundw
          case rel => exact ⟨k + 1, acc, A2, c2, hlt, by go_num, rfl, Lib.hid (by rw [plc_no HLX.out GN.out, HA.out]), by rw [mix_same HML.out (by rw [HMA.out, HLX.out, TK.out])]; exact own5, acc5, bl5, sz5⟩
          case measure => simp [intOf]; omega
        · have HM : Hid (∀ W, Calls Try.prog 30 #[.agg #[.int .u16 x.i, .int .u8 x.s, .int .u8 x.q]] W fun e w' => e = .returned (.bool true) ∧ Below W.heap.size W w') := Lib.hid (fun W => hup ▸ heardof_any x W)
          have e0 := Own.at_ memc_len hown HMX.out (j := 0) rfl
          rw [Nat.add_zero] at e0
          have e1 := Own.at_ memc_len hown HMX.out (j := 1) rfl
          have e2 := Own.at_ memc_len hown HMX.out (j := 2) rfl
          have ff := fun j => Own.free hown j
          go_wp2_with fail
          refine (HM.out _).mono ?_
          rintro e w5 ⟨rfl, hb5⟩
          have own5 := hown.below hb5
          have acc5 := hacc.below hb5
          have bl5 := Gw.call hb hb5
          have sz5 := Nat.le_trans hws hb5.size
          clear e0 e1 e2 ff hb5 HM hown hacc hb
          have e0' := Own.at_ memc_len own5 HMX.out (j := 0) rfl
          rw [Nat.add_zero] at e0'
          have e1' := Own.at_ memc_len own5 HMX.out (j := 1) rfl
          have e2' := Own.at_ memc_len own5 HMX.out (j := 2) rfl
          have ff' := fun j => Own.free own5 j
          by_cases hq : x.q < 255
          · have TQ : Hid (q1 x.q = x.q + 1) := Lib.hid (by unfold q1; rw [if_pos hq])
            have t5 : decide (x.q < 255) = true := by simp; omega
            by_cases h1 : x.s = 1
            · have t6 : (x.s == 1) = true := by simpa using h1
              by_cases h2 : after ≤ x.q + 1
              · have t7 : decide (after ≤ x.q + 1) = true := by simpa using h2
                have GN : Hid (goneB self after k x = true) := Lib.hid (by unfold goneB; rw [decide_eq_true_iff, TQ.out]; exact ⟨hself, h1, h2⟩)
                have TK : Hid (tick1 self after k x = ⟨x.i, 2, x.q + 1⟩) := Lib.hid (by unfold tick1; rw [if_neg (by rintro (h | h); (exact hself h); (rw [h] at hup; cases hup)), GN.out, TQ.out]; rfl)
                clear hself hup h1 h2
                have ownA := Own.put1 memc_len own5 HMX.out (j := 2) (by omega) ⟨x.i, x.s, x.q + 1⟩ (.int .u8 (x.q + 1)) rfl
                have accA := Own.far (p := ⟨g1, k * 3 + 2, none⟩) acc5 (fun j hj => by have := alo j hj; show j ≠ g1; omega) (.int .u8 (x.q + 1))
                have blA := Gw.st bl5 (p := ⟨g1, k * 3 + 2, none⟩) lown (.int .u8 (x.q + 1))
                have ownB := Own.put1 memc_len ownA (k := k) (x := ⟨x.i, x.s, x.q + 1⟩) (by rw [List.getElem?_set_self (by rw [mix_len HML.out (by omega)]; exact hlt)]) (j := 1) (by omega) ⟨x.i, 2, x.q + 1⟩ (.int .u8 2) rfl
                simp only [List.set_set] at ownB
                have accB := Own.far (p := ⟨g1, k * 3 + 1, none⟩) accA (fun j hj => by have := alo j hj; show j ≠ g1; omega) (.int .u8 2)
                have blB := Gw.st blA (p := ⟨g1, k * 3 + 1, none⟩) lown (.int .u8 2)
                have szS : w1.heap.size ≤ ((w5.setCell ⟨g1, k * 3 + 2, none⟩ (.int .u8 (x.q + 1))).setCell ⟨g1, k * 3 + 1, none⟩ (.int .u8 2)).heap.size := by simp only [Gw.setSize]; exact sz5
                rw [mix_set HML.out (by rw [HMA.out, TK.out])] at ownB
                go_wp2_with (at_builtin; refine wpList_app (((w5.setCell ⟨g1, k * 3 + 2, none⟩ (.int .u8 (x.q + 1))).setCell ⟨g1, k * 3 + 1, none⟩ (.int .u8 2)).alloc (.cells #[.int .u8 k] 5)) rfl _ _ 28 rfl w1.heap.size 5 i0 _ 1 Try.underlying28 hi0 hz0 hz1 hz2 rfl (by omega) (int_len .u8) (int_one .u8) _ acc rfl (accB.alloc _) acc.length rfl _ _ 1 1 [(k : Int)] rfl rfl (Rd.oneAt .u8 ((w5.setCell ⟨g1, k * 3 + 2, none⟩ (.int .u8 (x.q + 1))).setCell ⟨g1, k * 3 + 1, none⟩ (.int .u8 2)) w5.heap.size (by simp only [Gw.setSize]) _ _) (by omega) (by omega) (by rw [World.size_alloc]; omega) ?_; intro A3 c3 w6 hacc6 hg6)
                have hg6' : (((w5.setCell ⟨g1, k * 3 + 2, none⟩ (.int .u8 (x.q + 1))).setCell ⟨g1, k * 3 + 1, none⟩ (.int .u8 2)).alloc (.cells #[.int .u8 k] 5)).grownBy w6 (Value.slice A2 acc.length c2).ownBlock := hg6
                clear hg6
                have sz6 := hg6'.size
                rw [World.size_alloc] at sz6
                go_roundw
                case rel =>
                  refine ⟨k + 1, acc ++ [(k : Int)], A3, c3, hlt, by go_num, by simp, Lib.hid (by rw [plc_yes HLX.out GN.out, HA.out]), Own.keep (ownB.alloc _) hg6' ?_, by simpa using hacc6, Gw.gr (Gw.al blB _) hg6' (fun j hj => by have := alo j hj; omega), by omega⟩
                  refine .inr fun e => ?_
                  have := alo g1 e.symm
                  omega
                case measure => simp [intOf]; omega
              · have t7 : decide (after ≤ x.q + 1) = false := by simpa using h2
                have GN : Hid (goneB self after k x = false) := Lib.hid (by unfold goneB; rw [decide_eq_false_iff_not, TQ.out]; exact fun h => h2 h.2.2)
                have TK : Hid (tick1 self after k x = ⟨x.i, x.s, x.q + 1⟩) := Lib.hid (by unfold tick1; rw [if_neg (by rintro (h | h); (exact hself h); (rw [h] at hup; cases hup)), GN.out, TQ.out]; rfl)
                clear hself hup h1 h2
                have ownA := Own.put1 memc_len own5 HMX.out (j := 2) (by omega) ⟨x.i, x.s, x.q + 1⟩ (.int .u8 (x.q + 1)) rfl
                have accA := Own.far (p := ⟨g1, k * 3 + 2, none⟩) acc5 (fun j hj => by have := alo j hj; show j ≠ g1; omega) (.int .u8 (x.q + 1))
                have blA := Gw.st bl5 (p := ⟨g1, k * 3 + 2, none⟩) lown (.int .u8 (x.q + 1))
                have szS : w1.heap.size ≤ (w5.setCell ⟨g1, k * 3 + 2, none⟩ (.int .u8 (x.q + 1))).heap.size := by simp only [Gw.setSize]; exact sz5
                rw [mix_set HML.out (by rw [HMA.out, TK.out])] at ownA
                go_wp2_with fail
                go_roundw
                case rel => exact ⟨k + 1, acc, A2, c2, hlt, by go_num, rfl, Lib.hid (by rw [plc_no HLX.out GN.out, HA.out]), ownA, accA, blA, szS⟩
                case measure => simp [intOf]; omega
            · have t6 : (x.s == 1) = false := by simpa using h1
              have GN : Hid (goneB self after k x = false) := Lib.hid (by unfold goneB; rw [decide_eq_false_iff_not, TQ.out]; exact fun h => h1 h.2.1)
              have TK : Hid (tick1 self after k x = ⟨x.i, x.s, x.q + 1⟩) := Lib.hid (by unfold tick1; rw [if_neg (by rintro (h | h); (exact hself h); (rw [h] at hup; cases hup)), GN.out, TQ.out]; rfl)
              clear hself hup h1
              have ownA := Own.put1 memc_len own5 HMX.out (j := 2) (by omega) ⟨x.i, x.s, x.q + 1⟩ (.int .u8 (x.q + 1)) rfl
              have accA := Own.far (p := ⟨g1, k * 3 + 2, none⟩) acc5 (fun j hj => by have := alo j hj; show j ≠ g1; omega) (.int .u8 (x.q + 1))
              have blA := Gw.st bl5 (p := ⟨g1, k * 3 + 2, none⟩) lown (.int .u8 (x.q + 1))
              have szS : w1.heap.size ≤ (w5.setCell ⟨g1, k * 3 + 2, none⟩ (.int .u8 (x.q + 1))).heap.size := by simp only [Gw.setSize]; exact sz5
              rw [mix_set HML.out (by rw [HMA.out, TK.out])] at ownA
              go_wp2_with fail
              go_roundw
              case rel => exact ⟨k + 1, acc, A2, c2, hlt, by go_num, rfl, Lib.hid (by rw [plc_no HLX.out GN.out, HA.out]), ownA, accA, blA, szS⟩
              case measure => simp [intOf]; omega
          · have TQ : Hid (q1 x.q = x.q) := Lib.hid (by unfold q1; rw [if_neg hq])
            have t5 : decide (x.q < 255) = false := by simp; omega
            by_cases h1 : x.s = 1
            · have t6 : (x.s == 1) = true := by simpa using h1
              by_cases h2 : after ≤ x.q
              · have t7 : decide (after ≤ x.q) = true := by simpa using h2
                have GN : Hid (goneB self after k x = true) := Lib.hid (by unfold goneB; rw [decide_eq_true_iff, TQ.out]; exact ⟨hself, h1, h2⟩)
                have TK : Hid (tick1 self after k x = ⟨x.i, 2, x.q⟩) := Lib.hid (by unfold tick1; rw [if_neg (by rintro (h | h); (exact hself h); (rw [h] at hup; cases hup)), GN.out, TQ.out]; rfl)
                clear hself hup h1 h2
                have ownB := Own.put1 memc_len own5 HMX.out (j := 1) (by omega) ⟨x.i, 2, x.q⟩ (.int .u8 2) rfl
                have accB := Own.far (p := ⟨g1, k * 3 + 1, none⟩) acc5 (fun j hj => by have := alo j hj; show j ≠ g1; omega) (.int .u8 2)
                have blB := Gw.st bl5 (p := ⟨g1, k * 3 + 1, none⟩) lown (.int .u8 2)
                have szS : w1.heap.size ≤ (w5.setCell ⟨g1, k * 3 + 1, none⟩ (.int .u8 2)).heap.size := by simp only [Gw.setSize]; exact sz5
                rw [mix_set HML.out (by rw [HMA.out, TK.out])] at ownB
                go_wp2_with (at_builtin; refine wpList_app ((w5.setCell ⟨g1, k * 3 + 1, none⟩ (.int .u8 2)).alloc (.cells #[.int .u8 k] 5)) rfl _ _ 28 rfl w1.heap.size 5 i0 _ 1 Try.underlying28 hi0 hz0 hz1 hz2 rfl (by omega) (int_len .u8) (int_one .u8) _ acc rfl (accB.alloc _) acc.length rfl _ _ 1 1 [(k : Int)] rfl rfl (Rd.oneAt .u8 (w5.setCell ⟨g1, k * 3 + 1, none⟩ (.int .u8 2)) w5.heap.size (by simp only [Gw.setSize]) _ _) (by omega) (by omega) (by rw [World.size_alloc]; omega) ?_; intro A3 c3 w6 hacc6 hg6)
                have hg6' : ((w5.setCell ⟨g1, k * 3 + 1, none⟩ (.int .u8 2)).alloc (.cells #[.int .u8 k] 5)).grownBy w6 (Value.slice A2 acc.length c2).ownBlock := hg6
                clear hg6
                have sz6 := hg6'.size
                rw [World.size_alloc] at sz6
                go_roundw
                case rel =>
                  refine ⟨k + 1, acc ++ [(k : Int)], A3, c3, hlt, by go_num, by simp, Lib.hid (by rw [plc_yes HLX.out GN.out, HA.out]), Own.keep (ownB.alloc _) hg6' ?_, by simpa using hacc6, Gw.gr (Gw.al blB _) hg6' (fun j hj => by have := alo j hj; omega), by omega⟩
                  refine .inr fun e => ?_
                  have := alo g1 e.symm
                  omega
                case measure => simp [intOf]; omega
              · have t7 : decide (after ≤ x.q) = false := by simpa using h2
                have GN : Hid (goneB self after k x = false) := Lib.hid (by unfold goneB; rw [decide_eq_false_iff_not, TQ.out]; exact fun h => h2 h.2.2)
                have TK : Hid (tick1 self after k x = ⟨x.i, x.s, x.q⟩) := Lib.hid (by unfold tick1; rw [if_neg (by rintro (h | h); (exact hself h); (rw [h] at hup; cases hup)), GN.out, TQ.out]; rfl)
                clear hself hup h1 h2
                have szS : w1.heap.size ≤ w5.heap.size := by exact sz5
                go_wp2_with fail
                go_roundw
                case rel => exact ⟨k + 1, acc, A2, c2, hlt, by go_num, rfl, Lib.hid (by rw [plc_no HLX.out GN.out, HA.out]), by rw [mix_same HML.out (by rw [HMA.out, HLX.out, TK.out])]; exact own5, acc5, bl5, szS⟩
                case measure => simp [intOf]; omega
            · have t6 : (x.s == 1) = false := by simpa using h1
              have GN : Hid (goneB self after k x = false) := Lib.hid (by unfold goneB; rw [decide_eq_false_iff_not, TQ.out]; exact fun h => h1 h.2.1)
              have TK : Hid (tick1 self after k x = ⟨x.i, x.s, x.q⟩) := Lib.hid (by unfold tick1; rw [if_neg (by rintro (h | h); (exact hself h); (rw [h] at hup; cases hup)), GN.out, TQ.out]; rfl)
              clear hself hup h1
              have szS : w1.heap.size ≤ w5.heap.size := by exact sz5
              go_wp2_with fail
              go_roundw
              case rel => exact ⟨k + 1, acc, A2, c2, hlt, by go_num, rfl, Lib.hid (by rw [plc_no HLX.out GN.out, HA.out]), by rw [mix_same HML.out (by rw [HMA.out, HLX.out, TK.out])]; exact own5, acc5, bl5, szS⟩
              case measure => simp [intOf]; omega
    · obtain rfl : k = l.length := by omega
      have HE : Hid (mix (tickL l self after) l l.length = tickL l self after) := Lib.hid (mix_end (tick_len l self after) (fun j hj => by rw [List.getElem?_eq_none (by rw [tick_len]; omega), List.getElem?_eq_none (by omega)]))
      rw [HE.out] at hown
      go_wp2_with fail
      go_ret2
      unfold goneL
      rw [HA.out]
      exact ⟨A1, c1, A2, c2, rfl, hown, hacc.base_le hw1, hb⟩
set_option maxRecDepth 100000 in
set_option maxHeartbeats 8000000 in
theorem reftick_any (l : List Mb) (A : Option Addr) (ca : Nat) (self after : Int) (w : World) (hr : Rd memc 3 w.heap.size w A l) (hlen : l.length ≤ 256) (hs : 0 ≤ self ∧ self ≤ 255) (hok : ∀ x ∈ l, x.ok) :
    Calls Try.prog 23 #[.slice A l.length ca, .int .u8 self, .int .i64 after] w fun e w' => ∃ A' c' A2 c2, e = .returned (.tuple #[.slice A' l.length c', .slice A2 (goneL l self after).length c2]) ∧ Own memc 3 27 w.heap.size w' (.slice A' l.length c') (tickL l self after) ∧ Own (fun z : Int => [Value.int .u8 z]) 1 5 w.heap.size w' (.slice A2 (goneL l self after).length c2) (goneL l self after) ∧ Below w.heap.size w w' := by
  have HOK := Lib.hid hok
  clear hok
  obtain ⟨s0, s1⟩ := hs
  obtain ⟨i0, hi0, hz0, hz1, hz2⟩ := info_parts Try.infoB
  go_enter Try.func23, Try.ntmps23
  go_wp2_with fail
  refine (refown_any l A ca _ hr (by omega)).mono ?_
  rintro e w1 ⟨A1, c1, rfl, o1, b1⟩
  have hi1 := Own.hi o1
  have hw1 := b1.size
  go_wp2_with fail
  go_loopw [8, 9] (fun v i wr => ∃ (k : Nat) (acc : List Int) (A2 : Option Addr) (c2 : Nat), k ≤ l.length ∧ i = .int .i64 k ∧ v = .slice A2 acc.length c2 ∧ Hid (plc (goneB self after) l k = acc) ∧ Own memc 3 27 w.heap.size wr (.slice A1 l.length c1) (mix (tickL l self after) l k) ∧ Own (fun z : Int => [Value.int .u8 z]) 1 5 w1.heap.size wr (.slice A2 acc.length c2) acc ∧ Below w.heap.size w wr ∧ w1.heap.size ≤ wr.heap.size) (fun _ i _ => l.length - (intOf i).toNat)
  case atStart => exact ⟨0, [], none, 0, Nat.zero_le _, rfl, rfl, Lib.hid rfl, by rw [mix_zero]; exact o1, Own.nil_, b1, Nat.le_refl _⟩
  case round =>
    obtain ⟨k, acc, A2, c2, hk, rfl, rfl, HA, hown, hacc, hb, hws⟩ := hrel
    have ACCL := plc_len (goneB self after) l k
    rw [HA.out] at ACCL
    by_cases hlt : k < l.length
    · obtain ⟨x, hx⟩ : ∃ x, l[k]? = some x := ⟨_, List.getElem?_eq_getElem hlt⟩
      have xok := HOK.out x (List.mem_of_getElem? hx)
      obtain ⟨_, ⟨xs0, xs1⟩, xq0, xq1⟩ := xok
      have kl : (k : Int) < (l.length : Int) := by omega
      have k255 : (k : Int) ≤ 255 := by omega
      have HML := Lib.hid (tick_len l self after)
      have hmx := mix_at HML.out (k := k) hlt
      rw [hx] at hmx
      have HMX := Lib.hid hmx
      clear hmx
      have HMA := Lib.hid (tick_at (self := self) (after := after) hx)
      obtain ⟨g1, rfl⟩ : ∃ g1, A1 = some ⟨g1, 0, none⟩ := by
        rcases hown.2 with ⟨_, h0⟩ | ⟨g1, _, _, hv, _⟩
        · rw [mix_len HML.out (by omega)] at h0; omega
        · injection hv with hA _ _; exact ⟨g1, hA⟩
      have lown := (Own.row hown).2.1
      have gh1 : g1 < w1.heap.size := hi1 g1 rfl
      have ghi : g1 < wr.heap.size := Own.hi hown g1 rfl
      have alo := Own.lt hacc
      have HLX := Lib.hid hx
      clear hx hr hi1
      by_cases hself : (k : Int) = self
      · have t1 : ((k : Int) == self) = true := by simpa using hself
        have GN : Hid (goneB self after k x = false) := Lib.hid (by unfold goneB; rw [decide_eq_false_iff_not]; exact fun h => h.1 hself)
        have TK : Hid (tick1 self after k x = x) := Lib.hid (by unfold tick1; rw [if_pos (.inl hself)])
        clear hself
        go_wp2_with fail
        go_roundw
        case rel => exact ⟨k + 1, acc, A2, c2, hlt, by go_num, rfl, Lib.hid (by rw [plc_no HLX.out GN.out, HA.out]), by rw [mix_same HML.out (by rw [HMA.out, HLX.out, TK.out])]; exact hown, hacc, hb, hws⟩
        case measure => simp [intOf]; omega
      · have t1 : ((k : Int) == self) = false := by simpa using hself
        have e0' := Own.at_ memc_len hown HMX.out (j := 0) rfl
        rw [Nat.add_zero] at e0'
        have e1' := Own.at_ memc_len hown HMX.out (j := 1) rfl
        have e2' := Own.at_ memc_len hown HMX.out (j := 2) rfl
        have ff' := fun j => Own.free hown j
        cases hup : upB x
        · have t2 : (x.s != 1) = true := by rw [bne_iff_ne]; intro h; unfold upB at hup; rw [decide_eq_false_iff_not] at hup; exact hup (.inl h)
          have t3 : (x.s != 2) = true := by rw [bne_iff_ne]; intro h; unfold upB at hup; rw [decide_eq_false_iff_not] at hup; exact hup (.inr h)
          have GN : Hid (goneB self after k x = false) := Lib.hid (by unfold goneB; rw [decide_eq_false_iff_not]; intro h; unfold upB at hup; rw [decide_eq_false_iff_not] at hup; exact hup (.inl h.2.1))
          have TK : Hid (tick1 self after k x = x) := Lib.hid (by unfold tick1; rw [if_pos (.inr hup)])
          clear hself hup
          go_wp2_with fail
          go_roundw
          case rel => exact ⟨k + 1, acc, A2, c2, hlt, by go_num, rfl, Lib.hid (by rw [plc_no HLX.out GN.out, HA.out]), by rw [mix_same HML.out (by rw [HMA.out, HLX.out, TK.out])]; exact hown, hacc, hb, hws⟩
          case measure => simp [intOf]; omega
        · have hup2 : x.s = 1 ∨ x.s = 2 := by unfold upB at hup; rwa [decide_eq_true_iff] at hup
          have own5 := hown
          have acc5 := hacc
          have bl5 := hb
          have sz5 := hws
          clear hown hacc hb
          by_cases hq : x.q < 255
          · have TQ : Hid (q1 x.q = x.q + 1) := Lib.hid (by unfold q1; rw [if_pos hq])
            have t5 : (x.q != 255) = true := by rw [bne_iff_ne]; omega
            by_cases h1 : x.s = 1
            · have t6 : (x.s == 1) = true := by simpa using h1
              have t2 : (x.s != 1) = false := by simpa using h1
              have t3 : (x.s != 2) = true := by rw [bne_iff_ne]; omega
              by_cases h2 : after ≤ x.q + 1
              · have t7 : decide (after ≤ x.q + 1) = true := by simpa using h2
                have GN : Hid (goneB self after k x = true) := Lib.hid (by unfold goneB; rw [decide_eq_true_iff, TQ.out]; exact ⟨hself, h1, h2⟩)
                have TK : Hid (tick1 self after k x = ⟨x.i, 2, x.q + 1⟩) := Lib.hid (by unfold tick1; rw [if_neg (by rintro (h | h); (exact hself h); (rw [h] at hup; cases hup)), GN.out, TQ.out]; rfl)
                clear hself hup hup2 h1 h2
                have ownA := Own.put1 memc_len own5 HMX.out (j := 2) (by omega) ⟨x.i, x.s, x.q + 1⟩ (.int .u8 (x.q + 1)) rfl
                have accA := Own.far (p := ⟨g1, k * 3 + 2, none⟩) acc5 (fun j hj => by have := alo j hj; show j ≠ g1; omega) (.int .u8 (x.q + 1))
                have blA := Gw.st bl5 (p := ⟨g1, k * 3 + 2, none⟩) lown (.int .u8 (x.q + 1))
                have ownB := Own.put1 memc_len ownA (k := k) (x := ⟨x.i, x.s, x.q + 1⟩) (by rw [List.getElem?_set_self (by rw [mix_len HML.out (by omega)]; exact hlt)]) (j := 1) (by omega) ⟨x.i, 2, x.q + 1⟩ (.int .u8 2) rfl
                simp only [List.set_set] at ownB
                have accB := Own.far (p := ⟨g1, k * 3 + 1, none⟩) accA (fun j hj => by have := alo j hj; show j ≠ g1; omega) (.int .u8 2)
                have blB := Gw.st blA (p := ⟨g1, k * 3 + 1, none⟩) lown (.int .u8 2)
                have szS : w1.heap.size ≤ ((wr.setCell ⟨g1, k * 3 + 2, none⟩ (.int .u8 (x.q + 1))).setCell ⟨g1, k * 3 + 1, none⟩ (.int .u8 2)).heap.size := by simp only [Gw.setSize]; exact sz5
                rw [mix_set HML.out (by rw [HMA.out, TK.out])] at ownB
                go_wp2_with (at_builtin; refine wpList_app (((wr.setCell ⟨g1, k * 3 + 2, none⟩ (.int .u8 (x.q + 1))).setCell ⟨g1, k * 3 + 1, none⟩ (.int .u8 2)).alloc (.cells #[.int .u8 k] 5)) rfl _ _ 28 rfl w1.heap.size 5 i0 _ 1 Try.underlying28 hi0 hz0 hz1 hz2 rfl (by omega) (int_len .u8) (int_one .u8) _ acc rfl (accB.alloc _) acc.length rfl _ _ 1 1 [(k : Int)] rfl rfl (Rd.oneAt .u8 ((wr.setCell ⟨g1, k * 3 + 2, none⟩ (.int .u8 (x.q + 1))).setCell ⟨g1, k * 3 + 1, none⟩ (.int .u8 2)) wr.heap.size (by simp only [Gw.setSize]) _ _) (by omega) (by omega) (by rw [World.size_alloc]; omega) ?_; intro A3 c3 w6 hacc6 hg6)
                have hg6' : (((wr.setCell ⟨g1, k * 3 + 2, none⟩ (.int .u8 (x.q + 1))).setCell ⟨g1, k * 3 + 1, none⟩ (.int .u8 2)).alloc (.cells #[.int .u8 k] 5)).grownBy w6 (Value.slice A2 acc.length c2).ownBlock := hg6
                clear hg6
                have sz6 := hg6'.size
                rw [World.size_alloc] at sz6
                go_roundw
                case rel =>
                  refine ⟨k + 1, acc ++ [(k : Int)], A3, c3, hlt, by go_num, by simp, Lib.hid (by rw [plc_yes HLX.out GN.out, HA.out]), Own.keep (ownB.alloc _) hg6' ?_, by simpa using hacc6, Gw.gr (Gw.al blB _) hg6' (fun j hj => by have := alo j hj; omega), by omega⟩
                  refine .inr fun e => ?_
                  have := alo g1 e.symm
                  omega
                case measure => simp [intOf]; omega
              · have t7 : decide (after ≤ x.q + 1) = false := by simpa using h2
                have GN : Hid (goneB self after k x = false) := Lib.hid (by unfold goneB; rw [decide_eq_false_iff_not, TQ.out]; exact fun h => h2 h.2.2)
                have TK : Hid (tick1 self after k x = ⟨x.i, x.s, x.q + 1⟩) := Lib.hid (by unfold tick1; rw [if_neg (by rintro (h | h); (exact hself h); (rw [h] at hup; cases hup)), GN.out, TQ.out]; rfl)
                clear hself hup hup2 h1 h2
                have ownA := Own.put1 memc_len own5 HMX.out (j := 2) (by omega) ⟨x.i, x.s, x.q + 1⟩ (.int .u8 (x.q + 1)) rfl
                have accA := Own.far (p := ⟨g1, k * 3 + 2, none⟩) acc5 (fun j hj => by have := alo j hj; show j ≠ g1; omega) (.int .u8 (x.q + 1))
                have blA := Gw.st bl5 (p := ⟨g1, k * 3 + 2, none⟩) lown (.int .u8 (x.q + 1))
                have szS : w1.heap.size ≤ (wr.setCell ⟨g1, k * 3 + 2, none⟩ (.int .u8 (x.q + 1))).heap.size := by simp only [Gw.setSize]; exact sz5
                rw [mix_set HML.out (by rw [HMA.out, TK.out])] at ownA
                go_wp2_with fail
                go_roundw
                case rel => exact ⟨k + 1, acc, A2, c2, hlt, by go_num, rfl, Lib.hid (by rw [plc_no HLX.out GN.out, HA.out]), ownA, accA, blA, szS⟩
                case measure => simp [intOf]; omega
            · have t6 : (x.s == 1) = false := by simpa using h1
              have t2 : (x.s != 1) = true := by rw [bne_iff_ne]; exact h1
              have t3 : (x.s != 2) = false := by simp; omega
              have GN : Hid (goneB self after k x = false) := Lib.hid (by unfold goneB; rw [decide_eq_false_iff_not, TQ.out]; exact fun h => h1 h.2.1)
              have TK : Hid (tick1 self after k x = ⟨x.i, x.s, x.q + 1⟩) := Lib.hid (by unfold tick1; rw [if_neg (by rintro (h | h); (exact hself h); (rw [h] at hup; cases hup)), GN.out, TQ.out]; rfl)
              clear hself hup hup2 h1
              have ownA := Own.put1 memc_len own5 HMX.out (j := 2) (by omega) ⟨x.i, x.s, x.q + 1⟩ (.int .u8 (x.q + 1)) rfl
              have accA := Own.far (p := ⟨g1, k * 3 + 2, none⟩) acc5 (fun j hj => by have := alo j hj; show j ≠ g1; omega) (.int .u8 (x.q + 1))
              have blA := Gw.st bl5 (p := ⟨g1, k * 3 + 2, none⟩) lown (.int .u8 (x.q + 1))
              have szS : w1.heap.size ≤ (wr.setCell ⟨g1, k * 3 + 2, none⟩ (.int .u8 (x.q + 1))).heap.size := by simp only [Gw.setSize]; exact sz5
              rw [mix_set HML.out (by rw [HMA.out, TK.out])] at ownA
              go_wp2_with fail
              go_roundw
              case rel => exact ⟨k + 1, acc, A2, c2, hlt, by go_num, rfl, Lib.hid (by rw [plc_no HLX.out GN.out, HA.out]), ownA, accA, blA, szS⟩
              case measure => simp [intOf]; omega
          · have TQ : Hid (q1 x.q = x.q) := Lib.hid (by unfold q1; rw [if_neg hq])
            have t5 : (x.q != 255) = false := by simp; omega
            by_cases h1 : x.s = 1
            · have t6 : (x.s == 1) = true := by simpa using h1
              have t2 : (x.s != 1) = false := by simpa using h1
              have t3 : (x.s != 2) = true := by rw [bne_iff_ne]; omega
              by_cases h2 : after ≤ x.q
              · have t7 : decide (after ≤ x.q) = true := by simpa using h2
                have GN : Hid (goneB self after k x = true) := Lib.hid (by unfold goneB; rw [decide_eq_true_iff, TQ.out]; exact ⟨hself, h1, h2⟩)
                have TK : Hid (tick1 self after k x = ⟨x.i, 2, x.q⟩) := Lib.hid (by unfold tick1; rw [if_neg (by rintro (h | h); (exact hself h); (rw [h] at hup; cases hup)), GN.out, TQ.out]; rfl)
                clear hself hup hup2 h1 h2
                have ownB := Own.put1 memc_len own5 HMX.out (j := 1) (by omega) ⟨x.i, 2, x.q⟩ (.int .u8 2) rfl
                have accB := Own.far (p := ⟨g1, k * 3 + 1, none⟩) acc5 (fun j hj => by have := alo j hj; show j ≠ g1; omega) (.int .u8 2)
                have blB := Gw.st bl5 (p := ⟨g1, k * 3 + 1, none⟩) lown (.int .u8 2)
                have szS : w1.heap.size ≤ (wr.setCell ⟨g1, k * 3 + 1, none⟩ (.int .u8 2)).heap.size := by simp only [Gw.setSize]; exact sz5
                rw [mix_set HML.out (by rw [HMA.out, TK.out])] at ownB
                go_wp2_with (at_builtin; refine wpList_app ((wr.setCell ⟨g1, k * 3 + 1, none⟩ (.int .u8 2)).alloc (.cells #[.int .u8 k] 5)) rfl _ _ 28 rfl w1.heap.size 5 i0 _ 1 Try.underlying28 hi0 hz0 hz1 hz2 rfl (by omega) (int_len .u8) (int_one .u8) _ acc rfl (accB.alloc _) acc.length rfl _ _ 1 1 [(k : Int)] rfl rfl (Rd.oneAt .u8 (wr.setCell ⟨g1, k * 3 + 1, none⟩ (.int .u8 2)) wr.heap.size (by simp only [Gw.setSize]) _ _) (by omega) (by omega) (by rw [World.size_alloc]; omega) ?_; intro A3 c3 w6 hacc6 hg6)
                have hg6' : ((wr.setCell ⟨g1, k * 3 + 1, none⟩ (.int .u8 2)).alloc (.cells #[.int .u8 k] 5)).grownBy w6 (Value.slice A2 acc.length c2).ownBlock := hg6
                clear hg6
                have sz6 := hg6'.size
                rw [World.size_alloc] at sz6
                go_roundw
                case rel =>
                  refine ⟨k + 1, acc ++ [(k : Int)], A3, c3, hlt, by go_num, by simp, Lib.hid (by rw [plc_yes HLX.out GN.out, HA.out]), Own.keep (ownB.alloc _) hg6' ?_, by simpa using hacc6, Gw.gr (Gw.al blB _) hg6' (fun j hj => by have := alo j hj; omega), by omega⟩
                  refine .inr fun e => ?_
                  have := alo g1 e.symm
                  omega
                case measure => simp [intOf]; omega
              · have t7 : decide (after ≤ x.q) = false := by simpa using h2
                have GN : Hid (goneB self after k x = false) := Lib.hid (by unfold goneB; rw [decide_eq_false_iff_not, TQ.out]; exact fun h => h2 h.2.2)
                have TK : Hid (tick1 self after k x = ⟨x.i, x.s, x.q⟩) := Lib.hid (by unfold tick1; rw [if_neg (by rintro (h | h); (exact hself h); (rw [h] at hup; cases hup)), GN.out, TQ.out]; rfl)
                clear hself hup hup2 h1 h2
                have szS : w1.heap.size ≤ wr.heap.size := by exact sz5
                go_wp2_with fail
                go_roundw
                case rel => exact ⟨k + 1, acc, A2, c2, hlt, by go_num, rfl, Lib.hid (by rw [plc_no HLX.out GN.out, HA.out]), by rw [mix_same HML.out (by rw [HMA.out, HLX.out, TK.out])]; exact own5, acc5, bl5, szS⟩
                case measure => simp [intOf]; omega
            · have t6 : (x.s == 1) = false := by simpa using h1
              have t2 : (x.s != 1) = true := by rw [bne_iff_ne]; exact h1
              have t3 : (x.s != 2) = false := by simp; omega
              have GN : Hid (goneB self after k x = false) := Lib.hid (by unfold goneB; rw [decide_eq_false_iff_not, TQ.out]; exact fun h => h1 h.2.1)
              have TK : Hid (tick1 self after k x = ⟨x.i, x.s, x.q⟩) := Lib.hid (by unfold tick1; rw [if_neg (by rintro (h | h); (exact hself h); (rw [h] at hup; cases hup)), GN.out, TQ.out]; rfl)
              clear hself hup hup2 h1
              have szS : w1.heap.size ≤ wr.heap.size := by exact sz5
              go_wp2_with fail
              go_roundw
              case rel => exact ⟨k + 1, acc, A2, c2, hlt, by go_num, rfl, Lib.hid (by rw [plc_no HLX.out GN.out, HA.out]), by rw [mix_same HML.out (by rw [HMA.out, HLX.out, TK.out])]; exact own5, acc5, bl5, szS⟩
              case measure => simp [intOf]; omega
    · obtain rfl : k = l.length := by omega
      have HE : Hid (mix (tickL l self after) l l.length = tickL l self after) := Lib.hid (mix_end (tick_len l self after) (fun j hj => by rw [List.getElem?_eq_none (by rw [tick_len]; omega), List.getElem?_eq_none (by omega)]))
      rw [HE.out] at hown
      go_wp2_with fail
      go_ret2
      unfold goneL
      rw [HA.out]
      exact ⟨A1, c1, A2, c2, rfl, hown, hacc.base_le hw1, hb⟩
end Go.Proofs.Ytgkdljfhmflmjaa
