/-
  PushTells: the walk.
-/
import Derived.Test.YtbkmfmemcooagaaAwake16
import Derived.Test.YtbkmfmemcooagaaRefPick
import Derived.Test.YtbkmfmemcooagaaFrame
namespace Go.Proofs.Ytbkmfmemcooagaa
open Go.RowKit

set_option maxHeartbeats 400000 in
theorem rhop_zero (w : World) : Calls Try.prog 10 #[.int .u8 0] w fun e w' => e = .returned (.tuple #[.int .u8 0, .bool false]) ∧ w = w' := by
  go_enter Try.func10, Try.ntmps10
  go_wp2
  go_ret2
  exact ⟨rfl, rfl⟩
set_option maxHeartbeats 400000 in
theorem rhop_more (h : Int) (h0 : 0 < h) (h1 : h ≤ 255) (w : World) : Calls Try.prog 10 #[.int .u8 h] w fun e w' => e = .returned (.tuple #[.int .u8 (h - 1), .bool true]) ∧ w = w' := by
  have e : (decide (h = 0)) = false := by simp; omega
  go_enter Try.func10, Try.ntmps10
  go_wp2
  go_ret2
  exact ⟨rfl, rfl⟩
theorem pickL_mem {n : Nat} {l ds : List Int} (h : u8L l) : u8L (pickL n l ds) := fun x hx => by
  rw [pickL_take n (max n l.length) l ds (by omega)] at hx
  exact h x ((pickL_perm (max n l.length) l ds (by omega)).mem_iff.1 (List.mem_of_mem_take hx))
set_option maxHeartbeats 2000000 in
theorem tells_any (l ds : List Int) (F h : Int) (A D : Option Addr) (cap dcap : Nat) (w : World) (hr : Rd (fun z : Int => [Value.int .u8 z]) 1 w.heap.size w A l) (hrd : Rd (fun z : Int => [Value.int .u32 z]) 1 w.heap.size w D ds)
    (hl : u8L l) (hds : ∀ x ∈ ds, 0 ≤ x ∧ x ≤ 4294967295) (hF : F ≤ 9223372036854775807) (hh : 0 ≤ h ∧ h ≤ 255) (hlc : l.length ≤ cap) (hcm : cap ≤ maxLen) (hdc : ds.length ≤ dcap) (hdm : dcap ≤ maxLen) :
    Calls Try.prog 3 #[.slice A l.length cap, .int .i64 F, .slice D ds.length dcap, .int .u8 h] w fun e w' => e = .returned (.bool true) ∧ Below w.heap.size w w' := by
  unfold maxLen at hcm hdm
  by_cases hc : l.length ≤ 100 ∧ ds.length ≤ 200
  · obtain ⟨hc1, hc2⟩ := hc
    have PK := Lib.hid (pick_any l ds F A D cap dcap w hr hrd (by omega) (by omega) hF hds)
    have RP := Lib.hid (fun w1 (hb : Below w.heap.size w w1) => refpick_any l ds F A D cap dcap w1 (hr.up hb) (hrd.up hb) (by omega) (by omega) hF hds)
    have hm := pickL_mem (n := F.toNat) (ds := ds) hl
    have HM := Lib.hid hm
    generalize pickL F.toNat l ds = p at *
    have SM := Lib.hid (fun w (A B : Option Addr) (c d : Nat) (h1 : Rd (fun z : Int => [Value.int .u8 z]) 1 w.heap.size w A p) (h2 : Rd (fun z : Int => [Value.int .u8 z]) 1 w.heap.size w B p) => same01_any p p A B p.length p.length c d w h1 h2 rfl rfl HM.out HM.out)
    rw [decide_eq_true (rfl : p = p)] at SM
    have l1 : ¬ (100 : Int) < l.length := by omega
    have l2 : ¬ (200 : Int) < ds.length := by omega
    have d1 : decide ((100 : Int) < l.length) = false := by simp; omega
    have d2 : decide ((200 : Int) < ds.length) = false := by simp; omega
    clear hm hl hds hr hrd
    by_cases h0 : h = 0
    · subst h0
      go_enter Try.func3, Try.ntmps3
      go_wp2_with (first
        | (go_at_call 9; (with_reducible refine (hop_zero _).mono ?_); rintro e w' ⟨rfl, rfl⟩)
        | (go_at_call 10; (with_reducible refine (rhop_zero _).mono ?_); rintro e w' ⟨rfl, rfl⟩)
        | (go_at_call 12; (with_reducible refine PK.out.mono ?_); rintro e w1 ⟨A1, c1, rfl, o1, b1⟩)
        | (go_at_call 13; (with_reducible refine (RP.out _ b1).mono ?_); rintro e w2 ⟨A2, c2, rfl, o2, hb⟩; have b2 := Gw.call b1 hb; replace o1 := Own.below o1 hb; clear hb b1)
        | (go_at_call 11; (with_reducible refine (SM.out _ _ _ _ _ (o1.rd (int_len .u8)) (o2.rd (int_len .u8))).mono ?_); rintro e w' ⟨rfl, rfl⟩)
        | (go_at_call 8; (with_reducible refine (awake_any _).mono ?_); rintro e w3 ⟨rfl, hb⟩; have b3 := Gw.call b2 hb))
      go_ret
      exact ⟨rfl, b3⟩
    · have h1 : 0 < h := by omega
      go_enter Try.func3, Try.ntmps3
      go_wp2_with (first
        | (go_at_call 9; (with_reducible refine (hop_more h h1 hh.2 _).mono ?_); rintro e w' ⟨rfl, rfl⟩)
        | (go_at_call 10; (with_reducible refine (rhop_more h h1 hh.2 _).mono ?_); rintro e w' ⟨rfl, rfl⟩)
        | (go_at_call 12; (with_reducible refine PK.out.mono ?_); rintro e w1 ⟨A1, c1, rfl, o1, b1⟩)
        | (go_at_call 13; (with_reducible refine (RP.out _ b1).mono ?_); rintro e w2 ⟨A2, c2, rfl, o2, hb⟩; have b2 := Gw.call b1 hb; replace o1 := Own.below o1 hb; clear hb b1)
        | (go_at_call 11; (with_reducible refine (SM.out _ _ _ _ _ (o1.rd (int_len .u8)) (o2.rd (int_len .u8))).mono ?_); rintro e w' ⟨rfl, rfl⟩)
        | (go_at_call 8; (with_reducible refine (awake_any _).mono ?_); rintro e w3 ⟨rfl, hb⟩; have b3 := Gw.call b2 hb))
      go_ret
      exact ⟨rfl, b3⟩
  · by_cases h1 : l.length ≤ 100
    · have h2 : ¬ ds.length ≤ 200 := fun h => hc ⟨h1, h⟩
      have l1 : ¬ (100 : Int) < l.length := by omega
      have l2 : (200 : Int) < ds.length := by omega
      have d1 : decide ((100 : Int) < l.length) = false := by simp; omega
      clear hc
      go_enter Try.func3, Try.ntmps3
      go_wp2_with (go_at_call 8; (with_reducible refine (awake_any _).mono ?_); rintro e w' ⟨rfl, hb⟩)
      go_ret
      exact ⟨rfl, hb⟩
    · have l1 : (100 : Int) < l.length := by omega
      clear hc
      go_enter Try.func3, Try.ntmps3
      go_wp2_with (go_at_call 8; (with_reducible refine (awake_any _).mono ?_); rintro e w' ⟨rfl, hb⟩)
      go_ret
      exact ⟨rfl, hb⟩
end Go.Proofs.Ytbkmfmemcooagaa
