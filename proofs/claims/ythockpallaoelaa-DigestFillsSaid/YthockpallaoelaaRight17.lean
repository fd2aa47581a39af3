/-
  grapevinelaw17.Right: are rows right for a window, and not too many?
-/
import Derived.Test.YthockpallaoelaaRef08
import Derived.Test.YthockpallaoelaaLacks
namespace Go.Proofs.Ythockpallaoelaa
open Go.RowKit
noncomputable def right17 (rows : List Rw) (m most : Int) : Bool := decide ((∀ r ∈ rows, rightRow r m = true) ∧ (rows.length : Int) ≤ most ∧ 1 ≤ m ∧ m ≤ 64)
theorem right17_no {rows : List Rw} {m most : Int} {r : Rw} {k : Nat} (h : rows[k]? = some r) (hr : rightRow r m = false) : right17 rows m most = false := by
  unfold right17
  rw [decide_eq_false_iff_not]
  rintro ⟨h1, _⟩
  rw [h1 r (List.mem_of_getElem? h)] at hr
  cases hr
theorem right17_all {rows : List Rw} {m most : Int} (h : ∀ j r, j < rows.length → rows[j]? = some r → rightRow r m = true) : right17 rows m most = decide ((rows.length : Int) ≤ most ∧ 1 ≤ m ∧ m ≤ 64) := by
  unfold right17
  rw [decide_eq_decide]
  refine ⟨fun h' => h'.2, fun h' => ⟨fun r hr => ?_, h'⟩⟩
  obtain ⟨j, hj⟩ := List.getElem?_of_mem hr
  exact h j r (List.getElem?_eq_some_iff.1 hj).1 hj
set_option maxHeartbeats 2000000 in
theorem right17_any (rows : List Rw) (A : Option Addr) (cap : Nat) (m most : Int) (w : World) (hr : Rd rowc 3 w.heap.size w A rows) (hok : ∀ r ∈ rows, r.ok) (hlen : rows.length ≤ 9223372036854775807) :
    Calls Try.prog 8 #[.slice A rows.length cap, .int .i64 m, .int .i64 most] w fun e w' => e = .returned (.bool (right17 rows m most)) ∧ Below w.heap.size w w' := by
  have HOK := Lib.hid hok
  clear hok
  go_enter Try.func8, Try.ntmps8
  go_wp2_with fail
  go_loopw [11] (fun i wr => ∃ k : Nat, k ≤ rows.length ∧ i = .int .i64 k ∧ Below w.heap.size w wr ∧ Hid (∀ j r, j < k → rows[j]? = some r → rightRow r m = true)) (fun i _ => rows.length - (intOf i).toNat)
  case atStart => exact ⟨0, Nat.zero_le _, rfl, Below.refl _ _, fun j r hj => absurd hj (Nat.not_lt_zero _)⟩
  case round =>
    obtain ⟨k, hk, rfl, hb, HH⟩ := hrel
    by_cases hlt : k < rows.length
    · obtain ⟨r, hx⟩ : ∃ r, rows[k]? = some r := ⟨_, List.getElem?_eq_getElem hlt⟩
      obtain ⟨b, o, rfl, hbb, e0, e1, e2⟩ := row_at (hr.below hb) hx
      have rok := HOK.out r (List.mem_of_getElem? hx)
      have HX := Lib.hid hx
      have X := Ob.new wr #[.int .u16 r.i, .int .u32 r.p, .int .u64 r.b] 34
      have bl := Gw.al hb (.cells #[.int .u16 r.i, .int .u32 r.p, .int .u64 r.b] 34)
      clear hx hr
      cases hq : rightRow r m
      all_goals
        have HM := Lib.hid (fun W => hq ▸ refright_any r m rok W)
        have HQ := Lib.hid hq
        clear hq
        go_wp2_with fail
        refine (HM.out _).mono ?_
        rintro e w1 ⟨rfl, hb1⟩
        replace bl := Gw.call bl hb1
        clear hb1
        go_wp2_with fail
      · go_ret
        exact ⟨ret_bool (right17_no HX.out HQ.out).symm, bl⟩
      · go_roundw
        case rel =>
          refine ⟨k + 1, hlt, by go_num, bl, fun j y hj hy => ?_⟩
          rcases Nat.lt_succ_iff_lt_or_eq.1 hj with h1 | rfl
          · exact HH.out j y h1 hy
          · rw [HX.out] at hy; cases hy; exact HQ.out
        case measure => simp [intOf]; omega
    · obtain rfl : k = rows.length := by omega
      have HA := Lib.hid (right17_all (most := most) HH.out)
      clear HH
      by_cases h1 : (rows.length : Int) ≤ most <;> by_cases h2 : 1 ≤ m <;> by_cases h3 : m ≤ 64
      all_goals
        go_wp2_with fail
        go_ret
        exact ⟨ret_bool (by rw [HA.out]; simp [h1, h2, h3]), hb⟩
end Go.Proofs.Ythockpallaoelaa
