/-
  grapevinelaw23.Nums and Same: rows of numbers, and tapes, are compared.
-/
import Derived.Test.YtbdipaooekiofaaObj
import Derived.Test.YtbdipaooekiofaaInts
import Derived.Deep.QuietTactic
import Derived.BigQuiet
namespace Go.Proofs.Ytbdipaooekiofaa
open Go.RowKit

theorem eq_of_all {α : Type} {a b : List α} (hl : a.length = b.length) (h : ∀ j, j < a.length → a[j]? = b[j]?) : a = b := by
  apply List.ext_getElem?
  intro j
  by_cases hj : j < a.length
  · exact h j hj
  · rw [List.getElem?_eq_none (by omega), List.getElem?_eq_none (by omega)]
theorem all_snoc {α : Type} {a b : List α} {k : Nat} {x : α} (h : ∀ j, j < k → a[j]? = b[j]?) (ha : a[k]? = some x) (hb : b[k]? = some x) : ∀ j, j < k + 1 → a[j]? = b[j]? := by
  intro j hj
  rcases Nat.lt_succ_iff_lt_or_eq.1 hj with h1 | rfl
  · exact h j h1
  · rw [ha, hb]

set_option maxHeartbeats 800000 in
theorem nums_any (a b : List Int) (A B : Option Addr) (n m ca cb : Nat) (w : World) (ha : Rd (fun z : Int => [Value.int .u32 z]) 1 w.heap.size w A a) (hb : Rd (fun z : Int => [Value.int .u32 z]) 1 w.heap.size w B b) (hna : n = a.length) (hmb : m = b.length) (hla : a.length ≤ 140737488355328) (hlb : b.length ≤ 140737488355328) :
    Calls Try.prog 14 #[.slice A n ca, .slice B m cb] w fun e w' => e = .returned (.bool (decide (a = b))) ∧ Below w.heap.size w w' := by
  subst hna hmb
  by_cases hl : a.length = b.length
  · have HL := Lib.hid hl
    have ht : (((a.length : Int)) != (b.length : Int)) = false := by rw [hl]; simp
    clear hl
    go_enter Try.func14, Try.ntmps14
    go_wp2_with fail
    go_loopw [13] (fun i wr => ∃ k : Nat, k ≤ a.length ∧ i = .int .i64 k ∧ Below w.heap.size w wr ∧ Hid (∀ j, j < k → a[j]? = b[j]?)) (fun i _ => a.length - (intOf i).toNat)
    case atStart => exact ⟨0, Nat.zero_le _, rfl, Below.refl _ _, fun j hj => absurd hj (Nat.not_lt_zero _)⟩
    case round =>
      obtain ⟨k, hk, rfl, hw, HH⟩ := hrel
      by_cases hlt : k < a.length
      · have hlt2 : k < b.length := by rw [← HL.out]; exact hlt
        obtain ⟨x, hx⟩ : ∃ x, a[k]? = some x := ⟨_, List.getElem?_eq_getElem hlt⟩
        obtain ⟨y, hy⟩ : ∃ y, b[k]? = some y := ⟨_, List.getElem?_eq_getElem hlt2⟩
        obtain ⟨b1, o1, rfl, _, e0⟩ := (ha.below hw).int1 hx
        obtain ⟨b2, o2, rfl, _, f0⟩ := (hb.below hw).int1 hy
        have HX := Lib.hid hx
        have HY := Lib.hid hy
        clear hx hy ha hb
        by_cases hxy : x = y
        · subst hxy
          go_wp2_with fail
          go_quiet (fail)
          go_wp2
          go_roundw
          case rel => exact ⟨k + 1, by omega, by go_num, Gw.drewN hw _, all_snoc HH.out HX.out HY.out⟩
          case measure => simp [intOf]; omega
        · have hres : decide (a = b) = false := by
            rw [decide_eq_false_iff_not]
            rintro rfl
            have := HX.out.symm.trans HY.out
            injection this with this
            exact hxy this
          have HR := Lib.hid hres
          clear hres
          go_wp2_with fail
          go_quiet (fail)
          go_wp2
          go_ret
          exact ⟨ret_bool HR.out.symm, Gw.drewN hw _⟩
      · obtain rfl : k = a.length := by omega
        go_wp2_with fail
        go_ret
        exact ⟨ret_bool (by symm; rw [decide_eq_true_iff]; exact eq_of_all HL.out HH.out), hw⟩
  · have ht : (((a.length : Int)) != (b.length : Int)) = true := by rw [bne_iff_ne]; omega
    have HL := Lib.hid hl
    clear hl
    go_enter Try.func14, Try.ntmps14
    go_wp2_with fail
    go_ret
    exact ⟨ret_bool (by symm; rw [decide_eq_false_iff_not]; intro h; exact HL.out (by rw [h])), Below.refl _ _⟩
set_option maxHeartbeats 800000 in
theorem tsame_any (a b : List Int) (A B : Option Addr) (n m ca cb : Nat) (p : Int) (w : World) (ha : Rd (fun z : Int => [Value.int .u32 z]) 1 w.heap.size w A a) (hb : Rd (fun z : Int => [Value.int .u32 z]) 1 w.heap.size w B b) (hna : n = a.length) (hmb : m = b.length) (hla : a.length ≤ 140737488355328) (hlb : b.length ≤ 140737488355328) :
    Calls Try.prog 13 #[.agg #[.slice A n ca, .int .i64 p], .agg #[.slice B m cb, .int .i64 p]] w fun e w' => e = .returned (.bool (decide (a = b))) ∧ Below w.heap.size w w' := by
  subst hna hmb
  have b0 := Gw.al (Gw.al (Below.refl w.heap.size w) (.cells #[.slice A a.length ca, .int .i64 p] 24)) (.cells #[.slice B b.length cb, .int .i64 p] 24)
  go_enter Try.func13, Try.ntmps13
  go_wp2_with (go_at_call 14; (with_reducible refine (nums_any a b A B a.length b.length ca cb _ (ha.up b0) (hb.up b0) rfl rfl hla hlb).mono ?_); rintro e w1 ⟨rfl, hb1⟩; have b1 := Gw.call b0 hb1)
  go_ret
  exact ⟨rfl, b1⟩
end Go.Proofs.Ytbdipaooekiofaa
