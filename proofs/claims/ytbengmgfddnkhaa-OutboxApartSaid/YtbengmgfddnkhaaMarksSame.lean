/-
  grapevinelaw17.Marks: two lists of marks (triples as ids are) are compared place by place.
-/
import Derived.Test.YtbengmgfddnkhaaIdSame
import Derived.Deep.QuietTactic
import Derived.BigQuiet
namespace Go.Proofs.Ytbengmgfddnkhaa
open Go.RowKit

set_option maxHeartbeats 800000 in
theorem msame_any (a b : List Id) (A B : Option Addr) (ca cb : Nat) (w : World) (ha : Rd idc 3 w.heap.size w A a) (hb : Rd idc 3 w.heap.size w B b) (hla : a.length ≤ 140737488355328) (hlb : b.length ≤ 140737488355328) :
    Calls Try.prog 23 #[.slice A a.length ca, .slice B b.length cb] w fun e w' => e = .returned (.bool (decide (a = b))) ∧ Below w.heap.size w w' := by
  by_cases hl : a.length = b.length
  · have HL := Lib.hid hl
    have ht : (((a.length : Int)) != (b.length : Int)) = false := by rw [hl]; simp
    clear hl
    go_enter Try.func23, Try.ntmps23
    go_wp2_with fail
    go_loopw [13] (fun i wr => ∃ k : Nat, k ≤ a.length ∧ i = .int .i64 k ∧ Below w.heap.size w wr ∧ Hid (∀ j, j < k → a[j]? = b[j]?)) (fun i _ => a.length - (intOf i).toNat)
    case atStart => exact ⟨0, Nat.zero_le _, rfl, Below.refl _ _, fun j hj => absurd hj (Nat.not_lt_zero _)⟩
    case round =>
      obtain ⟨k, hk, rfl, hw, HH⟩ := hrel
      by_cases hlt : k < a.length
      · have hlt2 : k < b.length := by rw [← HL.out]; exact hlt
        obtain ⟨x, hx⟩ : ∃ x, a[k]? = some x := ⟨_, List.getElem?_eq_getElem hlt⟩
        obtain ⟨y, hy⟩ : ∃ y, b[k]? = some y := ⟨_, List.getElem?_eq_getElem hlt2⟩
        obtain ⟨b1, o1, rfl, _, e0, e1, e2⟩ := (ha.below hw).id3 hx
        obtain ⟨b2, o2, rfl, _, f0, f1, f2⟩ := (hb.below hw).id3 hy
        have HX := Lib.hid hx
        have HY := Lib.hid hy
        clear hx hy ha hb
        by_cases hxy : x = y
        · subst hxy
          go_wp2_with fail
          go_quiet (fail)
          go_wp2
          go_roundw
          case rel => exact ⟨k + 1, by omega, by go_num, Gw.drewN hw _, all_snoc HH.out HX.out HY.out⟩
          case measure => simp [intOf]; omega
        · have HN := Lib.hid hxy
          clear hxy
          have hres : decide (a = b) = false := by
            rw [decide_eq_false_iff_not]
            rintro rfl
            have := HX.out.symm.trans HY.out
            injection this with this
            exact HN.out this
          have HR := Lib.hid hres
          clear hres
          by_cases t0 : x.n = y.n
          · by_cases t1 : x.i = y.i
            · by_cases t2 : x.s = y.s
              · exact absurd (id_ext.2 ⟨t0, t1, t2⟩) HN.out
              · go_wp2_with fail
                go_quiet (fail)
                go_wp2
                go_ret
                exact ⟨ret_bool HR.out.symm, Gw.drewN hw _⟩
            · go_wp2_with fail
              go_quiet (fail)
              go_wp2
              go_ret
              exact ⟨ret_bool HR.out.symm, Gw.drewN hw _⟩
          · go_wp2_with fail
            go_quiet (fail)
            go_wp2
            go_ret
            exact ⟨ret_bool HR.out.symm, Gw.drewN hw _⟩
      · obtain rfl : k = a.length := by omega
        go_wp2_with fail
        go_ret
        exact ⟨ret_bool (by symm; rw [decide_eq_true_iff]; exact eq_of_all HL.out HH.out), hw⟩
  · have ht : (((a.length : Int)) != (b.length : Int)) = true := by rw [bne_iff_ne]; omega
    have HL := Lib.hid hl
    clear hl
    go_enter Try.func23, Try.ntmps23
    go_wp2_with fail
    go_ret
    exact ⟨ret_bool (by symm; rw [decide_eq_false_iff_not]; intro h; exact HL.out (by rw [h])), Below.refl _ _⟩
end Go.Proofs.Ytbengmgfddnkhaa
