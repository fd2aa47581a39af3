/-
  few and told (19).
-/
import Derived.Test.YtcclnfpegepcnaaOpenTold
import Derived.Test.YtcclnfpegepcnaaLaw19A
namespace Go.Proofs.Ytcclnfpegepcnaa
open Go.RowKit
def fewB (l : List TdV) (most : Int) : Bool := decide ((∀ x ∈ l, x.l.length ≤ 40) ∧ (l.length : Int) ≤ most)
theorem few_no {l : List TdV} {most : Int} {k : Nat} {x : TdV} (h : l[k]? = some x) (hx : 40 < x.l.length) : fewB l most = false := by
  simp only [fewB, decide_eq_false_iff_not]
  rintro ⟨h1, _⟩
  have := h1 x (List.mem_of_getElem? h)
  omega
theorem few_all {l : List TdV} {most : Int} (h : ∀ j x, j < l.length → l[j]? = some x → x.l.length ≤ 40) : fewB l most = decide ((l.length : Int) ≤ most) := by
  unfold fewB
  have : ∀ x ∈ l, x.l.length ≤ 40 := fun x hx => by
    obtain ⟨j, hj, e⟩ := List.getElem_of_mem hx
    exact h j x hj (by rw [List.getElem?_eq_getElem hj, e])
  exact decide_eq_decide.2 ⟨fun h => h.2, fun h => ⟨this, h⟩⟩
set_option maxRecDepth 100000 in
set_option maxHeartbeats 4000000 in
theorem few_any (l : List TdV) (A : Option Addr) (ca : Nat) (most : Int) (w : World) (hr : Rd tdc 3 w.heap.size w A l) (hlen : l.length ≤ 9223372036854775807) :
    Calls Try.prog 9 #[.slice A l.length ca, .int .i64 most] w fun e w' => e = .returned (.bool (fewB l most)) ∧ Below w.heap.size w w' := by
  go_enter Try.func9, Try.ntmps9
  go_wp2_with fail
  go_loopw [9] (fun i wr => ∃ k : Nat, k ≤ l.length ∧ i = .int .i64 k ∧ Hid (∀ j x, j < k → l[j]? = some x → x.l.length ≤ 40) ∧ Below w.heap.size w wr) (fun i _ => l.length - (intOf i).toNat)
  case atStart => exact ⟨0, Nat.zero_le _, rfl, Lib.hid (fun j x h => absurd h (Nat.not_lt_zero _)), Below.refl _ _⟩
  case round =>
    obtain ⟨k, hk, rfl, HP, bl⟩ := hrel
    by_cases hlt : k < l.length
    · obtain ⟨x, hx⟩ : ∃ x, l[k]? = some x := ⟨_, List.getElem?_eq_getElem hlt⟩
      obtain ⟨b, o, rfl, hb, hc⟩ := (hr.below bl).at_ hx
      have d0 : wr.cell? ⟨b, o + k * 3, none⟩ = some (.int .u8 x.m) := hc 0 _ rfl
      have d1 : wr.cell? ⟨b, o + k * 3 + 1, none⟩ = some (.slice x.A x.l.length x.cap) := hc 1 _ rfl
      have d2 : wr.cell? ⟨b, o + k * 3 + 2, none⟩ = some (.bool x.f) := hc 2 _ rfl
      have HX := Lib.hid hx
      have ki : (k : Int) < (l.length : Int) := by omega
      have bx := Gw.al bl (.cells #[.int .u8 x.m, .slice x.A x.l.length x.cap, .bool x.f] 31)
      clear hc hx
      by_cases h40 : 40 < x.l.length
      · have t1 : decide ((40 : Int) < (x.l.length : Int)) = true := by simp; omega
        have t1n : decide (40 < x.l.length) = true := by simp; omega
        have hs : Hid (fewB l most = false) := Lib.hid (few_no HX.out h40)
        clear h40
        go_wp2_with fail
        go_ret
        exact ⟨by rw [hs.out]; rfl, bx⟩
      · have t1 : decide ((40 : Int) < (x.l.length : Int)) = false := by simp; omega
        have t1n : decide (40 < x.l.length) = false := by simp; omega
        have HP2 : Hid (∀ j x, j < k + 1 → l[j]? = some x → x.l.length ≤ 40) := Lib.hid fun j y hj hy => by
          rcases Nat.lt_succ_iff_lt_or_eq.1 hj with h | h
          · exact HP.out j y h hy
          · subst h
            obtain rfl := Option.some.inj (HX.out.symm.trans hy)
            omega
        clear h40
        go_wp2_with fail
        go_roundw
        case rel => exact ⟨k + 1, hlt, by go_num, HP2, bx⟩
        case measure => simp [intOf]; omega
    · obtain rfl : k = l.length := by omega
      have hs : Hid (fewB l most = decide ((l.length : Int) ≤ most)) := Lib.hid (few_all HP.out)
      go_wp2_with fail
      go_ret
      exact ⟨by rw [hs.out]; rfl, bl⟩
def toldL (n : Nat) (l : List TdV) : List (List Id) := l.foldl (fun t x => reportL t x.m.toNat x.l) (List.replicate n (blank n))
theorem told_take {n : Nat} {l : List TdV} {k : Nat} {x : TdV} (h : l[k]? = some x) : toldL n (l.take (k + 1)) = reportL (toldL n (l.take k)) x.m.toNat x.l := by
  unfold toldL; rw [List.take_add_one, h, Option.toList_some, List.foldl_append]; rfl
theorem reportL_len (t : List (List Id)) (m : Nat) (marks : List Id) : (reportL t m marks).length = t.length := by unfold reportL; split <;> simp
theorem told_shape (n : Nat) : ∀ (l : List TdV) (k : Nat), k ≤ l.length → (toldL n (l.take k)).length = n ∧ ∀ r ∈ toldL n (l.take k), r.length = n
  | l, 0, _ => ⟨by simp [toldL], by unfold toldL; simpa using new_rows n⟩
  | l, k + 1, hk => by
    obtain ⟨x, hx⟩ : ∃ x, l[k]? = some x := ⟨_, List.getElem?_eq_getElem (by omega)⟩
    obtain ⟨h1, h2⟩ := told_shape n l k (by omega)
    rw [told_take hx]
    exact ⟨by rw [reportL_len]; exact h1, rep_rows h2⟩
set_option maxRecDepth 100000 in
set_option maxHeartbeats 4000000 in
theorem told_any (n : Nat) (l : List TdV) (A : Option Addr) (ca : Nat) (w : World) (hn : n ≤ 256) (hr : Rd tdc 3 w.heap.size w A l) (hlen : l.length ≤ 1000000) (hok : ∀ x ∈ l, x.ok w) (h40 : ∀ x ∈ l, x.l.length ≤ 1000000) :
    Calls Try.prog 11 #[.int .i64 n, .slice A l.length ca] w fun e w' => ∃ A' c', e = .returned (.slice A' n c') ∧ Rep w'.heap.size w' A' (toldL n l) ∧ Below w.heap.size w w' := by
  have HOK := Lib.hid hok
  have H40 := Lib.hid h40
  clear hok h40
  go_enter Try.func11, Try.ntmps11
  go_wp2_with fail
  refine (newr_any n _ hn).mono ?_
  rintro e w1 ⟨A1, c1, rfl, rt, b1⟩
  go_wp2_with fail
  go_loopw [5, 12] (fun t i wr => ∃ (k : Nat) (A1 : Option Addr) (c1 : Nat), k ≤ l.length ∧ i = .int .i64 k ∧ t = .slice A1 n c1 ∧ Rep wr.heap.size wr A1 (toldL n (l.take k)) ∧ Below w.heap.size w wr) (fun _ i _ => l.length - (intOf i).toNat)
  case atStart => exact ⟨0, A1, c1, Nat.zero_le _, rfl, rfl, by simpa [toldL] using rt, b1⟩
  case round =>
    clear rt b1
    obtain ⟨k, A1, c1, hk, rfl, rfl, rt, bl⟩ := hrel
    by_cases hlt : k < l.length
    · obtain ⟨x, hx⟩ : ∃ x, l[k]? = some x := ⟨_, List.getElem?_eq_getElem hlt⟩
      obtain ⟨hm, hlc, hcm, hrx, hox⟩ := HOK.out x (List.mem_of_getElem? hx)
      have hxl := H40.out x (List.mem_of_getElem? hx)
      obtain ⟨hs1, hs2⟩ := told_shape n l k hk
      obtain ⟨b, o, rfl, hb, hc⟩ := (hr.below bl).at_ hx
      have d0 : wr.cell? ⟨b, o + k * 3, none⟩ = some (.int .u8 x.m) := hc 0 _ rfl
      have d1 : wr.cell? ⟨b, o + k * 3 + 1, none⟩ = some (.slice x.A x.l.length x.cap) := hc 1 _ rfl
      have d2 : wr.cell? ⟨b, o + k * 3 + 2, none⟩ = some (.bool x.f) := hc 2 _ rfl
      have STP := Lib.hid (told_take (n := n) hx)
      have ki : (k : Int) < (l.length : Int) := by omega
      have bx := Gw.al bl (.cells #[.int .u8 x.m, .slice x.A x.l.length x.cap, .bool x.f] 31)
      have rt2 := rt.up (Below.alloc (Below.refl _ _) (Nat.le_refl _) (.cells #[.int .u8 x.m, .slice x.A x.l.length x.cap, .bool x.f] 31))
      have HRP := Lib.hid (fun W h1 h2 => report_any (toldL n (l.take k)) A1 c1 n x.m x.l x.A x.cap W hs1 h1 hn (fun r hr => by rw [hs2 r hr]; exact hn) hm h2 hxl hox)
      have rx := hrx.up bx
      clear hc hx hs1 hs2 hox hrx rt bl
      go_wp2_with fail
      refine (HRP.out _ rt2 rx).mono ?_
      rintro e w2 ⟨A2, c2, rfl, x2, hb2⟩
      have b2 := Gw.call bx hb2
      have r2 := x2.rd
      clear hb2 x2 rt2 rx bx HRP d0 d1 d2
      go_wp2_with fail
      go_roundw
      case rel => exact ⟨k + 1, A2, c2, hlt, by go_num, rfl, by rw [STP.out]; exact r2, b2⟩
      case measure => simp [intOf]; omega
    · obtain rfl : k = l.length := by omega
      rw [List.take_length] at rt
      go_wp2_with fail
      go_ret
      exact ⟨A1, c1, rfl, rt, bl⟩
end Go.Proofs.Ytcclnfpegepcnaa
