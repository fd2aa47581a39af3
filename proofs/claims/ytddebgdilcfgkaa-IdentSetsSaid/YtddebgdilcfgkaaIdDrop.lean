/-
  ident.Drop, ident.Rising.
-/
import Derived.Test.YtddebgdilcfgkaaIdPut
import Derived.RegionTactic
import Derived.Deep.RegionWith
namespace Go.Proofs.Ytddebgdilcfgkaa
open Go.RowKit

def dropL (l : List Id) (x : Id) : List Id := l.filter fun y => decide (y ≠ x)
theorem dropL_len (l : List Id) (x : Id) : (dropL l x).length ≤ l.length := List.length_filter_le _ _
theorem take_snoc {α : Type} {l : List α} {k : Nat} {x : α} (h : l[k]? = some x) : l.take (k + 1) = l.take k ++ [x] := by
  rw [List.take_add_one, h]; rfl
theorem drop_hit {l : List Id} {k : Nat} {x : Id} (h : l[k]? = some x) : dropL (l.take (k + 1)) x = dropL (l.take k) x := by
  simp [dropL, take_snoc h, List.filter_append]
theorem drop_miss {l : List Id} {k : Nat} {x z : Id} (h : l[k]? = some z) (hne : z ≠ x) : dropL (l.take (k + 1)) x = dropL (l.take k) x ++ [z] := by
  simp [dropL, take_snoc h, List.filter_append, hne]

set_option maxHeartbeats 2000000 in
theorem drop_any (l : List Id) (x : Id) (A : Option Addr) (cap : Nat) (w : World) (hr : Rd idc 3 w.heap.size w A l) (hlen : l.length ≤ 1000000) :
    Calls Try.prog 22 #[.slice A l.length cap, idv x] w fun e w' => ∃ A' c', e = .returned (.slice A' (dropL l x).length c') ∧ Own idc 3 25 w.heap.size w' (.slice A' (dropL l x).length c') (dropL l x) ∧ Below w.heap.size w w' := by
  obtain ⟨i0, hi, hz0, hz1, hz2⟩ := info_parts Try.infoId
  go_enter Try.func22, Try.ntmps22
  go_wp2_with fail
  go_loopw [5, 10] (fun v i wr => ∃ (k : Nat) (A' : Option Addr) (c' : Nat), k ≤ l.length ∧ i = .int .i64 k ∧ v = .slice A' (dropL (l.take k) x).length c' ∧ Own idc 3 25 (w.heap.size + 1) wr (.slice A' (dropL (l.take k) x).length c') (dropL (l.take k) x) ∧ Below w.heap.size w wr ∧ Blk wr w.heap.size [.int .u8 x.n, .int .u16 x.i, .int .u32 x.s]) (fun _ i _ => l.length - (intOf i).toNat)
  case atStart => exact ⟨0, none, 0, Nat.zero_le _, rfl, rfl, Own.nil_, (Below.refl _ _).alloc (Nat.le_refl _) _, Blk.new w #[.int .u8 x.n, .int .u16 x.i, .int .u32 x.s] _⟩
  case round =>
    obtain ⟨k, A1, c1, hk, rfl, rfl, hown, hb, B⟩ := hrel
    have hdl := dropL_len (l.take k) x
    have htl : (l.take k).length ≤ k := List.length_take_le _ _
    by_cases hlt : k < l.length
    · obtain ⟨z, hz⟩ : ∃ z, l[k]? = some z := ⟨_, List.getElem?_eq_getElem hlt⟩
      obtain ⟨b, o, rfl, hbb, e0, e1, e2⟩ := (hr.below hb).id3 hz
      have hsz := hb.size
      have hB1 := B.1
      obtain ⟨f0, f1, f2⟩ := B.c3
      have HZ := Lib.hid hz
      clear hz hr
      by_cases hzx : z = x
      · subst hzx
        go_wp2_with fail
        go_roundw
        case rel => exact ⟨k + 1, A1, c1, by omega, by go_num, by rw [drop_hit HZ.out], by rw [drop_hit HZ.out]; exact hown.alloc _, Gw.al hb _, B.alloc _⟩
        case measure => simp [intOf]; omega
      · have HN := Lib.hid hzx
        clear hzx
        rcases id_ne HN.out with t0 | ⟨t0, t1⟩ | ⟨t0, t1, t2⟩
        all_goals
          go_wp2_with (at_builtin; refine wpList_app _ rfl _ _ _ rfl (w.heap.size + 1) 25 i0 _ 8 Try.underlying34 hi hz0 hz1 hz2 rfl (by omega) idc_len idc_one _ _ rfl ((hown.alloc _).alloc _) _ rfl _ _ 1 1 [z] rfl rfl (Rd.lit idc_len (wr.alloc _) _ (by simp) _ 25 [z] (by first | rfl | simp [idc, *])) (by omega) (by omega) (by simp; omega) ?_; intro A5 c5 w5 hown5 hg5)
          have b5 := Gw.gr (Gw.al (Gw.al hb _) _) hg5 (fun k hk => Nat.le_of_succ_le (Own.lt hown k hk))
          have B5 := ((B.alloc _).alloc _).grown hg5 (fun k hk => by have := Own.lt hown k hk; omega)
          go_roundw
          case rel => exact ⟨k + 1, A5, c5, by omega, by go_num, by rw [drop_miss HZ.out HN.out, List.length_append]; rfl, by rw [drop_miss HZ.out HN.out, List.length_append]; exact hown5, b5, B5⟩
          case measure => simp [intOf]; omega
    · obtain rfl : k = l.length := by omega
      go_wp2_with fail
      go_ret
      rw [List.take_length] at hown ⊢
      exact ⟨_, _, rfl, hown.base_le (by omega), hb⟩

def risingB : List Id → Bool
  | x :: y :: l => lessB x y && risingB (y :: l)
  | _ => true
theorem rising_iff (l : List Id) : risingB l = true ↔ ∀ k x y, l[k]? = some x → l[k + 1]? = some y → lessB x y = true := by
  induction l with
  | nil => simp [risingB]
  | cons a l ih =>
    cases l with
    | nil => simp [risingB]
    | cons b l =>
      rw [risingB, Bool.and_eq_true, ih]
      constructor
      · rintro ⟨h1, h2⟩ k x y hx hy
        cases k with
        | zero => simp at hx hy; subst hx; subst hy; exact h1
        | succ k => exact h2 k x y (by simpa using hx) (by simpa using hy)
      · intro h
        exact ⟨h 0 a b rfl rfl, fun k x y hx hy => h (k + 1) x y (by simpa using hx) (by simpa using hy)⟩
theorem rising_no {l : List Id} {k : Nat} {x y : Id} (hx : l[k]? = some x) (hy : l[k + 1]? = some y) (h : lessB x y = false) : risingB l = false := by
  rw [← Bool.not_eq_true, rising_iff]
  intro hh
  rw [hh k x y hx hy] at h
  cases h
theorem rising_yes {l : List Id} (h : ∀ j x y, j + 1 < l.length → l[j]? = some x → l[j + 1]? = some y → lessB x y = true) : risingB l = true := by
  rw [rising_iff]
  intro k x y hx hy
  exact h k x y (List.getElem?_eq_some_iff.1 hy).1 hx hy
theorem rising_snoc {l : List Id} {k : Nat} {x y : Id} (h : ∀ j a b, j + 1 < k → l[j]? = some a → l[j + 1]? = some b → lessB a b = true) (h1 : 1 ≤ k) (hx : l[k - 1]? = some x) (hy : l[k]? = some y) (hl : lessB x y = true) :
    ∀ j a b, j + 1 < k + 1 → l[j]? = some a → l[j + 1]? = some b → lessB a b = true := by
  intro j a b hj ha hb
  rcases Nat.lt_succ_iff_lt_or_eq.1 hj with h1 | h1
  · exact h j a b h1 ha hb
  · obtain rfl : j = k - 1 := by omega
    rw [h1] at hb
    rw [ha] at hx; rw [hb] at hy; cases hx; cases hy; exact hl

set_option maxHeartbeats 800000 in
theorem rising_any (l : List Id) (A : Option Addr) (cap : Nat) (w : World) (hr : Rd idc 3 w.heap.size w A l) (hlen : l.length ≤ 140737488355328) :
    Calls Try.prog 15 #[.slice A l.length cap] w fun e w' => e = .returned (.bool (risingB l)) ∧ Below w.heap.size w w' := by
  go_enter Try.func15, Try.ntmps15
  go_wp2_with fail
  go_loopw [3] (fun i wr => ∃ k : Nat, 1 ≤ k ∧ (k ≤ l.length ∨ k = 1) ∧ i = .int .i64 k ∧ Below w.heap.size w wr ∧ Hid (∀ j x y, j + 1 < k → l[j]? = some x → l[j + 1]? = some y → lessB x y = true)) (fun i _ => l.length - (intOf i).toNat)
  case atStart => exact ⟨1, by omega, .inr rfl, rfl, Below.refl _ _, fun j x y hj => absurd hj (by omega)⟩
  case round =>
    obtain ⟨k, hk1, hk, rfl, hb, HH⟩ := hrel
    by_cases hlt : k < l.length
    · obtain ⟨x, hx⟩ : ∃ x, l[k - 1]? = some x := ⟨_, List.getElem?_eq_getElem (by omega)⟩
      obtain ⟨y, hy⟩ : ∃ y, l[k]? = some y := ⟨_, List.getElem?_eq_getElem hlt⟩
      obtain ⟨b, o, rfl, hbb, e0, e1, e2⟩ := (hr.below hb).id3 hx
      obtain ⟨b', o', hA, _, f0, f1, f2⟩ := (hr.below hb).id3 hy
      injection hA with hA
      injection hA with hA1 hA2
      subst hA1 hA2
      have HX := Lib.hid hx
      have HY := Lib.hid hy
      clear hx hy hr hk
      have hcc := fun W => less_any x y W
      cases hp : lessB x y
      all_goals
        rw [hp] at hcc
        have HP := Lib.hid hp
        have HC := Lib.hid hcc
        clear hp hcc
        go_wp2_with fail
        have k1 : IntKind.i64.wrap ((k : Int) - 1) = (k : Int) - 1 := IntWalk.i64_in _ (by omega)
        have k2 : (k : Int) - 1 < (l.length : Int) := by omega
        have k3 : (k : Int) < (l.length : Int) := by omega
        have k4 : (0 : Int) ≤ (k : Int) - 1 := by omega
        have k5 : ((k : Int) - 1).toNat = k - 1 := by omega
        have k7 : (1 : Int) ≤ (k : Int) := by omega
        go_region_with (go_at_call 8; refine (HC.out _).mono ?_; rintro e w1 ⟨rfl, hb1⟩)
        all_goals
          clear k1 k2 k3 k4 k5 k7
          go_wp2
      · go_ret
        exact ⟨ret_bool (rising_no (k := k - 1) HX.out (by rw [show k - 1 + 1 = k by omega]; exact HY.out) HP.out).symm, Gw.call (Below.drew hb) hb1⟩
      · go_ret
        exact ⟨ret_bool (rising_no (k := k - 1) HX.out (by rw [show k - 1 + 1 = k by omega]; exact HY.out) HP.out).symm, Gw.call (Below.drew hb) hb1⟩
      · go_roundw
        case rel => exact ⟨k + 1, by omega, by omega, by go_num, Gw.call (Below.drew hb) hb1, rising_snoc HH.out hk1 HX.out HY.out HP.out⟩
        case measure => simp [intOf]; omega
      · go_roundw
        case rel => exact ⟨k + 1, by omega, by omega, by go_num, Gw.call (Below.drew hb) hb1, rising_snoc HH.out hk1 HX.out HY.out HP.out⟩
        case measure => simp [intOf]; omega
    · go_wp2_with fail
      go_ret
      exact ⟨ret_bool (by symm; exact rising_yes (fun j x y hj => HH.out j x y (by omega))), hb⟩
end Go.Proofs.Ytddebgdilcfgkaa
