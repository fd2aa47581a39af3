/-
  outbox.same and outbox.each of flat things (21).
-/
import Derived.Test.YtbengmgfddnkhaaMsgOps
namespace Go.Proofs.Ytbengmgfddnkhaa
open Go.RowKit
theorem Try.info21Mb : (Try.prog.info? 57).map (fun i => (i.zero, i.size, i.bytes)) = some (some (.agg #[.int .u16 0, .int .u8 0, .int .u8 0]), 3, 4) := by kernel_rfl
theorem sameMb (x : Mb) (w : World) : Calls Try.prog 28 #[.agg #[.int .u16 x.i, .int .u8 x.s, .int .u8 x.q]] w fun e w' => e = .returned (.agg #[.int .u16 x.i, .int .u8 x.s, .int .u8 x.q]) ∧ Below w.heap.size w w' := by
  have b0 := Gw.al (Gw.al (Below.refl w.heap.size w) (.cells #[.int .u16 x.i, .int .u8 x.s, .int .u8 x.q] 57)) (.cells #[.int .u16 x.i, .int .u8 x.s, .int .u8 x.q] 57)
  have M := Ob.new (w.alloc (.cells #[.int .u16 x.i, .int .u8 x.s, .int .u8 x.q] 57)) #[.int .u16 x.i, .int .u8 x.s, .int .u8 x.q] 57
  simp only [World.size_alloc] at M
  have m0 := M.blk.2.1 0 _ rfl
  have m1 := M.blk.2.1 1 _ rfl
  have m2 := M.blk.2.1 2 _ rfl
  clear M
  go_enter Try.func28, Try.ntmps28
  go_wp2_with fail
  refine bodyPost_ret (v := .agg #[.int .u16 x.i, .int .u8 x.s, .int .u8 x.q]) (by simp [results, Try.results28, go_sem, m0, m1, m2]) rfl ⟨rfl, b0⟩
set_option maxHeartbeats 1000000 in
theorem eachMb (l : List Mb) (A : Option Addr) (cap : Nat) (w : World) (hr : Rd memc 3 w.heap.size w A l) (hlen : l.length ≤ 1000000) :
    Calls Try.prog 27 #[.slice A l.length cap, .func (.func 28) #[] #[]] w fun e w' => ∃ A' c', e = .returned (.slice A' l.length c') ∧ Own memc 3 57 w.heap.size w' (.slice A' l.length c') l ∧ Below w.heap.size w w' := by
  obtain ⟨i0, hi0, hz0, hz1, hz2⟩ := info_parts Try.info21Mb
  go_enter Try.func27, Try.ntmps27
  go_wp2_with (first | (at_make; refine wpList_make_own _ rfl _ _ 27 rfl w.heap.size 57 i0 _ 3 Try.underlying27 hi0 hz0 hz1 _ _ _ l.length rfl rfl rfl (by rw [hz2]; omega) (by unfold maxLen; omega) (Nat.le_refl _) ?_; intro w3 hown3 hg3) | fail)
  have o3 : Own memc 3 57 w.heap.size w3 (.slice (some ⟨w.heap.size, 0, none⟩) 0 l.length) ([] : List Mb) := hown3
  have b3 := Gw.none_ hg3
  clear hown3 hg3
  go_loopw [5, 13] (fun v i wr => ∃ (k : Nat) (A' : Option Addr) (c' : Nat), k ≤ l.length ∧ i = .int .i64 k ∧ v = .slice A' k c' ∧ Own memc 3 57 w.heap.size wr (.slice A' k c') (l.take k) ∧ Below w.heap.size w wr) (fun _ i _ => l.length - (intOf i).toNat)
  case atStart => exact ⟨0, _, _, Nat.zero_le _, rfl, rfl, by rw [List.take_zero]; exact o3, b3⟩
  case round =>
    clear o3 b3
    obtain ⟨k, A1, c1, hk, rfl, rfl, own, bl⟩ := hrel
    by_cases hlt : k < l.length
    · obtain ⟨x, hx⟩ : ∃ x, l[k]? = some x := ⟨_, List.getElem?_eq_getElem hlt⟩
      obtain ⟨b, o, rfl, hb, hc⟩ := (hr.below bl).at_ hx
      have d0 : wr.cell? ⟨b, o + k * 3, none⟩ = some (.int .u16 x.i) := hc 0 _ rfl
      have d1 : wr.cell? ⟨b, o + k * 3 + 1, none⟩ = some (.int .u8 x.s) := hc 1 _ rfl
      have d2 : wr.cell? ⟨b, o + k * 3 + 2, none⟩ = some (.int .u8 x.q) := hc 2 _ rfl
      clear hc
      have ki : (k : Int) < (l.length : Int) := by omega
      have SN : Hid (l.take (k + 1) = l.take k ++ [x]) := Lib.hid (by rw [List.take_add_one, hx]; rfl)
      have HKL : Hid (k = (l.take k).length) := Lib.hid (by rw [List.length_take]; omega)
      have b1 := Gw.al bl (.cells #[.int .u16 x.i, .int .u8 x.s, .int .u8 x.q] 57)
      have o1 := own.alloc (.cells #[.int .u16 x.i, .int .u8 x.s, .int .u8 x.q] 57)
      clear hx own bl
      go_wp2_with fail
      refine (sameMb x _).mono ?_
      rintro e w4 ⟨rfl, hb4⟩
      have b2 := Gw.call b1 hb4
      have o2 := Own.below o1 hb4
      clear b1 o1 hb4
      have LT : Rd memc 3 (w4.alloc (.cells #[.int .u16 x.i, .int .u8 x.s, .int .u8 x.q] 57)).heap.size (w4.alloc (.cells #[.int .u16 x.i, .int .u8 x.s, .int .u8 x.q] 57)) (some ⟨w4.heap.size, 0, none⟩) [x] := by
        rw [World.size_alloc]; exact Rd.lit memc_len w4 _ rfl _ _ _ rfl
      have b4 := Gw.al b2 (.cells #[.int .u16 x.i, .int .u8 x.s, .int .u8 x.q] 57)
      have o4 := o2.alloc (.cells #[.int .u16 x.i, .int .u8 x.s, .int .u8 x.q] 57)
      go_wp2_with (first | (at_builtin; refine wpList_app _ rfl _ _ 27 rfl w.heap.size 57 i0 _ 4 Try.underlying27 hi0 hz0 hz1 hz2 rfl (by omega) memc_len memc_one (.slice A1 k c1) (l.take k) rfl o4 k HKL.out _ _ 1 1 [x] rfl rfl LT (by omega) (by omega) b4.size ?_; intro A5 c5 w5 o5 hg) | fail)
      have b5 := Gw.gr b4 hg o4.lt
      go_roundw
      case rel => exact ⟨k + 1, A5, c5, hlt, by go_num, rfl, by rw [SN.out]; exact o5, b5⟩
      case measure => simp [intOf]; omega
    · obtain rfl : k = l.length := by omega
      rw [List.take_length] at own
      go_wp2_with fail
      go_ret
      exact ⟨A1, c1, rfl, own, bl⟩
theorem Try.info21I32 : (Try.prog.info? 21).map (fun i => (i.zero, i.size, i.bytes)) = some (some (.int .i32 0), 1, 4) := by kernel_rfl
theorem sameI32 (x : Int) (w : World) : Calls Try.prog 30 #[.int .i32 x] w fun e w' => e = .returned (.int .i32 x) ∧ Below w.heap.size w w' := by
  go_enter Try.func30, Try.ntmps30
  go_wp2_with fail
  go_ret
  exact ⟨rfl, Below.refl _ _⟩
set_option maxHeartbeats 1000000 in
theorem eachI32 (l : List Int) (A : Option Addr) (cap : Nat) (w : World) (hr : Rd (fun z : Int => [Value.int .i32 z]) 1 w.heap.size w A l) (hlen : l.length ≤ 1000000) :
    Calls Try.prog 29 #[.slice A l.length cap, .func (.func 30) #[] #[]] w fun e w' => ∃ A' c', e = .returned (.slice A' l.length c') ∧ Own (fun z : Int => [Value.int .i32 z]) 1 21 w.heap.size w' (.slice A' l.length c') l ∧ Below w.heap.size w w' := by
  obtain ⟨i0, hi0, hz0, hz1, hz2⟩ := info_parts Try.info21I32
  go_enter Try.func29, Try.ntmps29
  go_wp2_with (first | (at_make; refine wpList_make_own _ rfl _ _ 31 rfl w.heap.size 21 i0 _ 1 Try.underlying31 hi0 hz0 hz1 _ _ _ l.length rfl rfl rfl (by rw [hz2]; omega) (by unfold maxLen; omega) (Nat.le_refl _) ?_; intro w3 hown3 hg3) | fail)
  have o3 : Own (fun z : Int => [Value.int .i32 z]) 1 21 w.heap.size w3 (.slice (some ⟨w.heap.size, 0, none⟩) 0 l.length) ([] : List Int) := hown3
  have b3 := Gw.none_ hg3
  clear hown3 hg3
  go_loopw [5, 13] (fun v i wr => ∃ (k : Nat) (A' : Option Addr) (c' : Nat), k ≤ l.length ∧ i = .int .i64 k ∧ v = .slice A' k c' ∧ Own (fun z : Int => [Value.int .i32 z]) 1 21 w.heap.size wr (.slice A' k c') (l.take k) ∧ Below w.heap.size w wr) (fun _ i _ => l.length - (intOf i).toNat)
  case atStart => exact ⟨0, _, _, Nat.zero_le _, rfl, rfl, by rw [List.take_zero]; exact o3, b3⟩
  case round =>
    clear o3 b3
    obtain ⟨k, A1, c1, hk, rfl, rfl, own, bl⟩ := hrel
    by_cases hlt : k < l.length
    · obtain ⟨x, hx⟩ : ∃ x, l[k]? = some x := ⟨_, List.getElem?_eq_getElem hlt⟩
      obtain ⟨b, o, rfl, hb, d0⟩ := (hr.below bl).int1 hx
      have ki : (k : Int) < (l.length : Int) := by omega
      have SN : Hid (l.take (k + 1) = l.take k ++ [x]) := Lib.hid (by rw [List.take_add_one, hx]; rfl)
      have HKL : Hid (k = (l.take k).length) := Lib.hid (by rw [List.length_take]; omega)
      have b1 := bl
      have o1 := own
      clear hx own bl
      go_wp2_with fail
      refine (sameI32 x _).mono ?_
      rintro e w4 ⟨rfl, hb4⟩
      have b2 := Gw.call b1 hb4
      have o2 := Own.below o1 hb4
      clear b1 o1 hb4
      have LT : Rd (fun z : Int => [Value.int .i32 z]) 1 (w4.alloc (.cells #[.int .i32 x] 21)).heap.size (w4.alloc (.cells #[.int .i32 x] 21)) (some ⟨w4.heap.size, 0, none⟩) [x] := by
        rw [World.size_alloc]; exact Rd.lit (int_len .i32) w4 _ rfl _ _ _ rfl
      have b4 := Gw.al b2 (.cells #[.int .i32 x] 21)
      have o4 := o2.alloc (.cells #[.int .i32 x] 21)
      go_wp2_with (first | (at_builtin; refine wpList_app _ rfl _ _ 31 rfl w.heap.size 21 i0 _ 4 Try.underlying31 hi0 hz0 hz1 hz2 rfl (by omega) (int_len .i32) (int_one .i32) (.slice A1 k c1) (l.take k) rfl o4 k HKL.out _ _ 1 1 [x] rfl rfl LT (by omega) (by omega) b4.size ?_; intro A5 c5 w5 o5 hg) | fail)
      have b5 := Gw.gr b4 hg o4.lt
      go_roundw
      case rel => exact ⟨k + 1, A5, c5, hlt, by go_num, rfl, by rw [SN.out]; exact o5, b5⟩
      case measure => simp [intOf]; omega
    · obtain rfl : k = l.length := by omega
      rw [List.take_length] at own
      go_wp2_with fail
      go_ret
      exact ⟨A1, c1, rfl, own, bl⟩
theorem Try.info21U8 : (Try.prog.info? 5).map (fun i => (i.zero, i.size, i.bytes)) = some (some (.int .u8 0), 1, 1) := by kernel_rfl
theorem sameU8 (x : Int) (w : World) : Calls Try.prog 32 #[.int .u8 x] w fun e w' => e = .returned (.int .u8 x) ∧ Below w.heap.size w w' := by
  go_enter Try.func32, Try.ntmps32
  go_wp2_with fail
  go_ret
  exact ⟨rfl, Below.refl _ _⟩
set_option maxHeartbeats 1000000 in
theorem eachU8 (l : List Int) (A : Option Addr) (cap : Nat) (w : World) (hr : Rd (fun z : Int => [Value.int .u8 z]) 1 w.heap.size w A l) (hlen : l.length ≤ 1000000) :
    Calls Try.prog 31 #[.slice A l.length cap, .func (.func 32) #[] #[]] w fun e w' => ∃ A' c', e = .returned (.slice A' l.length c') ∧ Own (fun z : Int => [Value.int .u8 z]) 1 5 w.heap.size w' (.slice A' l.length c') l ∧ Below w.heap.size w w' := by
  obtain ⟨i0, hi0, hz0, hz1, hz2⟩ := info_parts Try.info21U8
  go_enter Try.func31, Try.ntmps31
  go_wp2_with (first | (at_make; refine wpList_make_own _ rfl _ _ 32 rfl w.heap.size 5 i0 _ 1 Try.underlying32 hi0 hz0 hz1 _ _ _ l.length rfl rfl rfl (by rw [hz2]; omega) (by unfold maxLen; omega) (Nat.le_refl _) ?_; intro w3 hown3 hg3) | fail)
  have o3 : Own (fun z : Int => [Value.int .u8 z]) 1 5 w.heap.size w3 (.slice (some ⟨w.heap.size, 0, none⟩) 0 l.length) ([] : List Int) := hown3
  have b3 := Gw.none_ hg3
  clear hown3 hg3
  go_loopw [5, 13] (fun v i wr => ∃ (k : Nat) (A' : Option Addr) (c' : Nat), k ≤ l.length ∧ i = .int .i64 k ∧ v = .slice A' k c' ∧ Own (fun z : Int => [Value.int .u8 z]) 1 5 w.heap.size wr (.slice A' k c') (l.take k) ∧ Below w.heap.size w wr) (fun _ i _ => l.length - (intOf i).toNat)
  case atStart => exact ⟨0, _, _, Nat.zero_le _, rfl, rfl, by rw [List.take_zero]; exact o3, b3⟩
  case round =>
    clear o3 b3
    obtain ⟨k, A1, c1, hk, rfl, rfl, own, bl⟩ := hrel
    by_cases hlt : k < l.length
    · obtain ⟨x, hx⟩ : ∃ x, l[k]? = some x := ⟨_, List.getElem?_eq_getElem hlt⟩
      obtain ⟨b, o, rfl, hb, d0⟩ := (hr.below bl).int1 hx
      have ki : (k : Int) < (l.length : Int) := by omega
      have SN : Hid (l.take (k + 1) = l.take k ++ [x]) := Lib.hid (by rw [List.take_add_one, hx]; rfl)
      have HKL : Hid (k = (l.take k).length) := Lib.hid (by rw [List.length_take]; omega)
      have b1 := bl
      have o1 := own
      clear hx own bl
      go_wp2_with fail
      refine (sameU8 x _).mono ?_
      rintro e w4 ⟨rfl, hb4⟩
      have b2 := Gw.call b1 hb4
      have o2 := Own.below o1 hb4
      clear b1 o1 hb4
      have LT : Rd (fun z : Int => [Value.int .u8 z]) 1 (w4.alloc (.cells #[.int .u8 x] 5)).heap.size (w4.alloc (.cells #[.int .u8 x] 5)) (some ⟨w4.heap.size, 0, none⟩) [x] := by
        rw [World.size_alloc]; exact Rd.lit (int_len .u8) w4 _ rfl _ _ _ rfl
      have b4 := Gw.al b2 (.cells #[.int .u8 x] 5)
      have o4 := o2.alloc (.cells #[.int .u8 x] 5)
      go_wp2_with (first | (at_builtin; refine wpList_app _ rfl _ _ 32 rfl w.heap.size 5 i0 _ 1 Try.underlying32 hi0 hz0 hz1 hz2 rfl (by omega) (int_len .u8) (int_one .u8) (.slice A1 k c1) (l.take k) rfl o4 k HKL.out _ _ 1 1 [x] rfl rfl LT (by omega) (by omega) b4.size ?_; intro A5 c5 w5 o5 hg) | fail)
      have b5 := Gw.gr b4 hg o4.lt
      go_roundw
      case rel => exact ⟨k + 1, A5, c5, hlt, by go_num, rfl, by rw [SN.out]; exact o5, b5⟩
      case measure => simp [intOf]; omega
    · obtain rfl : k = l.length := by omega
      rw [List.take_length] at own
      go_wp2_with fail
      go_ret
      exact ⟨A1, c1, rfl, own, bl⟩
theorem Try.info21Mk : (Try.prog.info? 35).map (fun i => (i.zero, i.size, i.bytes)) = some (some (.agg #[.int .u8 0, .int .u16 0, .int .u32 0]), 3, 8) := by kernel_rfl
theorem sameMk (x : Id) (w : World) : Calls Try.prog 34 #[.agg #[.int .u8 x.n, .int .u16 x.i, .int .u32 x.s]] w fun e w' => e = .returned (.agg #[.int .u8 x.n, .int .u16 x.i, .int .u32 x.s]) ∧ Below w.heap.size w w' := by
  have b0 := Gw.al (Gw.al (Below.refl w.heap.size w) (.cells #[.int .u8 x.n, .int .u16 x.i, .int .u32 x.s] 35)) (.cells #[.int .u8 x.n, .int .u16 x.i, .int .u32 x.s] 35)
  have M := Ob.new (w.alloc (.cells #[.int .u8 x.n, .int .u16 x.i, .int .u32 x.s] 35)) #[.int .u8 x.n, .int .u16 x.i, .int .u32 x.s] 35
  simp only [World.size_alloc] at M
  have m0 := M.blk.2.1 0 _ rfl
  have m1 := M.blk.2.1 1 _ rfl
  have m2 := M.blk.2.1 2 _ rfl
  clear M
  go_enter Try.func34, Try.ntmps34
  go_wp2_with fail
  refine bodyPost_ret (v := .agg #[.int .u8 x.n, .int .u16 x.i, .int .u32 x.s]) (by simp [results, Try.results34, go_sem, m0, m1, m2]) rfl ⟨rfl, b0⟩
set_option maxHeartbeats 1000000 in
theorem eachMk (l : List Id) (A : Option Addr) (cap : Nat) (w : World) (hr : Rd idc 3 w.heap.size w A l) (hlen : l.length ≤ 1000000) :
    Calls Try.prog 33 #[.slice A l.length cap, .func (.func 34) #[] #[]] w fun e w' => ∃ A' c', e = .returned (.slice A' l.length c') ∧ Own idc 3 35 w.heap.size w' (.slice A' l.length c') l ∧ Below w.heap.size w w' := by
  obtain ⟨i0, hi0, hz0, hz1, hz2⟩ := info_parts Try.info21Mk
  go_enter Try.func33, Try.ntmps33
  go_wp2_with (first | (at_make; refine wpList_make_own _ rfl _ _ 36 rfl w.heap.size 35 i0 _ 3 Try.underlying36 hi0 hz0 hz1 _ _ _ l.length rfl rfl rfl (by rw [hz2]; omega) (by unfold maxLen; omega) (Nat.le_refl _) ?_; intro w3 hown3 hg3) | fail)
  have o3 : Own idc 3 35 w.heap.size w3 (.slice (some ⟨w.heap.size, 0, none⟩) 0 l.length) ([] : List Id) := hown3
  have b3 := Gw.none_ hg3
  clear hown3 hg3
  go_loopw [5, 13] (fun v i wr => ∃ (k : Nat) (A' : Option Addr) (c' : Nat), k ≤ l.length ∧ i = .int .i64 k ∧ v = .slice A' k c' ∧ Own idc 3 35 w.heap.size wr (.slice A' k c') (l.take k) ∧ Below w.heap.size w wr) (fun _ i _ => l.length - (intOf i).toNat)
  case atStart => exact ⟨0, _, _, Nat.zero_le _, rfl, rfl, by rw [List.take_zero]; exact o3, b3⟩
  case round =>
    clear o3 b3
    obtain ⟨k, A1, c1, hk, rfl, rfl, own, bl⟩ := hrel
    by_cases hlt : k < l.length
    · obtain ⟨x, hx⟩ : ∃ x, l[k]? = some x := ⟨_, List.getElem?_eq_getElem hlt⟩
      obtain ⟨b, o, rfl, hb, hc⟩ := (hr.below bl).at_ hx
      have d0 : wr.cell? ⟨b, o + k * 3, none⟩ = some (.int .u8 x.n) := hc 0 _ rfl
      have d1 : wr.cell? ⟨b, o + k * 3 + 1, none⟩ = some (.int .u16 x.i) := hc 1 _ rfl
      have d2 : wr.cell? ⟨b, o + k * 3 + 2, none⟩ = some (.int .u32 x.s) := hc 2 _ rfl
      clear hc
      have ki : (k : Int) < (l.length : Int) := by omega
      have SN : Hid (l.take (k + 1) = l.take k ++ [x]) := Lib.hid (by rw [List.take_add_one, hx]; rfl)
      have HKL : Hid (k = (l.take k).length) := Lib.hid (by rw [List.length_take]; omega)
      have b1 := Gw.al bl (.cells #[.int .u8 x.n, .int .u16 x.i, .int .u32 x.s] 35)
      have o1 := own.alloc (.cells #[.int .u8 x.n, .int .u16 x.i, .int .u32 x.s] 35)
      clear hx own bl
      go_wp2_with fail
      refine (sameMk x _).mono ?_
      rintro e w4 ⟨rfl, hb4⟩
      have b2 := Gw.call b1 hb4
      have o2 := Own.below o1 hb4
      clear b1 o1 hb4
      have LT : Rd idc 3 (w4.alloc (.cells #[.int .u8 x.n, .int .u16 x.i, .int .u32 x.s] 35)).heap.size (w4.alloc (.cells #[.int .u8 x.n, .int .u16 x.i, .int .u32 x.s] 35)) (some ⟨w4.heap.size, 0, none⟩) [x] := by
        rw [World.size_alloc]; exact Rd.lit idc_len w4 _ rfl _ _ _ rfl
      have b4 := Gw.al b2 (.cells #[.int .u8 x.n, .int .u16 x.i, .int .u32 x.s] 35)
      have o4 := o2.alloc (.cells #[.int .u8 x.n, .int .u16 x.i, .int .u32 x.s] 35)
      go_wp2_with (first | (at_builtin; refine wpList_app _ rfl _ _ 36 rfl w.heap.size 35 i0 _ 8 Try.underlying36 hi0 hz0 hz1 hz2 rfl (by omega) idc_len idc_one (.slice A1 k c1) (l.take k) rfl o4 k HKL.out _ _ 1 1 [x] rfl rfl LT (by omega) (by omega) b4.size ?_; intro A5 c5 w5 o5 hg) | fail)
      have b5 := Gw.gr b4 hg o4.lt
      go_roundw
      case rel => exact ⟨k + 1, A5, c5, hlt, by go_num, rfl, by rw [SN.out]; exact o5, b5⟩
      case measure => simp [intOf]; omega
    · obtain rfl : k = l.length := by omega
      rw [List.take_length] at own
      go_wp2_with fail
      go_ret
      exact ⟨A1, c1, rfl, own, bl⟩
theorem Try.info21Id : (Try.prog.info? 30).map (fun i => (i.zero, i.size, i.bytes)) = some (some (.agg #[.int .u8 0, .int .u16 0, .int .u32 0]), 3, 8) := by kernel_rfl
theorem sameId (x : Id) (w : World) : Calls Try.prog 36 #[.agg #[.int .u8 x.n, .int .u16 x.i, .int .u32 x.s]] w fun e w' => e = .returned (.agg #[.int .u8 x.n, .int .u16 x.i, .int .u32 x.s]) ∧ Below w.heap.size w w' := by
  have b0 := Gw.al (Gw.al (Below.refl w.heap.size w) (.cells #[.int .u8 x.n, .int .u16 x.i, .int .u32 x.s] 30)) (.cells #[.int .u8 x.n, .int .u16 x.i, .int .u32 x.s] 30)
  have M := Ob.new (w.alloc (.cells #[.int .u8 x.n, .int .u16 x.i, .int .u32 x.s] 30)) #[.int .u8 x.n, .int .u16 x.i, .int .u32 x.s] 30
  simp only [World.size_alloc] at M
  have m0 := M.blk.2.1 0 _ rfl
  have m1 := M.blk.2.1 1 _ rfl
  have m2 := M.blk.2.1 2 _ rfl
  clear M
  go_enter Try.func36, Try.ntmps36
  go_wp2_with fail
  refine bodyPost_ret (v := .agg #[.int .u8 x.n, .int .u16 x.i, .int .u32 x.s]) (by simp [results, Try.results36, go_sem, m0, m1, m2]) rfl ⟨rfl, b0⟩
set_option maxHeartbeats 1000000 in
theorem eachId (l : List Id) (A : Option Addr) (cap : Nat) (w : World) (hr : Rd idc 3 w.heap.size w A l) (hlen : l.length ≤ 1000000) :
    Calls Try.prog 35 #[.slice A l.length cap, .func (.func 36) #[] #[]] w fun e w' => ∃ A' c', e = .returned (.slice A' l.length c') ∧ Own idc 3 30 w.heap.size w' (.slice A' l.length c') l ∧ Below w.heap.size w w' := by
  obtain ⟨i0, hi0, hz0, hz1, hz2⟩ := info_parts Try.info21Id
  go_enter Try.func35, Try.ntmps35
  go_wp2_with (first | (at_make; refine wpList_make_own _ rfl _ _ 37 rfl w.heap.size 30 i0 _ 3 Try.underlying37 hi0 hz0 hz1 _ _ _ l.length rfl rfl rfl (by rw [hz2]; omega) (by unfold maxLen; omega) (Nat.le_refl _) ?_; intro w3 hown3 hg3) | fail)
  have o3 : Own idc 3 30 w.heap.size w3 (.slice (some ⟨w.heap.size, 0, none⟩) 0 l.length) ([] : List Id) := hown3
  have b3 := Gw.none_ hg3
  clear hown3 hg3
  go_loopw [5, 13] (fun v i wr => ∃ (k : Nat) (A' : Option Addr) (c' : Nat), k ≤ l.length ∧ i = .int .i64 k ∧ v = .slice A' k c' ∧ Own idc 3 30 w.heap.size wr (.slice A' k c') (l.take k) ∧ Below w.heap.size w wr) (fun _ i _ => l.length - (intOf i).toNat)
  case atStart => exact ⟨0, _, _, Nat.zero_le _, rfl, rfl, by rw [List.take_zero]; exact o3, b3⟩
  case round =>
    clear o3 b3
    obtain ⟨k, A1, c1, hk, rfl, rfl, own, bl⟩ := hrel
    by_cases hlt : k < l.length
    · obtain ⟨x, hx⟩ : ∃ x, l[k]? = some x := ⟨_, List.getElem?_eq_getElem hlt⟩
      obtain ⟨b, o, rfl, hb, hc⟩ := (hr.below bl).at_ hx
      have d0 : wr.cell? ⟨b, o + k * 3, none⟩ = some (.int .u8 x.n) := hc 0 _ rfl
      have d1 : wr.cell? ⟨b, o + k * 3 + 1, none⟩ = some (.int .u16 x.i) := hc 1 _ rfl
      have d2 : wr.cell? ⟨b, o + k * 3 + 2, none⟩ = some (.int .u32 x.s) := hc 2 _ rfl
      clear hc
      have ki : (k : Int) < (l.length : Int) := by omega
      have SN : Hid (l.take (k + 1) = l.take k ++ [x]) := Lib.hid (by rw [List.take_add_one, hx]; rfl)
      have HKL : Hid (k = (l.take k).length) := Lib.hid (by rw [List.length_take]; omega)
      have b1 := Gw.al bl (.cells #[.int .u8 x.n, .int .u16 x.i, .int .u32 x.s] 30)
      have o1 := own.alloc (.cells #[.int .u8 x.n, .int .u16 x.i, .int .u32 x.s] 30)
      clear hx own bl
      go_wp2_with fail
      refine (sameId x _).mono ?_
      rintro e w4 ⟨rfl, hb4⟩
      have b2 := Gw.call b1 hb4
      have o2 := Own.below o1 hb4
      clear b1 o1 hb4
      have LT : Rd idc 3 (w4.alloc (.cells #[.int .u8 x.n, .int .u16 x.i, .int .u32 x.s] 30)).heap.size (w4.alloc (.cells #[.int .u8 x.n, .int .u16 x.i, .int .u32 x.s] 30)) (some ⟨w4.heap.size, 0, none⟩) [x] := by
        rw [World.size_alloc]; exact Rd.lit idc_len w4 _ rfl _ _ _ rfl
      have b4 := Gw.al b2 (.cells #[.int .u8 x.n, .int .u16 x.i, .int .u32 x.s] 30)
      have o4 := o2.alloc (.cells #[.int .u8 x.n, .int .u16 x.i, .int .u32 x.s] 30)
      go_wp2_with (first | (at_builtin; refine wpList_app _ rfl _ _ 37 rfl w.heap.size 30 i0 _ 8 Try.underlying37 hi0 hz0 hz1 hz2 rfl (by omega) idc_len idc_one (.slice A1 k c1) (l.take k) rfl o4 k HKL.out _ _ 1 1 [x] rfl rfl LT (by omega) (by omega) b4.size ?_; intro A5 c5 w5 o5 hg) | fail)
      have b5 := Gw.gr b4 hg o4.lt
      go_roundw
      case rel => exact ⟨k + 1, A5, c5, hlt, by go_num, rfl, by rw [SN.out]; exact o5, b5⟩
      case measure => simp [intOf]; omega
    · obtain rfl : k = l.length := by omega
      rw [List.take_length] at own
      go_wp2_with fail
      go_ret
      exact ⟨A1, c1, rfl, own, bl⟩
theorem Try.info21Sp : (Try.prog.info? 51).map (fun i => (i.zero, i.size, i.bytes)) = some (some (.agg #[.int .i32 0, .int .i32 0]), 2, 8) := by kernel_rfl
theorem sameSp (x : Sp) (w : World) : Calls Try.prog 38 #[.agg #[.int .i32 x.f, .int .i32 x.t]] w fun e w' => e = .returned (.agg #[.int .i32 x.f, .int .i32 x.t]) ∧ Below w.heap.size w w' := by
  have b0 := Gw.al (Gw.al (Below.refl w.heap.size w) (.cells #[.int .i32 x.f, .int .i32 x.t] 51)) (.cells #[.int .i32 x.f, .int .i32 x.t] 51)
  have M := Ob.new (w.alloc (.cells #[.int .i32 x.f, .int .i32 x.t] 51)) #[.int .i32 x.f, .int .i32 x.t] 51
  simp only [World.size_alloc] at M
  have m0 := M.blk.2.1 0 _ rfl
  have m1 := M.blk.2.1 1 _ rfl
  clear M
  go_enter Try.func38, Try.ntmps38
  go_wp2_with fail
  refine bodyPost_ret (v := .agg #[.int .i32 x.f, .int .i32 x.t]) (by simp [results, Try.results38, go_sem, m0, m1]) rfl ⟨rfl, b0⟩
set_option maxHeartbeats 1000000 in
theorem eachSp (l : List Sp) (A : Option Addr) (cap : Nat) (w : World) (hr : Rd spc 2 w.heap.size w A l) (hlen : l.length ≤ 1000000) :
    Calls Try.prog 37 #[.slice A l.length cap, .func (.func 38) #[] #[]] w fun e w' => ∃ A' c', e = .returned (.slice A' l.length c') ∧ Own spc 2 51 w.heap.size w' (.slice A' l.length c') l ∧ Below w.heap.size w w' := by
  obtain ⟨i0, hi0, hz0, hz1, hz2⟩ := info_parts Try.info21Sp
  go_enter Try.func37, Try.ntmps37
  go_wp2_with (first | (at_make; refine wpList_make_own _ rfl _ _ 52 rfl w.heap.size 51 i0 _ 2 Try.underlying52 hi0 hz0 hz1 _ _ _ l.length rfl rfl rfl (by rw [hz2]; omega) (by unfold maxLen; omega) (Nat.le_refl _) ?_; intro w3 hown3 hg3) | fail)
  have o3 : Own spc 2 51 w.heap.size w3 (.slice (some ⟨w.heap.size, 0, none⟩) 0 l.length) ([] : List Sp) := hown3
  have b3 := Gw.none_ hg3
  clear hown3 hg3
  go_loopw [5, 13] (fun v i wr => ∃ (k : Nat) (A' : Option Addr) (c' : Nat), k ≤ l.length ∧ i = .int .i64 k ∧ v = .slice A' k c' ∧ Own spc 2 51 w.heap.size wr (.slice A' k c') (l.take k) ∧ Below w.heap.size w wr) (fun _ i _ => l.length - (intOf i).toNat)
  case atStart => exact ⟨0, _, _, Nat.zero_le _, rfl, rfl, by rw [List.take_zero]; exact o3, b3⟩
  case round =>
    clear o3 b3
    obtain ⟨k, A1, c1, hk, rfl, rfl, own, bl⟩ := hrel
    by_cases hlt : k < l.length
    · obtain ⟨x, hx⟩ : ∃ x, l[k]? = some x := ⟨_, List.getElem?_eq_getElem hlt⟩
      obtain ⟨b, o, rfl, hb, hc⟩ := (hr.below bl).at_ hx
      have d0 : wr.cell? ⟨b, o + k * 2, none⟩ = some (.int .i32 x.f) := hc 0 _ rfl
      have d1 : wr.cell? ⟨b, o + k * 2 + 1, none⟩ = some (.int .i32 x.t) := hc 1 _ rfl
      clear hc
      have ki : (k : Int) < (l.length : Int) := by omega
      have SN : Hid (l.take (k + 1) = l.take k ++ [x]) := Lib.hid (by rw [List.take_add_one, hx]; rfl)
      have HKL : Hid (k = (l.take k).length) := Lib.hid (by rw [List.length_take]; omega)
      have b1 := Gw.al bl (.cells #[.int .i32 x.f, .int .i32 x.t] 51)
      have o1 := own.alloc (.cells #[.int .i32 x.f, .int .i32 x.t] 51)
      clear hx own bl
      go_wp2_with fail
      refine (sameSp x _).mono ?_
      rintro e w4 ⟨rfl, hb4⟩
      have b2 := Gw.call b1 hb4
      have o2 := Own.below o1 hb4
      clear b1 o1 hb4
      have LT : Rd spc 2 (w4.alloc (.cells #[.int .i32 x.f, .int .i32 x.t] 51)).heap.size (w4.alloc (.cells #[.int .i32 x.f, .int .i32 x.t] 51)) (some ⟨w4.heap.size, 0, none⟩) [x] := by
        rw [World.size_alloc]; exact Rd.lit spc_len w4 _ rfl _ _ _ rfl
      have b4 := Gw.al b2 (.cells #[.int .i32 x.f, .int .i32 x.t] 51)
      have o4 := o2.alloc (.cells #[.int .i32 x.f, .int .i32 x.t] 51)
      go_wp2_with (first | (at_builtin; refine wpList_app _ rfl _ _ 52 rfl w.heap.size 51 i0 _ 8 Try.underlying52 hi0 hz0 hz1 hz2 rfl (by omega) spc_len spc_one (.slice A1 k c1) (l.take k) rfl o4 k HKL.out _ _ 1 1 [x] rfl rfl LT (by omega) (by omega) b4.size ?_; intro A5 c5 w5 o5 hg) | fail)
      have b5 := Gw.gr b4 hg o4.lt
      go_roundw
      case rel => exact ⟨k + 1, A5, c5, hlt, by go_num, rfl, by rw [SN.out]; exact o5, b5⟩
      case measure => simp [intOf]; omega
    · obtain rfl : k = l.length := by omega
      rw [List.take_length] at own
      go_wp2_with fail
      go_ret
      exact ⟨A1, c1, rfl, own, bl⟩
end Go.Proofs.Ytbengmgfddnkhaa
