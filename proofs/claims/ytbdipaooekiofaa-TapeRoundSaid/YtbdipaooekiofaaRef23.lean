/-
  grapevineref23: placed, next.
-/
import Derived.Test.YtbdipaooekiofaaAwake23
import Derived.Test.YtbdipaooekiofaaAppIn
namespace Go.Proofs.Ytbdipaooekiofaa
open Go.RowKit

set_option maxHeartbeats 1000000 in
theorem placed_any (l : List Int) (A : Option Addr) (cap : Nat) (p : Int) (w : World) (hr : Rd (fun z : Int => [Value.int .u32 z]) 1 w.heap.size w A l) (hlen : l.length ≤ 1000000) :
    Calls Try.prog 17 #[.agg #[.slice A l.length cap, .int .i64 p]] w (Told l w id (plc l p)) := by
  obtain ⟨i0, hi0, hz0, hz1, hz2⟩ := info_parts Try.infoU32s
  have b0 := Gw.al (Gw.al (Gw.al (Below.refl w.heap.size w) (.cells #[.slice A l.length cap, .int .i64 p] 24)) (.cells #[.slice none 0 0, .int .i64 0] 24)) (.cells #[.slice none 0 0, .int .i64 0] 24)
  have x1 := (Ob.new (w.alloc (.cells #[.slice A l.length cap, .int .i64 p] 24)) #[.slice none 0 0, .int .i64 0] 24).alloc (.cells #[.slice none 0 0, .int .i64 0] 24)
  have x2 := Ob.new ((w.alloc (.cells #[.slice A l.length cap, .int .i64 p] 24)).alloc (.cells #[.slice none 0 0, .int .i64 0] 24)) #[.slice none 0 0, .int .i64 0] 24
  have x0 := ((Ob.new w #[.slice A l.length cap, .int .i64 p] 24).alloc (.cells #[.slice none 0 0, .int .i64 0] 24)).alloc (.cells #[.slice none 0 0, .int .i64 0] 24)
  simp only [World.size_alloc] at x1 x2
  by_cases h1 : 0 < p
  · by_cases h2 : p < l.length
    · rw [plc_in (by omega) h2]
      go_enter Try.func17, Try.ntmps17
      go_wp2_with (at_builtin; refine wpList_app _ rfl _ _ 22 rfl (w.heap.size + 1 + 1 + 1) 34 i0 _ 4 Try.underlying22 hi0 hz0 hz1 hz2 rfl (by omega) (int_len .u32) (int_one .u32) _ ([] : List Int) rfl Own.nil_ 0 rfl _ A l.length cap l rfl rfl (hr.up b0) (by omega) (by omega) (by simp) ?_; intro A1 c1 w1 o1 hg; simp only [List.nil_append, Nat.zero_add] at o1 ⊢; have hb := Gw.none_ hg; replace b0 := Gw.call b0 hb; replace x0 := x0.call hb; replace x1 := x1.call hb; replace x2 := x2.call hb; clear hb hg; have t00 := x0.blk.2.1 0 _ rfl; have t01 := x0.blk.2.1 1 _ rfl; have t10 := x1.blk.2.1 0 _ rfl; have t11 := x1.blk.2.1 1 _ rfl; have t20 := x2.blk.2.1 0 _ rfl; have t21 := x2.blk.2.1 1 _ rfl; have f1 := x1.blk.2.2; have f2 := x2.blk.2.2; have hlt := x2.lt; have lo := Own.lt o1)
      have y1 := ((((x1.far (p := w.heap.size + 1 + 1) (j := 0) (by omega) (.slice A1 l.length c1)).far (p := w.heap.size + 1 + 1) (j := 1) (by omega) (.int .i64 p)).set 0 (.slice A1 l.length c1)).set 1 (.int .i64 p))
      have r0 := y1.blk.2.1 0 _ rfl
      have r1 := y1.blk.2.1 1 _ rfl
      refine bodyPost_ret (v := .agg #[.slice A1 l.length c1, .int .i64 p]) (by simp [results, Try.results17, go_sem, r0, r1]) rfl ⟨A1, c1, rfl, ?_, ?_⟩
      · exact (Own.far (p := ⟨w.heap.size + 1, 1, none⟩) (Own.far (p := ⟨w.heap.size + 1, 0, none⟩) (Own.far (p := ⟨w.heap.size + 1 + 1, 1, none⟩) (Own.far (p := ⟨w.heap.size + 1 + 1, 0, none⟩) o1 (fun j hj => by have := lo j hj; show j ≠ w.heap.size + 1 + 1; omega) (.slice A1 l.length c1)) (fun j hj => by have := lo j hj; show j ≠ w.heap.size + 1 + 1; omega) (.int .i64 p)) (fun j hj => by have := lo j hj; show j ≠ w.heap.size + 1; omega) (.slice A1 l.length c1)) (fun j hj => by have := lo j hj; show j ≠ w.heap.size + 1; omega) (.int .i64 p)).base_le (by omega)
      · exact (Gw.st (Gw.st (Gw.st (Gw.st b0 (p := ⟨w.heap.size + 1 + 1, 0, none⟩) (by show w.heap.size ≤ w.heap.size + 1 + 1; omega) (.slice A1 l.length c1)) (p := ⟨w.heap.size + 1 + 1, 1, none⟩) (by show w.heap.size ≤ w.heap.size + 1 + 1; omega) (.int .i64 p)) (p := ⟨w.heap.size + 1, 0, none⟩) (by show w.heap.size ≤ w.heap.size + 1; omega) (.slice A1 l.length c1)) (p := ⟨w.heap.size + 1, 1, none⟩) (by show w.heap.size ≤ w.heap.size + 1; omega) (.int .i64 p))
    · rw [plc_far (show (l.length : Int) ≤ p by omega)]
      have h3 : decide (p < (l.length : Int)) = false := by simp; omega
      go_enter Try.func17, Try.ntmps17
      go_wp2_with (at_builtin; refine wpList_app _ rfl _ _ 22 rfl (w.heap.size + 1 + 1 + 1) 34 i0 _ 4 Try.underlying22 hi0 hz0 hz1 hz2 rfl (by omega) (int_len .u32) (int_one .u32) _ ([] : List Int) rfl Own.nil_ 0 rfl _ A l.length cap l rfl rfl (hr.up b0) (by omega) (by omega) (by simp) ?_; intro A1 c1 w1 o1 hg; simp only [List.nil_append, Nat.zero_add] at o1 ⊢; have hb := Gw.none_ hg; replace b0 := Gw.call b0 hb; replace x0 := x0.call hb; replace x1 := x1.call hb; replace x2 := x2.call hb; clear hb hg; have t00 := x0.blk.2.1 0 _ rfl; have t01 := x0.blk.2.1 1 _ rfl; have t10 := x1.blk.2.1 0 _ rfl; have t11 := x1.blk.2.1 1 _ rfl; have t20 := x2.blk.2.1 0 _ rfl; have t21 := x2.blk.2.1 1 _ rfl; have f1 := x1.blk.2.2; have f2 := x2.blk.2.2; have hlt := x2.lt; have lo := Own.lt o1)
      have y1 := (((x1.far (p := w.heap.size + 1 + 1) (j := 0) (by omega) (.slice A1 l.length c1)).set 0 (.slice A1 l.length c1)).set 1 (.int .i64 0))
      have r0 := y1.blk.2.1 0 _ rfl
      have r1 := y1.blk.2.1 1 _ rfl
      refine bodyPost_ret (v := .agg #[.slice A1 l.length c1, .int .i64 0]) (by simp [results, Try.results17, go_sem, r0, r1]) rfl ⟨A1, c1, rfl, ?_, ?_⟩
      · exact (Own.far (p := ⟨w.heap.size + 1, 1, none⟩) (Own.far (p := ⟨w.heap.size + 1, 0, none⟩) (Own.far (p := ⟨w.heap.size + 1 + 1, 0, none⟩) o1 (fun j hj => by have := lo j hj; show j ≠ w.heap.size + 1 + 1; omega) (.slice A1 l.length c1)) (fun j hj => by have := lo j hj; show j ≠ w.heap.size + 1; omega) (.slice A1 l.length c1)) (fun j hj => by have := lo j hj; show j ≠ w.heap.size + 1; omega) (.int .i64 0)).base_le (by omega)
      · exact (Gw.st (Gw.st (Gw.st b0 (p := ⟨w.heap.size + 1 + 1, 0, none⟩) (by show w.heap.size ≤ w.heap.size + 1 + 1; omega) (.slice A1 l.length c1)) (p := ⟨w.heap.size + 1, 0, none⟩) (by show w.heap.size ≤ w.heap.size + 1; omega) (.slice A1 l.length c1)) (p := ⟨w.heap.size + 1, 1, none⟩) (by show w.heap.size ≤ w.heap.size + 1; omega) (.int .i64 0))
  · have e : plc l p = 0 := by unfold plc; split <;> omega
    rw [e]
    have h3 : decide (0 < p) = false := by simp; omega
    go_enter Try.func17, Try.ntmps17
    go_wp2_with (at_builtin; refine wpList_app _ rfl _ _ 22 rfl (w.heap.size + 1 + 1 + 1) 34 i0 _ 4 Try.underlying22 hi0 hz0 hz1 hz2 rfl (by omega) (int_len .u32) (int_one .u32) _ ([] : List Int) rfl Own.nil_ 0 rfl _ A l.length cap l rfl rfl (hr.up b0) (by omega) (by omega) (by simp) ?_; intro A1 c1 w1 o1 hg; simp only [List.nil_append, Nat.zero_add] at o1 ⊢; have hb := Gw.none_ hg; replace b0 := Gw.call b0 hb; replace x0 := x0.call hb; replace x1 := x1.call hb; replace x2 := x2.call hb; clear hb hg; have t00 := x0.blk.2.1 0 _ rfl; have t01 := x0.blk.2.1 1 _ rfl; have t10 := x1.blk.2.1 0 _ rfl; have t11 := x1.blk.2.1 1 _ rfl; have t20 := x2.blk.2.1 0 _ rfl; have t21 := x2.blk.2.1 1 _ rfl; have f1 := x1.blk.2.2; have f2 := x2.blk.2.2; have hlt := x2.lt; have lo := Own.lt o1)
    have y1 := (((x1.far (p := w.heap.size + 1 + 1) (j := 0) (by omega) (.slice A1 l.length c1)).set 0 (.slice A1 l.length c1)).set 1 (.int .i64 0))
    have r0 := y1.blk.2.1 0 _ rfl
    have r1 := y1.blk.2.1 1 _ rfl
    refine bodyPost_ret (v := .agg #[.slice A1 l.length c1, .int .i64 0]) (by simp [results, Try.results17, go_sem, r0, r1]) rfl ⟨A1, c1, rfl, ?_, ?_⟩
    · exact (Own.far (p := ⟨w.heap.size + 1, 1, none⟩) (Own.far (p := ⟨w.heap.size + 1, 0, none⟩) (Own.far (p := ⟨w.heap.size + 1 + 1, 0, none⟩) o1 (fun j hj => by have := lo j hj; show j ≠ w.heap.size + 1 + 1; omega) (.slice A1 l.length c1)) (fun j hj => by have := lo j hj; show j ≠ w.heap.size + 1; omega) (.slice A1 l.length c1)) (fun j hj => by have := lo j hj; show j ≠ w.heap.size + 1; omega) (.int .i64 0)).base_le (by omega)
    · exact (Gw.st (Gw.st (Gw.st b0 (p := ⟨w.heap.size + 1 + 1, 0, none⟩) (by show w.heap.size ≤ w.heap.size + 1 + 1; omega) (.slice A1 l.length c1)) (p := ⟨w.heap.size + 1, 0, none⟩) (by show w.heap.size ≤ w.heap.size + 1; omega) (.slice A1 l.length c1)) (p := ⟨w.heap.size + 1, 1, none⟩) (by show w.heap.size ≤ w.heap.size + 1; omega) (.int .i64 0))

set_option maxHeartbeats 2000000 in
theorem next_any (l : List Int) (A : Option Addr) (cap q : Nat) (w : World) (hr : Rd (fun z : Int => [Value.int .u32 z]) 1 w.heap.size w A l) (hlen : l.length ≤ 1000000) (hq : q < l.length ∨ q = 0) :
    Calls Try.prog 18 #[.agg #[.slice A l.length cap, .int .i64 q]] w fun e w' => e = .returned (.tuple #[.int .u32 (val l q 0), .agg #[.slice A l.length cap, .int .i64 (pos l q 1)]]) ∧ Below w.heap.size w w' := by
  have b0 := Gw.al (Gw.al (Below.refl w.heap.size w) (.cells #[.slice A l.length cap, .int .i64 q] 24)) (.cells #[.slice none 0 0, .int .i64 0] 24)
  have x0 := (Ob.new w #[.slice A l.length cap, .int .i64 q] 24).alloc (.cells #[.slice none 0 0, .int .i64 0] 24)
  have x1 := Ob.new (w.alloc (.cells #[.slice A l.length cap, .int .i64 q] 24)) #[.slice none 0 0, .int .i64 0] 24
  rw [World.size_alloc] at x1
  rcases Nat.eq_zero_or_pos l.length with h0 | h0
  · have e := List.length_eq_zero_iff.1 h0
    subst e
    obtain rfl : q = 0 := by rcases hq with h | h; simp at h; exact h
    rw [show val [] 0 0 = 0 by rfl, pos_zero h0]
    go_enter Try.func18, Try.ntmps18
    go_wp2
    go_region
    go_wp2
    exact bodyPost_ret (v := .tuple #[.int .u32 0, .agg #[.slice A 0 cap, .int .i64 0]]) (by simp [results, Try.results18, go_sem]) rfl ⟨rfl, Gw.drew (Gw.al (Gw.al (Below.refl _ _) _) _)⟩
  · have hp := pos_step h0 q 0
    rw [pos_start hq] at hp
    have hq' : q < l.length := by omega
    obtain ⟨x, hx⟩ : ∃ x, l[q]? = some x := ⟨_, List.getElem?_eq_getElem hq'⟩
    have hv : val l q 0 = x := by unfold val; rw [pos_start hq, List.getD_eq_getElem?_getD, hx]; rfl
    rw [hv]
    obtain ⟨b, o, rfl, hbb, cx⟩ := hr.int1 hx
    have hne : ¬ l.length = 0 := by omega
    have hne2 : ¬ l = [] := by intro h; simp [h] at h0
    by_cases hw : q + 1 = l.length
    · have e : pos l q 1 = 0 := by rw [← hp, hw, Nat.mod_self]
      rw [e]
      have hw' : ((q : Int) + 1) = (l.length : Int) := by omega
      have HW := Lib.hid hw
      clear hw hp hv hx e
      go_enter Try.func18, Try.ntmps18
      go_wp2
      go_region
      go_wp2
      exact bodyPost_ret (v := .tuple #[.int .u32 x, .agg #[.slice (some ⟨b, o, none⟩) l.length cap, .int .i64 0]]) (by simp [results, Try.results18, go_sem]) rfl ⟨rfl, Gw.drew (Gw.al (Gw.al (Below.refl _ _) _) _)⟩
    · have e : pos l q 1 = q + 1 := by rw [← hp, Nat.mod_eq_of_lt (by omega)]
      rw [e]
      have hw' : decide (((q : Int) + 1) = (l.length : Int)) = false := by simp; omega
      clear hp hv hx e
      go_enter Try.func18, Try.ntmps18
      go_wp2
      go_region
      go_wp2
      exact bodyPost_ret (v := .tuple #[.int .u32 x, .agg #[.slice (some ⟨b, o, none⟩) l.length cap, .int .i64 ((q : Int) + 1)]]) (by simp [results, Try.results18, go_sem]) rfl ⟨by simp, Gw.drew (Gw.al (Gw.al (Below.refl _ _) _) _)⟩
set_option maxHeartbeats 2000000 in
theorem rdraw_any (l : List Int) (A : Option Addr) (cap : Nat) (p n : Int) (w : World) (hr : Rd (fun z : Int => [Value.int .u32 z]) 1 w.heap.size w A l) (hlen : l.length ≤ 1000000) (hl : ∀ x ∈ l, 0 ≤ x ∧ x ≤ 4294967295) (hn2 : n ≤ 9223372036854775807) :
    Calls Try.prog 10 #[.agg #[.slice A l.length cap, .int .i64 p], .int .i64 n] w (Told l w (fun t => .tuple #[.int .i64 (drawnV l p n), t]) (drawnP l p n)) := by
  unfold drawnV drawnP
  by_cases h : n < 1
  · rw [if_pos h, if_pos h]
    go_enter Try.func10, Try.ntmps10
    go_wp2_with fail
    have b0 := Gw.al (Gw.al (Below.refl w.heap.size w) (.cells #[.slice A l.length cap, .int .i64 p] 24)) (.cells #[.slice none 0 0, .int .i64 0] 24)
    have x2 := (Ob.new w #[.slice A l.length cap, .int .i64 p] 24).alloc (.cells #[.slice none 0 0, .int .i64 0] 24)
    have x5 := Ob.new (w.alloc (.cells #[.slice A l.length cap, .int .i64 p] 24)) #[.slice none 0 0, .int .i64 0] 24
    rw [World.size_alloc] at x5
    refine (placed_any l A cap p _ (hr.up b0) hlen).mono ?_
    rintro e w1 ⟨A1, c1, rfl, o1, hb⟩
    simp only [World.size_alloc] at o1
    dsimp only [id]
    replace b0 := Gw.call b0 hb
    replace x2 := x2.call hb
    replace x5 := x5.call hb
    clear hb
    have t20 := x2.blk.2.1 0 _ rfl
    have t21 := x2.blk.2.1 1 _ rfl
    have t50 := x5.blk.2.1 0 _ rfl
    have t51 := x5.blk.2.1 1 _ rfl
    have f2 := x2.blk.2.2
    have f5 := x5.blk.2.2
    have hlt := x5.lt
    have lo := Own.lt o1
    go_wp2_with fail
    go_region
    go_wp2_with fail
    have y5 := ((((x5.far (p := w.heap.size) (j := 0) (by omega) (.slice A1 l.length c1)).far (p := w.heap.size) (j := 1) (by omega) (.int .i64 (plc l p))).set 0 (.slice A1 l.length c1)).set 1 (.int .i64 (plc l p))).drew
    have r50 := y5.blk.2.1 0 _ rfl
    have r51 := y5.blk.2.1 1 _ rfl
    refine bodyPost_ret (v := .tuple #[.int .i64 0, .agg #[.slice A1 l.length c1, .int .i64 (plc l p)]]) (by simp [results, Try.results10, go_sem, r50, r51]) rfl ⟨A1, c1, rfl, ?_, ?_⟩
    · exact (Own.far (p := ⟨w.heap.size + 1, 1, none⟩) (Own.far (p := ⟨w.heap.size + 1, 0, none⟩) (Own.far (p := ⟨w.heap.size, 1, none⟩) (Own.far (p := ⟨w.heap.size, 0, none⟩) o1 (fun j hj => by have := lo j hj; show j ≠ w.heap.size; omega) (.slice A1 l.length c1)) (fun j hj => by have := lo j hj; show j ≠ w.heap.size; omega) (.int .i64 (plc l p))) (fun j hj => by have := lo j hj; show j ≠ w.heap.size + 1; omega) (.slice A1 l.length c1)) (fun j hj => by have := lo j hj; show j ≠ w.heap.size + 1; omega) (.int .i64 (plc l p))).drew.base_le (by omega)
    · exact Gw.drew (Gw.st (Gw.st (Gw.st (Gw.st b0 (p := ⟨w.heap.size, 0, none⟩) (by show w.heap.size ≤ w.heap.size; omega) (.slice A1 l.length c1)) (p := ⟨w.heap.size, 1, none⟩) (by show w.heap.size ≤ w.heap.size; omega) (.int .i64 (plc l p))) (p := ⟨w.heap.size + 1, 0, none⟩) (by show w.heap.size ≤ w.heap.size + 1; omega) (.slice A1 l.length c1)) (p := ⟨w.heap.size + 1, 1, none⟩) (by show w.heap.size ≤ w.heap.size + 1; omega) (.int .i64 (plc l p)))
  · rw [if_neg h, if_neg h]
    have hn1 : decide (n < 1) = false := by simp; omega
    have hn3 : 1 ≤ n := by omega
    go_enter Try.func10, Try.ntmps10
    go_wp2_with fail
    have b0 := Gw.al (Gw.al (Below.refl w.heap.size w) (.cells #[.slice A l.length cap, .int .i64 p] 24)) (.cells #[.slice none 0 0, .int .i64 0] 24)
    have x2 := (Ob.new w #[.slice A l.length cap, .int .i64 p] 24).alloc (.cells #[.slice none 0 0, .int .i64 0] 24)
    have x5 := Ob.new (w.alloc (.cells #[.slice A l.length cap, .int .i64 p] 24)) #[.slice none 0 0, .int .i64 0] 24
    rw [World.size_alloc] at x5
    refine (placed_any l A cap p _ (hr.up b0) hlen).mono ?_
    rintro e w1 ⟨A1, c1, rfl, o1, hb⟩
    simp only [World.size_alloc] at o1
    dsimp only [id]
    replace b0 := Gw.call b0 hb
    replace x2 := x2.call hb
    replace x5 := x5.call hb
    clear hb
    have t20 := x2.blk.2.1 0 _ rfl
    have t21 := x2.blk.2.1 1 _ rfl
    have t50 := x5.blk.2.1 0 _ rfl
    have t51 := x5.blk.2.1 1 _ rfl
    have f2 := x2.blk.2.2
    have f5 := x5.blk.2.2
    have hlt := x5.lt
    have lo := Own.lt o1
    obtain ⟨q, hq⟩ : ∃ q, q = plc l p := ⟨_, rfl⟩
    rw [← hq]
    have hql : q < l.length ∨ q = 0 := by rw [hq]; exact plc_ok l p
    have HQ := Lib.hid hq
    clear hq
    go_wp2_with fail
    have y5 := ((x5.far (p := w.heap.size) (j := 0) (by omega) (.slice A1 l.length c1)).far (p := w.heap.size) (j := 1) (by omega) (.int .i64 q))
    have oy := (Own.far (p := ⟨w.heap.size, 1, none⟩) (Own.far (p := ⟨w.heap.size, 0, none⟩) o1 (fun j hj => by have := lo j hj; show j ≠ w.heap.size; omega) (.slice A1 l.length c1)) (fun j hj => by have := lo j hj; show j ≠ w.heap.size; omega) (.int .i64 q))
    have by_ := (Gw.st (Gw.st b0 (p := ⟨w.heap.size, 0, none⟩) (by show w.heap.size ≤ w.heap.size; omega) (.slice A1 l.length c1)) (p := ⟨w.heap.size, 1, none⟩) (by show w.heap.size ≤ w.heap.size; omega) (.int .i64 q))
    refine (next_any l A1 c1 q _ (oy.rd (int_len .u32)) hlen hql).mono ?_
    rintro e w3 ⟨rfl, hb⟩
    replace y5 := y5.call hb
    replace oy := Own.below oy hb
    replace by_ := Gw.call by_ hb
    clear hb t20 t21 t50 t51 f2 f5 hlt x2 x5 o1 b0
    have t50 := y5.blk.2.1 0 _ rfl
    have t51 := y5.blk.2.1 1 _ rfl
    have f5 := y5.blk.2.2
    have hlt := y5.lt
    obtain ⟨v1, v2⟩ := val_in hl q 0
    go_wp2_with fail
    go_region
    all_goals go_wp2_with fail
    all_goals (have z5 := (((y5.set 0 (.slice A1 l.length c1)).set 1 (.int .i64 (pos l q 1))).alloc (.cells #[.slice A1 l.length c1, .int .i64 (pos l q 1)] 24)).drew
               have r50 := z5.blk.2.1 0 _ rfl
               have r51 := z5.blk.2.1 1 _ rfl
               refine bodyPost_ret (v := .tuple #[.int .i64 (val l q 0 % n), .agg #[.slice A1 l.length c1, .int .i64 (pos l q 1)]]) (by simp [results, Try.results10, go_sem, r50, r51]) rfl ?_
               rw [← HQ.out]
               refine ⟨A1, c1, rfl, ?_, ?_⟩
               · exact (((Own.far (p := ⟨w.heap.size + 1, 1, none⟩) (Own.far (p := ⟨w.heap.size + 1, 0, none⟩) oy (fun j hj => by have := lo j hj; show j ≠ w.heap.size + 1; omega) (.slice A1 l.length c1)) (fun j hj => by have := lo j hj; show j ≠ w.heap.size + 1; omega) (.int .i64 (pos l q 1)))).alloc _).drew.base_le (by omega)
               · exact Gw.drew (Gw.al (Gw.st (Gw.st by_ (p := ⟨w.heap.size + 1, 0, none⟩) (by show w.heap.size ≤ w.heap.size + 1; omega) (.slice A1 l.length c1)) (p := ⟨w.heap.size + 1, 1, none⟩) (by show w.heap.size ≤ w.heap.size + 1; omega) (.int .i64 (pos l q 1))) _))

theorem pos_pos {l : List Int} {q : Nat} (h : q < l.length ∨ q = 0) (k j : Nat) : pos l (pos l q k) j = pos l q (k + j) := by
  rcases Nat.eq_zero_or_pos l.length with h0 | h0
  · rw [pos_zero h0, pos_zero h0]
  · unfold pos
    rw [if_neg (by omega), if_neg (by omega), if_neg (by omega), Nat.mod_add_mod, Nat.add_assoc]
theorem pos_ok {l : List Int} (q k : Nat) : pos l q k < l.length ∨ pos l q k = 0 := by
  rcases Nat.eq_zero_or_pos l.length with h0 | h0
  · exact .inr (pos_zero h0 q k)
  · exact .inl (pos_lt h0 q k)
theorem val_pos {l : List Int} {q : Nat} (h : q < l.length ∨ q = 0) (k j : Nat) : val l (pos l q k) j = val l q (k + j) := by
  unfold val; rw [pos_pos h]
set_option maxHeartbeats 4000000 in
theorem rsome_any (l : List Int) (A : Option Addr) (cap : Nat) (p n : Int) (w : World) (hr : Rd (fun z : Int => [Value.int .u32 z]) 1 w.heap.size w A l) (hlen : l.length ≤ 1000000) (hl : ∀ x ∈ l, 0 ≤ x ∧ x ≤ 4294967295) (hn2 : n ≤ 9223372036854775807) :
    Calls Try.prog 12 #[.agg #[.slice A l.length cap, .int .i64 p], .int .i64 n] w (Drew l (vals l (plc l p) (cnt n)) w (pos l (plc l p) (cnt n))) := by
  obtain ⟨i0, hi0, hz0, hz1, hz2⟩ := info_parts Try.infoU32s
  obtain ⟨m, hm⟩ : ∃ m, m = cnt n := ⟨_, rfl⟩
  rw [← hm]
  have hm1 : m ≤ 1000 := by rw [hm]; unfold cnt; omega
  have hm2 : ∀ k : Nat, k < m ↔ ((k : Int) < n ∧ (k : Int) < 1000) := fun k => by rw [hm]; unfold cnt; omega
  have HM := Lib.hid hm2
  have HLL := Lib.hid hl
  clear hm hm2 hl
  go_enter Try.func12, Try.ntmps12
  go_wp2_with fail
  have b0 := Gw.al (Gw.al (Below.refl w.heap.size w) (.cells #[.slice A l.length cap, .int .i64 p] 24)) (.cells #[.slice none 0 0, .int .i64 0] 24)
  have x2 := (Ob.new w #[.slice A l.length cap, .int .i64 p] 24).alloc (.cells #[.slice none 0 0, .int .i64 0] 24)
  have x5 := Ob.new (w.alloc (.cells #[.slice A l.length cap, .int .i64 p] 24)) #[.slice none 0 0, .int .i64 0] 24
  rw [World.size_alloc] at x5
  refine (placed_any l A cap p _ (hr.up b0) hlen).mono ?_
  rintro e w1 ⟨A1, c1, rfl, o1, hb⟩
  simp only [World.size_alloc] at o1
  dsimp only [id]
  replace b0 := Gw.call b0 hb
  replace x2 := x2.call hb
  replace x5 := x5.call hb
  clear hb
  have t20 := x2.blk.2.1 0 _ rfl
  have t21 := x2.blk.2.1 1 _ rfl
  have t50 := x5.blk.2.1 0 _ rfl
  have t51 := x5.blk.2.1 1 _ rfl
  have f2 := x2.blk.2.2
  have f5 := x5.blk.2.2
  have hlt := x5.lt
  have lo := Own.lt o1
  obtain ⟨q, hq⟩ : ∃ q, q = plc l p := ⟨_, rfl⟩
  rw [← hq]
  have hql : q < l.length ∨ q = 0 := by rw [hq]; exact plc_ok l p
  have HQ := Lib.hid hq
  clear hq
  go_wp2_with fail
  have y2 := ((x2.set 0 (.slice A1 l.length c1)).set 1 (.int .i64 q))
  have y5 := ((x5.far (p := w.heap.size) (j := 0) (by omega) (.slice A1 l.length c1)).far (p := w.heap.size) (j := 1) (by omega) (.int .i64 q))
  have oy := (Own.far (p := ⟨w.heap.size, 1, none⟩) (Own.far (p := ⟨w.heap.size, 0, none⟩) o1 (fun j hj => by have := lo j hj; show j ≠ w.heap.size; omega) (.slice A1 l.length c1)) (fun j hj => by have := lo j hj; show j ≠ w.heap.size; omega) (.int .i64 q))
  have by_ := (Gw.st (Gw.st b0 (p := ⟨w.heap.size, 0, none⟩) (by show w.heap.size ≤ w.heap.size; omega) (.slice A1 l.length c1)) (p := ⟨w.heap.size, 1, none⟩) (by show w.heap.size ≤ w.heap.size; omega) (.int .i64 q))
  have hN : w.heap.size + 1 < w1.heap.size := hlt
  have sN : ((w1.setCell ⟨w.heap.size, 0, none⟩ (.slice A1 l.length c1)).setCell ⟨w.heap.size, 1, none⟩ (.int .i64 q)).heap.size = w1.heap.size := by rw [Gw.setSize, Gw.setSize]
  have sv : ∀ j, (Value.slice A1 l.length c1).ownBlock = some j → w.heap.size + 1 + 1 ≤ j ∧ j < w1.heap.size := fun j hj => ⟨lo j hj, Own.hi o1 j hj⟩
  replace y2 : Ob ((w1.setCell ⟨w.heap.size, 0, none⟩ (.slice A1 l.length c1)).setCell ⟨w.heap.size, 1, none⟩ (.int .i64 q)) w.heap.size #[.slice A1 l.length c1, .int .i64 (pos l q 0)] 24 := by rw [pos_start hql]; simpa using y2
  clear t20 t21 t50 t51 f2 f5 hlt x2 x5 o1 b0
  go_loopw [6, 7] (fun D i wr => ∃ (k : Nat) (P : Option Addr) (d : Nat), i = .int .i64 k ∧ k ≤ m ∧ D = .slice P k d ∧ Own (fun z : Int => [Value.int .u32 z]) 1 34 w1.heap.size wr (.slice P k d) (vals l q k) ∧ Ob wr w.heap.size #[.slice A1 l.length c1, .int .i64 (pos l q k)] 24 ∧ Ob wr (w.heap.size + 1) #[.slice none 0 0, .int .i64 0] 24 ∧ Own (fun z : Int => [Value.int .u32 z]) 1 34 (w.heap.size + 1 + 1) wr (.slice A1 l.length c1) l ∧ Below w.heap.size w wr ∧ w1.heap.size ≤ wr.heap.size) (fun _ i _ => m - (intOf i).toNat)
  case atStart => exact ⟨0, none, 0, rfl, Nat.zero_le _, rfl, Own.nil_, y2, y5, oy, by_, by omega⟩
  case round =>
    obtain ⟨k, P, d, rfl, hkm, rfl, od, X2, X5, OS, Bl, hsz⟩ := hrel
    have t20 := X2.blk.2.1 0 _ rfl
    have t21 := X2.blk.2.1 1 _ rfl
    have t50 := X5.blk.2.1 0 _ rfl
    have t51 := X5.blk.2.1 1 _ rfl
    have f5 := X5.blk.2.2
    have l2 := X2.lt
    have l5 := X5.lt
    by_cases hlt : k < m
    · obtain ⟨hk1, hk2⟩ := (HM.out k).1 hlt
      have NX := Lib.hid (next_any l A1 c1 (pos l q k) wr (OS.rd (int_len .u32)) hlen (pos_ok q k))
      rw [val_pos hql, pos_pos hql, Nat.add_zero] at NX
      obtain ⟨v1, v2⟩ := val_in HLL.out q k
      go_wp2_with fail
      refine (NX.out).mono ?_
      rintro e w3 ⟨rfl, hb⟩
      replace X2 := X2.call hb
      replace X5 := X5.call hb
      replace OS := Own.below OS hb
      replace od := Own.below od hb
      replace Bl := Gw.call Bl hb
      have hs3 := hb.size
      clear hb t20 t21 t50 t51 f5 l2 l5 NX
      have bT : .cells #[.slice A1 l.length c1, .int .i64 (pos l q (k + 1))] 24 = Obj.cells #[.slice A1 l.length c1, .int .i64 (pos l q (k + 1))] 24 := rfl
      have t20 := X2.blk.2.1 0 _ rfl
      have t21 := X2.blk.2.1 1 _ rfl
      have l2 := X2.lt
      have l5 := X5.lt
      clear bT
      have odlo := Own.lt od
      go_wp2_with (at_builtin; refine wpList_app _ rfl _ _ 22 rfl w1.heap.size 34 i0 _ 4 Try.underlying22 hi0 hz0 hz1 hz2 rfl (by omega) (int_len .u32) (int_one .u32) _ (vals l q k) rfl ((od.alloc _).alloc _) k (vals_len l q k).symm _ _ 1 1 [val l q k] rfl rfl (Rd.oneAt .u32 _ _ (by simp) _ _) (by omega) (by omega) (by simp; omega) ?_; intro D' d' w4 od4 hg4; have a2 := ((X2.alloc (.cells #[.slice A1 l.length c1, .int .i64 (pos l q (k + 1))] 24)).alloc (.cells #[.int .u32 (val l q k)] 34)).app ((od.alloc _).alloc _) hg4 (by decide); have a5 := ((X5.alloc (.cells #[.slice A1 l.length c1, .int .i64 (pos l q (k + 1))] 24)).alloc (.cells #[.int .u32 (val l q k)] 34)).app ((od.alloc _).alloc _) hg4 (by decide); have a9 := ((Ob.new w3 #[.slice A1 l.length c1, .int .i64 (pos l q (k + 1))] 24).alloc (.cells #[.int .u32 (val l q k)] 34)).app ((od.alloc _).alloc _) hg4 (by decide); have v20 := a2.blk.2.1 0 _ rfl; have v21 := a2.blk.2.1 1 _ rfl; have v90 := a9.blk.2.1 0 _ rfl; have v91 := a9.blk.2.1 1 _ rfl; have g2 := a2.blk.2.2; have m2 := a2.lt; have m9 := a9.lt; clear t20 t21)
      go_roundw
      case rel =>
        refine ⟨k + 1, D', d', by go_num, by omega, rfl, ?_, ?_, ?_, ?_, ?_, ?_⟩
        · rw [vals_snoc]
          exact Own.far (p := ⟨w.heap.size, 1, none⟩) (Own.far (p := ⟨w.heap.size, 0, none⟩) od4 (fun j hj => by have := Own.lt od4 j hj; show j ≠ w.heap.size; omega) _) (fun j hj => by have := Own.lt od4 j hj; show j ≠ w.heap.size; omega) _
        · exact (a2.set 0 _).set 1 _
        · exact (a5.far (p := w.heap.size) (j := 0) (by omega) _).far (p := w.heap.size) (j := 1) (by omega) _
        · exact Own.far (p := ⟨w.heap.size, 1, none⟩) (Own.far (p := ⟨w.heap.size, 0, none⟩) (Own.keep ((OS.alloc _).alloc _) hg4 (by
            rcases hv : (Value.slice A1 l.length c1).ownBlock with _ | j
            · exact .inl rfl
            · exact .inr (fun e => by have h1 := sv j hv; have h2 := odlo j e.symm; omega))) (fun j hj => by have := sv j hj; show j ≠ w.heap.size; omega) _) (fun j hj => by have := sv j hj; show j ≠ w.heap.size; omega) _
        · exact Gw.st (Gw.st (Gw.gr (Gw.al (Gw.al Bl _) _) hg4 (fun j hj => by have := odlo j hj; omega)) (p := ⟨w.heap.size, 0, none⟩) (by show w.heap.size ≤ w.heap.size; omega) _) (p := ⟨w.heap.size, 1, none⟩) (by show w.heap.size ≤ w.heap.size; omega) _
        · have h7 := hg4.size
          simp only [World.size_alloc] at h7
          rw [Gw.setSize, Gw.setSize]; omega
      case measure => simp [intOf]; omega
    · obtain rfl : k = m := by omega
      have hno := HM.out k
      have hend : decide ((k : Int) < n) = false ∨ (decide ((k : Int) < n) = true ∧ decide ((k : Int) < 1000) = false) := by
        by_cases h1 : (k : Int) < n
        · right
          refine ⟨by simpa using h1, ?_⟩
          have : ¬ (k : Int) < 1000 := fun h2 => hlt (hno.2 ⟨h1, h2⟩)
          simp; omega
        · exact .inl (by simpa using h1)
      have odlo := Own.lt od
      clear hno
      rcases hend with h1 | ⟨h1, h2⟩
      · have h3 : ¬ (k : Int) < n := by simpa using h1
        go_wp2_with fail
        go_region
        all_goals go_wp2_with fail
        all_goals (have z5 := ((X5.set 0 (.slice A1 l.length c1)).set 1 (.int .i64 (pos l q k))).drew
                   have r50 := z5.blk.2.1 0 _ rfl
                   have r51 := z5.blk.2.1 1 _ rfl
                   refine bodyPost_ret (v := .tuple #[.slice P k d, .agg #[.slice A1 l.length c1, .int .i64 (pos l q k)]]) (by simp [results, Try.results12, go_sem, r50, r51]) rfl ?_
                   rw [← HQ.out]
                   unfold Drew
                   rw [vals_len]
                   refine ⟨P, d, A1, c1, rfl, ?_, ?_, ?_, ?_⟩
                   · exact (Own.far (p := ⟨w.heap.size + 1, 1, none⟩) (Own.far (p := ⟨w.heap.size + 1, 0, none⟩) od (fun j hj => by have := odlo j hj; show j ≠ w.heap.size + 1; omega) _) (fun j hj => by have := odlo j hj; show j ≠ w.heap.size + 1; omega) _).drew.base_le (by omega)
                   · exact (Own.far (p := ⟨w.heap.size + 1, 1, none⟩) (Own.far (p := ⟨w.heap.size + 1, 0, none⟩) OS (fun j hj => by have := sv j hj; show j ≠ w.heap.size + 1; omega) _) (fun j hj => by have := sv j hj; show j ≠ w.heap.size + 1; omega) _).drew.base_le (by omega)
                   · intro j h5 h6
                     have := odlo j h5
                     have := sv j h6
                     omega
                   · exact Gw.drew (Gw.st (Gw.st Bl (p := ⟨w.heap.size + 1, 0, none⟩) (by show w.heap.size ≤ w.heap.size + 1; omega) _) (p := ⟨w.heap.size + 1, 1, none⟩) (by show w.heap.size ≤ w.heap.size + 1; omega) _))
      · have h3 : (k : Int) < n := by simpa using h1
        have h4 : ¬ (k : Int) < 1000 := by simpa using h2
        go_wp2_with fail
        go_region
        all_goals go_wp2_with fail
        all_goals (have z5 := ((X5.set 0 (.slice A1 l.length c1)).set 1 (.int .i64 (pos l q k))).drew
                   have r50 := z5.blk.2.1 0 _ rfl
                   have r51 := z5.blk.2.1 1 _ rfl
                   refine bodyPost_ret (v := .tuple #[.slice P k d, .agg #[.slice A1 l.length c1, .int .i64 (pos l q k)]]) (by simp [results, Try.results12, go_sem, r50, r51]) rfl ?_
                   rw [← HQ.out]
                   unfold Drew
                   rw [vals_len]
                   refine ⟨P, d, A1, c1, rfl, ?_, ?_, ?_, ?_⟩
                   · exact (Own.far (p := ⟨w.heap.size + 1, 1, none⟩) (Own.far (p := ⟨w.heap.size + 1, 0, none⟩) od (fun j hj => by have := odlo j hj; show j ≠ w.heap.size + 1; omega) _) (fun j hj => by have := odlo j hj; show j ≠ w.heap.size + 1; omega) _).drew.base_le (by omega)
                   · exact (Own.far (p := ⟨w.heap.size + 1, 1, none⟩) (Own.far (p := ⟨w.heap.size + 1, 0, none⟩) OS (fun j hj => by have := sv j hj; show j ≠ w.heap.size + 1; omega) _) (fun j hj => by have := sv j hj; show j ≠ w.heap.size + 1; omega) _).drew.base_le (by omega)
                   · intro j h5 h6
                     have := odlo j h5
                     have := sv j h6
                     omega
                   · exact Gw.drew (Gw.st (Gw.st Bl (p := ⟨w.heap.size + 1, 0, none⟩) (by show w.heap.size ≤ w.heap.size + 1; omega) _) (p := ⟨w.heap.size + 1, 1, none⟩) (by show w.heap.size ≤ w.heap.size + 1; omega) _))

end Go.Proofs.Ytbdipaooekiofaa
