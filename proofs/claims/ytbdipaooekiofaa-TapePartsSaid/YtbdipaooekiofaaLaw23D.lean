/-
  TapeParts: some numbers, and then some more (23).
-/
import Derived.Test.YtbdipaooekiofaaRef23
namespace Go.Proofs.Ytbdipaooekiofaa
open Go.RowKit
theorem plc_pos {l : List Int} (q k : Nat) : plc l (pos l q k : Int) = pos l q k := by
  unfold plc; have := @pos_ok l q k; split <;> omega
theorem vals_app {l : List Int} {q : Nat} (h : q < l.length ∨ q = 0) (x y : Nat) : vals l q x ++ vals l (pos l q x) y = vals l q (x + y) := by
  unfold vals
  rw [List.range_add, List.map_append, List.map_map]
  congr 1
  apply List.map_congr_left
  intro j _
  exact val_pos h x j
theorem cnt_of (x : Nat) (h : x ≤ 1000) : cnt (x : Int) = x := by unfold cnt; omega
set_option maxRecDepth 100000 in
set_option maxHeartbeats 4000000 in
theorem parts_any (l : List Int) (A : Option Addr) (cap : Nat) (p a b q : Int) (w : World) (hr : Rd (fun z : Int => [Value.int .u32 z]) 1 w.heap.size w A l) (hl : ∀ x ∈ l, 0 ≤ x ∧ x ≤ 4294967295) (hlm : l.length ≤ maxLen) (ha : 0 ≤ a ∧ a ≤ 65535) (okb : 0 ≤ b ∧ b ≤ 65535) (hq : -9223372036854775808 ≤ q ∧ q ≤ 9223372036854775807) :
    Calls Try.prog 5 #[.agg #[.slice A l.length cap, .int .i64 p], .int .u16 a, .int .u16 b, .int .i64 q] w fun e w' => e = .returned (.bool true) ∧ Below w.heap.size w w' := by
  by_cases h2 : 200 < l.length
  · have bb := Gw.al (Below.refl w.heap.size w) (.cells #[.slice A l.length cap, .int .i64 p] 24)
    go_enter Try.func5, Try.ntmps5
    go_wp2_with fail
    refine (awake_any _).mono ?_
    rintro e w1 ⟨rfl, hb⟩
    have b1 := Gw.call bb hb
    clear hb bb
    go_wp2_with fail
    go_ret
    exact ⟨rfl, b1⟩
  · obtain ⟨i0, hi0, hz0, hz1, hz2⟩ := info_parts Try.infoU32s
    have HL : Hid (l.length ≤ 1000000) := Lib.hid (by omega)
    have HW := Lib.hid hl
    obtain ⟨x, hx⟩ : ∃ x : Nat, a % 501 = x := ⟨(a % 501).toNat, by omega⟩
    obtain ⟨y, hy⟩ : ∃ y : Nat, b % 501 = y := ⟨(b % 501).toNat, by omega⟩
    have hx5 : x ≤ 500 := by omega
    have hy5 : y ≤ 500 := by omega
    clear hl
    obtain ⟨L1, e1⟩ : ∃ L, vals l (plc l p) x = L := ⟨_, rfl⟩
    obtain ⟨P1, f1⟩ : ∃ n, pos l (plc l p) x = n := ⟨_, rfl⟩
    obtain ⟨L2, e2⟩ : ∃ L, vals l P1 y = L := ⟨_, rfl⟩
    obtain ⟨P3, f3⟩ : ∃ n, pos l (plc l p) (x + y) = n := ⟨_, rfl⟩
    obtain ⟨L3, e3⟩ : ∃ L, vals l (plc l p) (x + y) = L := ⟨_, rfl⟩
    obtain ⟨L4, e4⟩ : ∃ L, vals l (plc l p) 1000 = L := ⟨_, rfl⟩
    obtain ⟨Q, f5⟩ : ∃ n, plc l p = n := ⟨_, rfl⟩
    obtain ⟨V, e7⟩ : ∃ n, drawnV l q 1099511627776 = n := ⟨_, rfl⟩
    obtain ⟨P7, f7⟩ : ∃ n, drawnP l q 1099511627776 = n := ⟨_, rfl⟩
    have E1 := Lib.hid (show vals l (plc l p) (cnt (x : Int)) = L1 by rw [cnt_of x (by omega), e1])
    have F1 := Lib.hid (show pos l (plc l p) (cnt (x : Int)) = P1 by rw [cnt_of x (by omega), f1])
    have E2 := Lib.hid (show vals l (plc l (P1 : Int)) (cnt (y : Int)) = L2 by rw [cnt_of y (by omega), ← f1, plc_pos, f1, e2])
    have F2 := Lib.hid (show pos l (plc l (P1 : Int)) (cnt (y : Int)) = P3 by rw [cnt_of y (by omega), ← f1, plc_pos, pos_pos (plc_ok l p), f3])
    have hxy : cnt ((x : Int) + (y : Int)) = x + y := by unfold cnt; omega
    have E3 := Lib.hid (show vals l (plc l p) (cnt ((x : Int) + (y : Int))) = L3 by rw [hxy, e3])
    have F3 := Lib.hid (show pos l (plc l p) (cnt ((x : Int) + (y : Int))) = P3 by rw [hxy, f3])
    have hE : L1 ++ L2 = L3 := by rw [← e1, ← e2, ← e3, ← f1, vals_app (plc_ok l p)]
    have n1 : L1.length = x := by rw [← e1, vals_len]
    have n2 : L2.length = y := by rw [← e2, vals_len]
    have n3 : L3.length = x + y := by rw [← e3, vals_len]
    have m1 : L1.length ≤ 500 := by omega
    have m2 : L2.length ≤ 500 := by omega
    have HE := Lib.hid (show decide (L1 ++ L2 = L3) = true by rw [decide_eq_true hE])
    have HB1 := Lib.hid (show (L1 ++ L2).length ≤ 140737488355328 by simp; omega)
    have HB3 := Lib.hid (show L3.length ≤ 140737488355328 by omega)
    have t3 : ((L3.length : Int) != (x : Int) + (y : Int)) = false := by simp; omega
    have n4 : L4.length = 1000 := by rw [← e4, vals_len]
    have t4 : ((L4.length : Int) != 1000) = false := by simp; omega
    have E4 := Lib.hid (show vals l (plc l p) (cnt 1099511627776) = L4 by rw [show cnt 1099511627776 = 1000 by rfl, e4])
    have c0 : cnt (-(x : Int)) = 0 := by unfold cnt; omega
    have E5 := Lib.hid (show vals l (plc l p) (cnt (-(x : Int))) = [] by rw [c0]; rfl)
    have F5 := Lib.hid (show pos l (plc l p) (cnt (-(x : Int))) = Q by rw [c0, pos_start (plc_ok l p), f5])
    have E6 := Lib.hid (show drawnV l p (-(y : Int)) = 0 by unfold drawnV; rw [if_pos (by omega)])
    have F6 := Lib.hid (show drawnP l p (-(y : Int)) = Q by unfold drawnP; rw [if_pos (by omega), f5])
    have E7 := Lib.hid e7
    have F7 := Lib.hid f7
    have H8 : Hid (¬ (0 ≤ q ∧ q < l.length) → drawnV l 0 1099511627776 = V ∧ drawnP l 0 1099511627776 = P7) := Lib.hid fun h => by
      have : plc l q = plc l 0 := by unfold plc; rw [if_neg h]; split <;> rfl
      rw [← e7, ← f7]
      unfold drawnV drawnP
      rw [this]
      exact ⟨rfl, rfl⟩
    clear e1 f1 e2 f3 e3 e4 f5 e7 f7 hxy hE n1 n2 n3 n4 c0
    go_enter Try.func5, Try.ntmps5
    go_wp2_with fail
    replace hr := (Rd.allocS hr (.cells #[.slice A l.length cap, .int .i64 p] 24))
    have T := (Ob.new w #[.slice A l.length cap, .int .i64 p] 24)
    have bb := (Gw.al (Below.refl w.heap.size w) (.cells #[.slice A l.length cap, .int .i64 p] 24))
    refine (some_any l A cap p x _ hr HL.out HW.out (by omega) (by omega)).mono ?_
    rintro e w1 ⟨D1, d1, A1, k1, rfl, q1, o1, -, hb⟩
    have b1 := Gw.call bb hb
    replace T := T.call hb
    replace hr := Rd.up hr hb
    clear hb bb
    rw [E1.out] at q1 ⊢
    rw [F1.out]
    have c0T := T.blk.2.1 0 _ rfl
    have c1T := T.blk.2.1 1 _ rfl
    have lT := T.lt
    go_wp2_with fail
    clear c0T c1T lT
    replace T := (T.alloc (.cells #[.slice A1 l.length k1, .int .i64 P1] 24))
    replace q1 := (q1.alloc (.cells #[.slice A1 l.length k1, .int .i64 P1] 24))
    replace o1 := (o1.alloc (.cells #[.slice A1 l.length k1, .int .i64 P1] 24))
    replace hr := (Rd.allocS hr (.cells #[.slice A1 l.length k1, .int .i64 P1] 24))
    have X1 := (Ob.new w1 #[.slice A1 l.length k1, .int .i64 P1] 24)
    have bb := (Gw.al b1 (.cells #[.slice A1 l.length k1, .int .i64 P1] 24))
    refine (some_any l A1 k1 P1 y _ (o1.rd (int_len .u32)) HL.out HW.out (by omega) (by omega)).mono ?_
    rintro e w2 ⟨D2, d2, A2, k2, rfl, q2, o2, -, hb⟩
    have b2 := Gw.call bb hb
    replace T := T.call hb
    clear X1
    replace q1 := Own.below q1 hb
    clear o1
    replace hr := Rd.up hr hb
    clear hb bb b1
    rw [E2.out] at q2 ⊢
    rw [F2.out]
    have c0T := T.blk.2.1 0 _ rfl
    have c1T := T.blk.2.1 1 _ rfl
    have lT := T.lt
    go_wp2_with fail
    clear c0T c1T lT
    replace T := (T.alloc (.cells #[.slice A2 l.length k2, .int .i64 P3] 24))
    replace q1 := (q1.alloc (.cells #[.slice A2 l.length k2, .int .i64 P3] 24))
    replace q2 := (q2.alloc (.cells #[.slice A2 l.length k2, .int .i64 P3] 24))
    replace o2 := (o2.alloc (.cells #[.slice A2 l.length k2, .int .i64 P3] 24))
    replace hr := (Rd.allocS hr (.cells #[.slice A2 l.length k2, .int .i64 P3] 24))
    have X2 := (Ob.new w2 #[.slice A2 l.length k2, .int .i64 P3] 24)
    have bb := (Gw.al b2 (.cells #[.slice A2 l.length k2, .int .i64 P3] 24))
    refine (some_any l A cap p ((x : Int) + (y : Int)) _ hr HL.out HW.out (by omega) (by omega)).mono ?_
    rintro e w3 ⟨D3, d3, A3, k3, rfl, q3, o3, -, hb⟩
    have b3 := Gw.call bb hb
    replace T := T.call hb
    replace X2 := X2.call hb
    replace q1 := Own.below q1 hb
    replace q2 := Own.below q2 hb
    replace o2 := Own.below o2 hb
    replace hr := Rd.up hr hb
    clear hb bb b2
    rw [E3.out] at q3 ⊢
    rw [F3.out]
    have c0T := T.blk.2.1 0 _ rfl
    have c1T := T.blk.2.1 1 _ rfl
    have lT := T.lt
    have c0X2 := X2.blk.2.1 0 _ rfl
    have c1X2 := X2.blk.2.1 1 _ rfl
    have lX2 := X2.lt
    go_wp2_with (first | (at_builtin; refine wpList_app _ rfl (.tmp 59) (.tmp 60) _ rfl (w3.heap.size + 1) 34 i0 _ 4 Try.underlying22 hi0 hz0 hz1 hz2 rfl (by omega) (int_len .u32) (int_one .u32) (.slice (some ⟨w3.heap.size + 1, 0, none⟩) 0 0) ([] : List Int) rfl (by have hl := Own.lit (enc := fun z : Int => [Value.int .u32 z]) (sz := 1) (E := 34) (l := []) (w3.alloc (.cells #[.slice A3 l.length k3, .int .i64 P3] 24)) #[] 0 (Nat.le_refl _) (Nat.zero_le _) rfl rfl rfl; simpa only [World.size_alloc] using hl) 0 rfl _ _ _ _ L1 rfl rfl (q1.rd (int_len .u32) |>.up (Gw.al (Gw.al (Below.refl _ _) _) _)) (by omega) (by omega) (by simp only [World.size_alloc]; omega) ?_; intro A5 c5 w5 o5 hg5; rw [Nat.zero_add, List.nil_append] at o5; have h5 : Below (w3.alloc (.cells #[.slice A3 l.length k3, .int .i64 P3] 24)).heap.size (w3.alloc (.cells #[.slice A3 l.length k3, .int .i64 P3] 24)) w5 := Gw.gr (Gw.al (Below.refl _ _) (.cells #[] 34)) hg5 (by intro k hk; have := own_blk hk; simp at this ⊢; omega)) | (at_builtin; refine wpList_app _ rfl (.tmp 61) (.tmp 62) _ rfl (w3.heap.size + 1) 34 i0 _ 4 Try.underlying22 hi0 hz0 hz1 hz2 rfl (by omega) (int_len .u32) (int_one .u32) _ L1 rfl o5 L1.length rfl _ _ _ _ L2 rfl rfl ((q2.rd (int_len .u32)).up (Gw.call (Gw.al (Below.refl _ _) _) h5)) (by omega) (by omega) (by have := h5.size; simp at this; omega) ?_; intro A6 c6 w6 o6 hg6; have h6 := Gw.gr h5 hg6 (fun k hk => by have := Own.lt o5 k hk; simp; omega)) | fail)
    clear c0T c1T lT c0X2 c1X2 lX2
    replace T := (T.alloc (.cells #[.slice A3 l.length k3, .int .i64 P3] 24))
    replace X2 := (X2.alloc (.cells #[.slice A3 l.length k3, .int .i64 P3] 24))
    replace q1 := (q1.alloc (.cells #[.slice A3 l.length k3, .int .i64 P3] 24))
    replace q2 := (q2.alloc (.cells #[.slice A3 l.length k3, .int .i64 P3] 24))
    replace o2 := (o2.alloc (.cells #[.slice A3 l.length k3, .int .i64 P3] 24))
    replace q3 := (q3.alloc (.cells #[.slice A3 l.length k3, .int .i64 P3] 24))
    replace o3 := (o3.alloc (.cells #[.slice A3 l.length k3, .int .i64 P3] 24))
    replace hr := (Rd.allocS hr (.cells #[.slice A3 l.length k3, .int .i64 P3] 24))
    have X3 := (Ob.new w3 #[.slice A3 l.length k3, .int .i64 P3] 24)
    have bb := (Gw.al b3 (.cells #[.slice A3 l.length k3, .int .i64 P3] 24))
    have hb := h6
    clear h5 h6 hg5 hg6 o5
    have b4 := Gw.call bb hb
    replace T := T.call hb
    replace X2 := X2.call hb
    replace X3 := X3.call hb
    clear q1
    clear q2
    replace o2 := Own.below o2 hb
    replace q3 := Own.below q3 hb
    replace o3 := Own.below o3 hb
    replace hr := Rd.up hr hb
    clear hb bb b3
    have c0T := T.blk.2.1 0 _ rfl
    have c1T := T.blk.2.1 1 _ rfl
    have lT := T.lt
    have c0X2 := X2.blk.2.1 0 _ rfl
    have c1X2 := X2.blk.2.1 1 _ rfl
    have lX2 := X2.lt
    have c0X3 := X3.blk.2.1 0 _ rfl
    have c1X3 := X3.blk.2.1 1 _ rfl
    have lX3 := X3.lt
    skip
    clear c0T c1T lT c0X2 c1X2 lX2 c0X3 c1X3 lX3
    have bb := b4
    refine (nums_any (L1 ++ L2) L3 A6 D3 _ _ c6 d3 _ (o6.rd (int_len .u32)) (q3.rd (int_len .u32)) (by simp) rfl HB1.out HB3.out).mono ?_
    rintro e w5 ⟨rfl, hb⟩
    have b5 := Gw.call bb hb
    replace T := T.call hb
    replace X2 := X2.call hb
    replace X3 := X3.call hb
    replace o2 := Own.below o2 hb
    replace q3 := Own.below q3 hb
    replace o3 := Own.below o3 hb
    clear o6
    replace hr := Rd.up hr hb
    clear hb bb b4
    rw [HE.out]
    have c0T := T.blk.2.1 0 _ rfl
    have c1T := T.blk.2.1 1 _ rfl
    have lT := T.lt
    have c0X2 := X2.blk.2.1 0 _ rfl
    have c1X2 := X2.blk.2.1 1 _ rfl
    have lX2 := X2.lt
    have c0X3 := X3.blk.2.1 0 _ rfl
    have c1X3 := X3.blk.2.1 1 _ rfl
    have lX3 := X3.lt
    go_wp2_with fail
    clear c0T c1T lT c0X2 c1X2 lX2 c0X3 c1X3 lX3
    have bb := b5
    refine (tsame_any l l A2 A3 l.length l.length k2 k3 _ _ (o2.rd (int_len .u32)) (o3.rd (int_len .u32)) rfl rfl (by have := HL.out; omega) (by have := HL.out; omega)).mono ?_
    rintro e w6 ⟨rfl, hb⟩
    have b6 := Gw.call bb hb
    replace T := T.call hb
    clear X2
    clear X3
    clear o2
    clear q3
    clear o3
    replace hr := Rd.up hr hb
    clear hb bb b5
    rw [decide_eq_true rfl]
    have c0T := T.blk.2.1 0 _ rfl
    have c1T := T.blk.2.1 1 _ rfl
    have lT := T.lt
    go_wp2_with fail
    clear c0T c1T lT
    have bb := b6
    refine (some_any l A cap p 1099511627776 _ hr HL.out HW.out (by omega) (by omega)).mono ?_
    rintro e w7 ⟨D4, d4, A4, k4, rfl, -, -, -, hb⟩
    have b7 := Gw.call bb hb
    replace T := T.call hb
    replace hr := Rd.up hr hb
    clear hb bb b6
    rw [E4.out]
    have c0T := T.blk.2.1 0 _ rfl
    have c1T := T.blk.2.1 1 _ rfl
    have lT := T.lt
    go_wp2_with fail
    clear c0T c1T lT
    replace T := (T.alloc (.cells #[.slice A4 l.length k4, .int .i64 (pos l (plc l p) (cnt 1099511627776))] 24))
    replace hr := (Rd.allocS hr (.cells #[.slice A4 l.length k4, .int .i64 (pos l (plc l p) (cnt 1099511627776))] 24))
    have bb := (Gw.al b7 (.cells #[.slice A4 l.length k4, .int .i64 (pos l (plc l p) (cnt 1099511627776))] 24))
    refine (some_any l A cap p (-(x : Int)) _ hr HL.out HW.out (by omega) (by omega)).mono ?_
    rintro e w8 ⟨D5, d5, A7, k7, rfl, -, o7, -, hb⟩
    have b8 := Gw.call bb hb
    replace T := T.call hb
    replace hr := Rd.up hr hb
    clear hb bb b7
    rw [E5.out, F5.out]
    have c0T := T.blk.2.1 0 _ rfl
    have c1T := T.blk.2.1 1 _ rfl
    have lT := T.lt
    go_wp2_with fail
    clear c0T c1T lT
    replace T := (T.alloc (.cells #[.slice A7 l.length k7, .int .i64 Q] 24))
    replace o7 := (o7.alloc (.cells #[.slice A7 l.length k7, .int .i64 Q] 24))
    replace hr := (Rd.allocS hr (.cells #[.slice A7 l.length k7, .int .i64 Q] 24))
    have X7 := (Ob.new w8 #[.slice A7 l.length k7, .int .i64 Q] 24)
    have bb := (Gw.al b8 (.cells #[.slice A7 l.length k7, .int .i64 Q] 24))
    refine (draw_any l A cap p (-(y : Int)) _ hr HL.out HW.out (by omega)).mono ?_
    rintro e w9 ⟨A8, k8, rfl, o8, hb⟩
    have b9 := Gw.call bb hb
    replace T := T.call hb
    replace X7 := X7.call hb
    replace o7 := Own.below o7 hb
    replace hr := Rd.up hr hb
    clear hb bb b8
    rw [E6.out, F6.out]
    have c0T := T.blk.2.1 0 _ rfl
    have c1T := T.blk.2.1 1 _ rfl
    have lT := T.lt
    have c0X7 := X7.blk.2.1 0 _ rfl
    have c1X7 := X7.blk.2.1 1 _ rfl
    have lX7 := X7.lt
    go_wp2_with fail
    clear c0T c1T lT c0X7 c1X7 lX7
    replace T := (T.alloc (.cells #[.slice A8 l.length k8, .int .i64 Q] 24))
    replace X7 := (X7.alloc (.cells #[.slice A8 l.length k8, .int .i64 Q] 24))
    replace o7 := (o7.alloc (.cells #[.slice A8 l.length k8, .int .i64 Q] 24))
    replace o8 := (o8.alloc (.cells #[.slice A8 l.length k8, .int .i64 Q] 24))
    replace hr := (Rd.allocS hr (.cells #[.slice A8 l.length k8, .int .i64 Q] 24))
    have X8 := (Ob.new w9 #[.slice A8 l.length k8, .int .i64 Q] 24)
    have bb := (Gw.al b9 (.cells #[.slice A8 l.length k8, .int .i64 Q] 24))
    refine (tsame_any l l A7 A8 l.length l.length k7 k8 _ _ (o7.rd (int_len .u32)) (o8.rd (int_len .u32)) rfl rfl (by have := HL.out; omega) (by have := HL.out; omega)).mono ?_
    rintro e w10 ⟨rfl, hb⟩
    have b10 := Gw.call bb hb
    replace T := T.call hb
    replace X7 := X7.call hb
    clear X8
    replace o7 := Own.below o7 hb
    clear o8
    replace hr := Rd.up hr hb
    clear hb bb b9
    rw [decide_eq_true rfl]
    have c0T := T.blk.2.1 0 _ rfl
    have c1T := T.blk.2.1 1 _ rfl
    have lT := T.lt
    have c0X7 := X7.blk.2.1 0 _ rfl
    have c1X7 := X7.blk.2.1 1 _ rfl
    have lX7 := X7.lt
    go_wp2_with fail
    clear c0T c1T lT c0X7 c1X7 lX7
    have bb := b10
    refine (nums_any l l A7 A _ _ k7 cap _ (o7.rd (int_len .u32)) hr rfl rfl (by have := HL.out; omega) (by have := HL.out; omega)).mono ?_
    rintro e w11 ⟨rfl, hb⟩
    have b11 := Gw.call bb hb
    replace T := T.call hb
    replace X7 := X7.call hb
    clear o7
    replace hr := Rd.up hr hb
    clear hb bb b10
    rw [decide_eq_true rfl]
    have c0T := T.blk.2.1 0 _ rfl
    have c1T := T.blk.2.1 1 _ rfl
    have lT := T.lt
    have c0X7 := X7.blk.2.1 0 _ rfl
    have c1X7 := X7.blk.2.1 1 _ rfl
    have lX7 := X7.lt
    by_cases hc : 0 ≤ q ∧ q < l.length
    · obtain ⟨hc1, hc2⟩ := hc
      skip
      go_wp2_with fail
      clear c0T c1T lT c0X7 c1X7 lX7
      replace T := (T.alloc (.cells #[.slice A l.length cap, .int .i64 q] 24))
      replace X7 := (X7.alloc (.cells #[.slice A l.length cap, .int .i64 q] 24))
      replace hr := (Rd.allocS hr (.cells #[.slice A l.length cap, .int .i64 q] 24))
      have FB := (Ob.new w11 #[.slice A l.length cap, .int .i64 q] 24)
      have bb := (Gw.al b11 (.cells #[.slice A l.length cap, .int .i64 q] 24))
      refine (draw_any l A cap q 1099511627776 _ hr HL.out HW.out (by omega)).mono ?_
      rintro e w12 ⟨A9, k9, rfl, o9, hb⟩
      have b12 := Gw.call bb hb
      clear T
      clear X7
      replace FB := FB.call hb
      replace hr := Rd.up hr hb
      clear hb bb b11
      rw [E7.out, F7.out]
      have c0FB := FB.blk.2.1 0 _ rfl
      have c1FB := FB.blk.2.1 1 _ rfl
      have lFB := FB.lt
      go_wp2_with fail
      clear c0FB c1FB lFB
      replace FB := (FB.alloc (.cells #[.slice A9 l.length k9, .int .i64 P7] 24))
      replace o9 := (o9.alloc (.cells #[.slice A9 l.length k9, .int .i64 P7] 24))
      replace hr := (Rd.allocS hr (.cells #[.slice A9 l.length k9, .int .i64 P7] 24))
      have X9 := (Ob.new w12 #[.slice A9 l.length k9, .int .i64 P7] 24)
      have bb := (Gw.al b12 (.cells #[.slice A9 l.length k9, .int .i64 P7] 24))
      refine (draw_any l A cap q 1099511627776 _ hr HL.out HW.out (by omega)).mono ?_
      rintro e w13 ⟨AA, kA, rfl, oA, hb⟩
      have b13 := Gw.call bb hb
      clear FB
      replace X9 := X9.call hb
      replace o9 := Own.below o9 hb
      replace hr := Rd.up hr hb
      clear hb bb b12
      rw [E7.out, F7.out]
      have c0X9 := X9.blk.2.1 0 _ rfl
      have c1X9 := X9.blk.2.1 1 _ rfl
      have lX9 := X9.lt
      go_wp2_with fail
      clear c0X9 c1X9 lX9
      replace X9 := (X9.alloc (.cells #[.slice AA l.length kA, .int .i64 P7] 24))
      replace o9 := (o9.alloc (.cells #[.slice AA l.length kA, .int .i64 P7] 24))
      replace oA := (oA.alloc (.cells #[.slice AA l.length kA, .int .i64 P7] 24))
      replace hr := (Rd.allocS hr (.cells #[.slice AA l.length kA, .int .i64 P7] 24))
      have XA := (Ob.new w13 #[.slice AA l.length kA, .int .i64 P7] 24)
      have bb := (Gw.al b13 (.cells #[.slice AA l.length kA, .int .i64 P7] 24))
      refine (tsame_any l l A9 AA l.length l.length k9 kA _ _ (o9.rd (int_len .u32)) (oA.rd (int_len .u32)) rfl rfl (by have := HL.out; omega) (by have := HL.out; omega)).mono ?_
      rintro e w14 ⟨rfl, hb⟩
      have b14 := Gw.call bb hb
      clear X9
      clear XA
      clear o9
      clear oA
      replace hr := Rd.up hr hb
      clear hb bb b13
      rw [decide_eq_true rfl]
      go_wp2_with fail
      have bb := b14
      refine (awake_any _).mono ?_
      rintro e w15 ⟨rfl, hb⟩
      have b15 := Gw.call bb hb
      replace hr := Rd.up hr hb
      clear hb bb b14
      go_wp2_with fail
      go_ret
      exact ⟨rfl, b15⟩
    · obtain ⟨e8, f8⟩ := H8.out hc
      have E8 := Lib.hid e8
      have F8 := Lib.hid f8
      clear e8 f8 H8
      have hc0 : (decide (0 ≤ q) && decide (q < (l.length : Int))) = false := by rw [Bool.and_eq_false_iff, decide_eq_false_iff_not, decide_eq_false_iff_not]; omega
      by_cases hc1 : 0 ≤ q
      · have hc2 : ¬ q < (l.length : Int) := fun h => hc ⟨hc1, h⟩
        clear hc hc0
        skip
        go_wp2_with fail
        clear c0T c1T lT c0X7 c1X7 lX7
        replace T := (T.alloc (.cells #[.slice A l.length cap, .int .i64 0] 24))
        replace X7 := (X7.alloc (.cells #[.slice A l.length cap, .int .i64 0] 24))
        replace hr := (Rd.allocS hr (.cells #[.slice A l.length cap, .int .i64 0] 24))
        have FB := (Ob.new w11 #[.slice A l.length cap, .int .i64 0] 24)
        have bb := (Gw.al b11 (.cells #[.slice A l.length cap, .int .i64 0] 24))
        refine (draw_any l A cap q 1099511627776 _ hr HL.out HW.out (by omega)).mono ?_
        rintro e w12 ⟨A9, k9, rfl, o9, hb⟩
        have b12 := Gw.call bb hb
        clear T
        clear X7
        replace FB := FB.call hb
        replace hr := Rd.up hr hb
        clear hb bb b11
        rw [E7.out, F7.out]
        have c0FB := FB.blk.2.1 0 _ rfl
        have c1FB := FB.blk.2.1 1 _ rfl
        have lFB := FB.lt
        go_wp2_with fail
        clear c0FB c1FB lFB
        replace FB := (FB.alloc (.cells #[.slice A9 l.length k9, .int .i64 P7] 24))
        replace o9 := (o9.alloc (.cells #[.slice A9 l.length k9, .int .i64 P7] 24))
        replace hr := (Rd.allocS hr (.cells #[.slice A9 l.length k9, .int .i64 P7] 24))
        have X9 := (Ob.new w12 #[.slice A9 l.length k9, .int .i64 P7] 24)
        have bb := (Gw.al b12 (.cells #[.slice A9 l.length k9, .int .i64 P7] 24))
        refine (draw_any l A cap 0 1099511627776 _ hr HL.out HW.out (by omega)).mono ?_
        rintro e w13 ⟨AA, kA, rfl, oA, hb⟩
        have b13 := Gw.call bb hb
        clear FB
        replace X9 := X9.call hb
        replace o9 := Own.below o9 hb
        replace hr := Rd.up hr hb
        clear hb bb b12
        rw [E8.out, F8.out]
        have c0X9 := X9.blk.2.1 0 _ rfl
        have c1X9 := X9.blk.2.1 1 _ rfl
        have lX9 := X9.lt
        go_wp2_with fail
        clear c0X9 c1X9 lX9
        replace X9 := (X9.alloc (.cells #[.slice AA l.length kA, .int .i64 P7] 24))
        replace o9 := (o9.alloc (.cells #[.slice AA l.length kA, .int .i64 P7] 24))
        replace oA := (oA.alloc (.cells #[.slice AA l.length kA, .int .i64 P7] 24))
        replace hr := (Rd.allocS hr (.cells #[.slice AA l.length kA, .int .i64 P7] 24))
        have XA := (Ob.new w13 #[.slice AA l.length kA, .int .i64 P7] 24)
        have bb := (Gw.al b13 (.cells #[.slice AA l.length kA, .int .i64 P7] 24))
        refine (tsame_any l l A9 AA l.length l.length k9 kA _ _ (o9.rd (int_len .u32)) (oA.rd (int_len .u32)) rfl rfl (by have := HL.out; omega) (by have := HL.out; omega)).mono ?_
        rintro e w14 ⟨rfl, hb⟩
        have b14 := Gw.call bb hb
        clear X9
        clear XA
        clear o9
        clear oA
        replace hr := Rd.up hr hb
        clear hb bb b13
        rw [decide_eq_true rfl]
        go_wp2_with fail
        have bb := b14
        refine (awake_any _).mono ?_
        rintro e w15 ⟨rfl, hb⟩
        have b15 := Gw.call bb hb
        replace hr := Rd.up hr hb
        clear hb bb b14
        go_wp2_with fail
        go_ret
        exact ⟨rfl, b15⟩
      · clear hc hc0
        skip
        go_wp2_with fail
        clear c0T c1T lT c0X7 c1X7 lX7
        replace T := (T.alloc (.cells #[.slice A l.length cap, .int .i64 0] 24))
        replace X7 := (X7.alloc (.cells #[.slice A l.length cap, .int .i64 0] 24))
        replace hr := (Rd.allocS hr (.cells #[.slice A l.length cap, .int .i64 0] 24))
        have FB := (Ob.new w11 #[.slice A l.length cap, .int .i64 0] 24)
        have bb := (Gw.al b11 (.cells #[.slice A l.length cap, .int .i64 0] 24))
        refine (draw_any l A cap q 1099511627776 _ hr HL.out HW.out (by omega)).mono ?_
        rintro e w12 ⟨A9, k9, rfl, o9, hb⟩
        have b12 := Gw.call bb hb
        clear T
        clear X7
        replace FB := FB.call hb
        replace hr := Rd.up hr hb
        clear hb bb b11
        rw [E7.out, F7.out]
        have c0FB := FB.blk.2.1 0 _ rfl
        have c1FB := FB.blk.2.1 1 _ rfl
        have lFB := FB.lt
        go_wp2_with fail
        clear c0FB c1FB lFB
        replace FB := (FB.alloc (.cells #[.slice A9 l.length k9, .int .i64 P7] 24))
        replace o9 := (o9.alloc (.cells #[.slice A9 l.length k9, .int .i64 P7] 24))
        replace hr := (Rd.allocS hr (.cells #[.slice A9 l.length k9, .int .i64 P7] 24))
        have X9 := (Ob.new w12 #[.slice A9 l.length k9, .int .i64 P7] 24)
        have bb := (Gw.al b12 (.cells #[.slice A9 l.length k9, .int .i64 P7] 24))
        refine (draw_any l A cap 0 1099511627776 _ hr HL.out HW.out (by omega)).mono ?_
        rintro e w13 ⟨AA, kA, rfl, oA, hb⟩
        have b13 := Gw.call bb hb
        clear FB
        replace X9 := X9.call hb
        replace o9 := Own.below o9 hb
        replace hr := Rd.up hr hb
        clear hb bb b12
        rw [E8.out, F8.out]
        have c0X9 := X9.blk.2.1 0 _ rfl
        have c1X9 := X9.blk.2.1 1 _ rfl
        have lX9 := X9.lt
        go_wp2_with fail
        clear c0X9 c1X9 lX9
        replace X9 := (X9.alloc (.cells #[.slice AA l.length kA, .int .i64 P7] 24))
        replace o9 := (o9.alloc (.cells #[.slice AA l.length kA, .int .i64 P7] 24))
        replace oA := (oA.alloc (.cells #[.slice AA l.length kA, .int .i64 P7] 24))
        replace hr := (Rd.allocS hr (.cells #[.slice AA l.length kA, .int .i64 P7] 24))
        have XA := (Ob.new w13 #[.slice AA l.length kA, .int .i64 P7] 24)
        have bb := (Gw.al b13 (.cells #[.slice AA l.length kA, .int .i64 P7] 24))
        refine (tsame_any l l A9 AA l.length l.length k9 kA _ _ (o9.rd (int_len .u32)) (oA.rd (int_len .u32)) rfl rfl (by have := HL.out; omega) (by have := HL.out; omega)).mono ?_
        rintro e w14 ⟨rfl, hb⟩
        have b14 := Gw.call bb hb
        clear X9
        clear XA
        clear o9
        clear oA
        replace hr := Rd.up hr hb
        clear hb bb b13
        rw [decide_eq_true rfl]
        go_wp2_with fail
        have bb := b14
        refine (awake_any _).mono ?_
        rintro e w15 ⟨rfl, hb⟩
        have b15 := Gw.call bb hb
        replace hr := Rd.up hr hb
        clear hb bb b14
        go_wp2_with fail
        go_ret
        exact ⟨rfl, b15⟩
end Go.Proofs.Ytbdipaooekiofaa
