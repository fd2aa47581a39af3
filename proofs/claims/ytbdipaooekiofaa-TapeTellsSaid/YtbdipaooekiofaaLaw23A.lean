/-
  TapeTells: the chapter's answer is the document's (23).
-/
import Derived.Test.YtbdipaooekiofaaRef23
namespace Go.Proofs.Ytbdipaooekiofaa
open Go.RowKit
set_option maxRecDepth 100000 in
set_option maxHeartbeats 4000000 in
theorem tells_any (l : List Int) (A : Option Addr) (cap : Nat) (p n m : Int) (w : World) (hr : Rd (fun z : Int => [Value.int .u32 z]) 1 w.heap.size w A l) (hl : ∀ x ∈ l, 0 ≤ x ∧ x ≤ 4294967295) (hlm : l.length ≤ maxLen) (hn2 : n ≤ 9223372036854775807) (hm2 : m ≤ 9223372036854775807) (hm3 : -9223372036854775808 ≤ m) :
    Calls Try.prog 3 #[.agg #[.slice A l.length cap, .int .i64 p], .int .i64 n, .int .i64 m] w fun e w' => e = .returned (.bool true) ∧ Below w.heap.size w w' := by
  by_cases h2 : 200 < l.length
  · have bb := Gw.al (Below.refl w.heap.size w) (.cells #[.slice A l.length cap, .int .i64 p] 24)
    go_enter Try.func3, Try.ntmps3
    go_wp2_with fail
    refine (awake_any _).mono ?_
    rintro e w1 ⟨rfl, hb⟩
    have b1 := Gw.call bb hb
    clear hb bb
    go_wp2_with fail
    go_ret
    exact ⟨rfl, b1⟩
  · have HL : Hid (l.length ≤ 1000000) := Lib.hid (by omega)
    have HW := Lib.hid hl
    have HV : Hid ((vals l (plc l p) (cnt m)).length ≤ 140737488355328) := Lib.hid (by rw [vals_len]; unfold cnt; omega)
    clear hl
    go_enter Try.func3, Try.ntmps3
    go_wp2_with fail
    replace hr := (Rd.allocS hr (.cells #[.slice A l.length cap, .int .i64 p] 24))
    have T := (Ob.new w #[.slice A l.length cap, .int .i64 p] 24)
    have bb := (Gw.al (Below.refl w.heap.size w) (.cells #[.slice A l.length cap, .int .i64 p] 24))
    refine (draw_any l A cap p n _ hr HL.out HW.out hn2).mono ?_
    rintro e w1 ⟨A1, k1, rfl, o1, hb⟩
    have b1 := Gw.call bb hb
    replace T := T.call hb
    replace hr := Rd.up hr hb
    clear hb bb
    have c0T := T.blk.2.1 0 _ rfl
    have c1T := T.blk.2.1 1 _ rfl
    have lT := T.lt
    go_wp2_with fail
    clear c0T c1T lT
    replace T := (T.alloc (.cells #[.slice A1 l.length k1, .int .i64 (drawnP l p n)] 24))
    replace o1 := (o1.alloc (.cells #[.slice A1 l.length k1, .int .i64 (drawnP l p n)] 24))
    replace hr := (Rd.allocS hr (.cells #[.slice A1 l.length k1, .int .i64 (drawnP l p n)] 24))
    have X1 := (Ob.new w1 #[.slice A1 l.length k1, .int .i64 (drawnP l p n)] 24)
    have bb := (Gw.al b1 (.cells #[.slice A1 l.length k1, .int .i64 (drawnP l p n)] 24))
    refine (rdraw_any l A cap p n _ hr HL.out HW.out hn2).mono ?_
    rintro e w2 ⟨A2, k2, rfl, o2, hb⟩
    have b2 := Gw.call bb hb
    replace T := T.call hb
    replace X1 := X1.call hb
    replace o1 := Own.below o1 hb
    replace hr := Rd.up hr hb
    clear hb bb b1
    have c0T := T.blk.2.1 0 _ rfl
    have c1T := T.blk.2.1 1 _ rfl
    have lT := T.lt
    have c0X1 := X1.blk.2.1 0 _ rfl
    have c1X1 := X1.blk.2.1 1 _ rfl
    have lX1 := X1.lt
    go_wp2_with fail
    clear c0T c1T lT c0X1 c1X1 lX1
    replace T := (T.alloc (.cells #[.slice A2 l.length k2, .int .i64 (drawnP l p n)] 24))
    replace X1 := (X1.alloc (.cells #[.slice A2 l.length k2, .int .i64 (drawnP l p n)] 24))
    replace o1 := (o1.alloc (.cells #[.slice A2 l.length k2, .int .i64 (drawnP l p n)] 24))
    replace o2 := (o2.alloc (.cells #[.slice A2 l.length k2, .int .i64 (drawnP l p n)] 24))
    replace hr := (Rd.allocS hr (.cells #[.slice A2 l.length k2, .int .i64 (drawnP l p n)] 24))
    have X2 := (Ob.new w2 #[.slice A2 l.length k2, .int .i64 (drawnP l p n)] 24)
    have bb := (Gw.al b2 (.cells #[.slice A2 l.length k2, .int .i64 (drawnP l p n)] 24))
    refine (some_any l A cap p m _ hr HL.out HW.out hm2 hm3).mono ?_
    rintro e w3 ⟨D3, d3, A3, k3, rfl, q3, o3, -, hb⟩
    have b3 := Gw.call bb hb
    replace T := T.call hb
    replace X1 := X1.call hb
    replace X2 := X2.call hb
    replace o1 := Own.below o1 hb
    replace o2 := Own.below o2 hb
    replace hr := Rd.up hr hb
    clear hb bb b2
    have c0T := T.blk.2.1 0 _ rfl
    have c1T := T.blk.2.1 1 _ rfl
    have lT := T.lt
    have c0X1 := X1.blk.2.1 0 _ rfl
    have c1X1 := X1.blk.2.1 1 _ rfl
    have lX1 := X1.lt
    have c0X2 := X2.blk.2.1 0 _ rfl
    have c1X2 := X2.blk.2.1 1 _ rfl
    have lX2 := X2.lt
    go_wp2_with fail
    clear c0T c1T lT c0X1 c1X1 lX1 c0X2 c1X2 lX2
    replace T := (T.alloc (.cells #[.slice A3 l.length k3, .int .i64 (pos l (plc l p) (cnt m))] 24))
    replace X1 := (X1.alloc (.cells #[.slice A3 l.length k3, .int .i64 (pos l (plc l p) (cnt m))] 24))
    replace X2 := (X2.alloc (.cells #[.slice A3 l.length k3, .int .i64 (pos l (plc l p) (cnt m))] 24))
    replace o1 := (o1.alloc (.cells #[.slice A3 l.length k3, .int .i64 (pos l (plc l p) (cnt m))] 24))
    replace o2 := (o2.alloc (.cells #[.slice A3 l.length k3, .int .i64 (pos l (plc l p) (cnt m))] 24))
    replace o3 := (o3.alloc (.cells #[.slice A3 l.length k3, .int .i64 (pos l (plc l p) (cnt m))] 24))
    replace q3 := (q3.alloc (.cells #[.slice A3 l.length k3, .int .i64 (pos l (plc l p) (cnt m))] 24))
    replace hr := (Rd.allocS hr (.cells #[.slice A3 l.length k3, .int .i64 (pos l (plc l p) (cnt m))] 24))
    have X3 := (Ob.new w3 #[.slice A3 l.length k3, .int .i64 (pos l (plc l p) (cnt m))] 24)
    have bb := (Gw.al b3 (.cells #[.slice A3 l.length k3, .int .i64 (pos l (plc l p) (cnt m))] 24))
    refine (rsome_any l A cap p m _ hr HL.out HW.out hm2).mono ?_
    rintro e w4 ⟨D4, d4, A4, k4, rfl, q4, o4, -, hb⟩
    have b4 := Gw.call bb hb
    replace T := T.call hb
    replace X1 := X1.call hb
    replace X2 := X2.call hb
    replace X3 := X3.call hb
    replace o1 := Own.below o1 hb
    replace o2 := Own.below o2 hb
    replace o3 := Own.below o3 hb
    replace q3 := Own.below q3 hb
    replace hr := Rd.up hr hb
    clear hb bb b3
    have c0T := T.blk.2.1 0 _ rfl
    have c1T := T.blk.2.1 1 _ rfl
    have lT := T.lt
    have c0X1 := X1.blk.2.1 0 _ rfl
    have c1X1 := X1.blk.2.1 1 _ rfl
    have lX1 := X1.lt
    have c0X2 := X2.blk.2.1 0 _ rfl
    have c1X2 := X2.blk.2.1 1 _ rfl
    have lX2 := X2.lt
    have c0X3 := X3.blk.2.1 0 _ rfl
    have c1X3 := X3.blk.2.1 1 _ rfl
    have lX3 := X3.lt
    go_wp2_with fail
    clear c0T c1T lT c0X1 c1X1 lX1 c0X2 c1X2 lX2 c0X3 c1X3 lX3
    replace T := (T.alloc (.cells #[.slice A4 l.length k4, .int .i64 (pos l (plc l p) (cnt m))] 24))
    replace X1 := (X1.alloc (.cells #[.slice A4 l.length k4, .int .i64 (pos l (plc l p) (cnt m))] 24))
    replace X2 := (X2.alloc (.cells #[.slice A4 l.length k4, .int .i64 (pos l (plc l p) (cnt m))] 24))
    replace X3 := (X3.alloc (.cells #[.slice A4 l.length k4, .int .i64 (pos l (plc l p) (cnt m))] 24))
    replace o1 := (o1.alloc (.cells #[.slice A4 l.length k4, .int .i64 (pos l (plc l p) (cnt m))] 24))
    replace o2 := (o2.alloc (.cells #[.slice A4 l.length k4, .int .i64 (pos l (plc l p) (cnt m))] 24))
    replace o3 := (o3.alloc (.cells #[.slice A4 l.length k4, .int .i64 (pos l (plc l p) (cnt m))] 24))
    replace q3 := (q3.alloc (.cells #[.slice A4 l.length k4, .int .i64 (pos l (plc l p) (cnt m))] 24))
    replace o4 := (o4.alloc (.cells #[.slice A4 l.length k4, .int .i64 (pos l (plc l p) (cnt m))] 24))
    replace q4 := (q4.alloc (.cells #[.slice A4 l.length k4, .int .i64 (pos l (plc l p) (cnt m))] 24))
    replace hr := (Rd.allocS hr (.cells #[.slice A4 l.length k4, .int .i64 (pos l (plc l p) (cnt m))] 24))
    have X4 := (Ob.new w4 #[.slice A4 l.length k4, .int .i64 (pos l (plc l p) (cnt m))] 24)
    have bb := (Gw.al b4 (.cells #[.slice A4 l.length k4, .int .i64 (pos l (plc l p) (cnt m))] 24))
    refine (tsame_any l l A1 A2 l.length l.length k1 k2 _ _ (o1.rd (int_len .u32)) (o2.rd (int_len .u32)) rfl rfl (by have := HL.out; omega) (by have := HL.out; omega)).mono ?_
    rintro e w5 ⟨rfl, hb⟩
    have b5 := Gw.call bb hb
    replace T := T.call hb
    clear X1
    clear X2
    replace X3 := X3.call hb
    replace X4 := X4.call hb
    clear o1
    clear o2
    replace o3 := Own.below o3 hb
    replace q3 := Own.below q3 hb
    replace o4 := Own.below o4 hb
    replace q4 := Own.below q4 hb
    replace hr := Rd.up hr hb
    clear hb bb b4
    rw [decide_eq_true rfl]
    have c0T := T.blk.2.1 0 _ rfl
    have c1T := T.blk.2.1 1 _ rfl
    have lT := T.lt
    have c0X3 := X3.blk.2.1 0 _ rfl
    have c1X3 := X3.blk.2.1 1 _ rfl
    have lX3 := X3.lt
    have c0X4 := X4.blk.2.1 0 _ rfl
    have c1X4 := X4.blk.2.1 1 _ rfl
    have lX4 := X4.lt
    go_wp2_with fail
    clear c0T c1T lT c0X3 c1X3 lX3 c0X4 c1X4 lX4
    have bb := b5
    refine (nums_any _ _ D3 D4 _ _ d3 d4 _ (q3.rd (int_len .u32)) (q4.rd (int_len .u32)) rfl rfl HV.out HV.out).mono ?_
    rintro e w6 ⟨rfl, hb⟩
    have b6 := Gw.call bb hb
    replace T := T.call hb
    replace X3 := X3.call hb
    replace X4 := X4.call hb
    replace o3 := Own.below o3 hb
    clear q3
    replace o4 := Own.below o4 hb
    clear q4
    replace hr := Rd.up hr hb
    clear hb bb b5
    rw [decide_eq_true rfl]
    have c0T := T.blk.2.1 0 _ rfl
    have c1T := T.blk.2.1 1 _ rfl
    have lT := T.lt
    have c0X3 := X3.blk.2.1 0 _ rfl
    have c1X3 := X3.blk.2.1 1 _ rfl
    have lX3 := X3.lt
    have c0X4 := X4.blk.2.1 0 _ rfl
    have c1X4 := X4.blk.2.1 1 _ rfl
    have lX4 := X4.lt
    go_wp2_with fail
    clear c0T c1T lT c0X3 c1X3 lX3 c0X4 c1X4 lX4
    have bb := b6
    refine (tsame_any l l A3 A4 l.length l.length k3 k4 _ _ (o3.rd (int_len .u32)) (o4.rd (int_len .u32)) rfl rfl (by have := HL.out; omega) (by have := HL.out; omega)).mono ?_
    rintro e w7 ⟨rfl, hb⟩
    have b7 := Gw.call bb hb
    clear T
    clear X3
    clear X4
    clear o3
    clear o4
    replace hr := Rd.up hr hb
    clear hb bb b6
    rw [decide_eq_true rfl]
    go_wp2_with fail
    have bb := b7
    refine (awake_any _).mono ?_
    rintro e w8 ⟨rfl, hb⟩
    have b8 := Gw.call bb hb
    replace hr := Rd.up hr hb
    clear hb bb b7
    go_wp2_with fail
    go_ret
    exact ⟨rfl, b8⟩
end Go.Proofs.Ytbdipaooekiofaa
