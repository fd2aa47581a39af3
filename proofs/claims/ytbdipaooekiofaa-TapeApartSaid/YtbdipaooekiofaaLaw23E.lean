/-
  TapeApart: a tape that is told is nobody else's (23).
-/
import Derived.Test.YtbdipaooekiofaaRef23
namespace Go.Proofs.Ytbdipaooekiofaa
open Go.RowKit
/-- a block of whole numbers of 32 bits -/
def IRow (W : World) (g n : Nat) : Prop := ∃ cs : Array Value, Ob W g cs 34 ∧ n ≤ cs.size ∧ ∀ j, j < n → ∃ x, cs[j]? = some (.int .u32 x)
section
variable {W W' : World} {g n : Nat}
theorem IRow.lt (h : IRow W g n) : g < W.heap.size := by obtain ⟨cs, h, _⟩ := h; exact h.lt
theorem IRow.alloc (h : IRow W g n) (o : Obj) : IRow (W.alloc o) g n := by obtain ⟨cs, h, h2⟩ := h; exact ⟨cs, h.alloc o, h2⟩
theorem IRow.call (h : IRow W g n) (hb : Below W.heap.size W W') : IRow W' g n := by obtain ⟨cs, h, h2⟩ := h; exact ⟨cs, h.call hb, h2⟩
theorem IRow.drew (h : IRow W g n) : IRow W.drew g n := h
theorem IRow.far (h : IRow W g n) {p j : Nat} (hne : g ≠ p) (u : Value) : IRow (W.setCell ⟨p, j, none⟩ u) g n := by obtain ⟨cs, h, h2⟩ := h; exact ⟨cs, h.far hne u, h2⟩
theorem IRow.set (h : IRow W g n) (j : Nat) (y : Int) : IRow (W.setCell ⟨g, j, none⟩ (.int .u32 y)) g n := by
  obtain ⟨cs, h, h2, h3⟩ := h
  refine ⟨_, h.set j _, by simpa using h2, fun i hi => ?_⟩
  obtain ⟨x, hx⟩ := h3 i hi
  rw [Array.getElem?_setIfInBounds]
  split
  · rename_i e; subst e; exact ⟨y, by rw [if_pos (by omega)]⟩
  · exact ⟨x, hx⟩
theorem IRow.at_ (h : IRow W g n) {k : Nat} (hk : k < n) : ∃ x, W.cell? ⟨g, k, none⟩ = some (.int .u32 x) ∧ ∀ j, W.frozen? ⟨g, j, none⟩ = false := by
  obtain ⟨cs, h, _, h3⟩ := h
  obtain ⟨x, hx⟩ := h3 k hk
  exact ⟨x, h.blk.2.1 k _ (by simpa using hx), h.blk.2.2⟩
end
theorem Own.irow {base n c : Nat} {W : World} {A : Option Addr} {l : List Int} (h : Own (fun z : Int => [Value.int .u32 z]) 1 34 base W (.slice A n c) l) (h0 : 0 < l.length) : ∃ g, A = some ⟨g, 0, none⟩ ∧ base ≤ g ∧ g < W.heap.size ∧ IRow W g l.length := by
  obtain ⟨hlen, ⟨_, h2⟩ | ⟨g, cap, cur, hv, hb, hh, hnc, _, hsz, hcur⟩⟩ := h
  · omega
  · injection hv with hA _ _
    have hO : Ob W g cur 34 := hh
    refine ⟨g, hA, hb, hO.lt, cur, hO, by omega, fun j hj => ?_⟩
    obtain ⟨x, hx⟩ : ∃ x, l[j]? = some x := ⟨_, List.getElem?_eq_getElem hj⟩
    have := flat_at (int_len .u32) l j x hx 0 (by omega)
    rw [← hcur, Nat.mul_one, Nat.mul_one, Nat.add_zero, List.getElem?_take, if_pos (by omega)] at this
    exact ⟨x, by simpa using this⟩
set_option maxRecDepth 100000 in
set_option maxHeartbeats 4000000 in
theorem apart_any (l : List Int) (A : Option Addr) (cap : Nat) (p : Int) (w : World) (hr : Rd (fun z : Int => [Value.int .u32 z]) 1 w.heap.size w A l) (hl : ∀ x ∈ l, 0 ≤ x ∧ x ≤ 4294967295) (hlm : l.length ≤ maxLen) (hp : -9223372036854775808 ≤ p ∧ p ≤ 9223372036854775807) :
    Calls Try.prog 6 #[.agg #[.slice A l.length cap, .int .i64 p]] w fun e w' => e = .returned (.bool true) ∧ Below w.heap.size w w' := by
  have bb := Gw.al (Below.refl w.heap.size w) (.cells #[.slice A l.length cap, .int .i64 p] 24)
  by_cases hemp : l = []
  · have h1 : l.length = 0 := by rw [hemp]; rfl
    rw [h1] at bb ⊢
    clear hr hl hlm h1
    subst hemp
    go_enter Try.func6, Try.ntmps6
    go_wp2_with fail
    refine (awake_any _).mono ?_
    rintro e w1 ⟨rfl, hb⟩
    have b1 := Gw.call bb hb
    clear hb bb
    go_wp2_with fail
    go_ret
    exact ⟨rfl, b1⟩
  by_cases hbig : 200 < l.length
  · have l1 : decide ((200 : Int) < (l.length : Int)) = true := by simp; omega
    go_enter Try.func6, Try.ntmps6
    go_wp2_with fail
    refine (awake_any _).mono ?_
    rintro e w1 ⟨rfl, hb⟩
    have b1 := Gw.call bb hb
    clear hb bb
    go_wp2_with fail
    go_ret
    exact ⟨rfl, b1⟩
  · clear bb
    obtain ⟨i0, hi0, hz0, hz1, hz2⟩ := info_parts Try.infoU32s
    have hpos : 0 < l.length := List.length_pos_iff.2 hemp
    have l1 : decide ((200 : Int) < (l.length : Int)) = false := by simp; omega
    have HL : Hid (l.length ≤ 1000000) := Lib.hid (by omega)
    have HW := Lib.hid hl
    have HR0 := Lib.hid hr
    obtain ⟨L4, e4⟩ : ∃ L, vals l (plc l p) l.length = L := ⟨_, rfl⟩
    have n4 : L4.length = l.length := by rw [← e4, vals_len]
    have E4 := Lib.hid (show vals l (plc l p) (cnt (l.length : Int)) = L4 by rw [show cnt (l.length : Int) = l.length by unfold cnt; omega, e4])
    have hpos4 : 0 < L4.length := by omega
    have N4 := Lib.hid n4
    have t4 : ((L4.length : Int) != (l.length : Int)) = false := by simp; omega
    have t5 : ∀ k : Nat, k < l.length → (k : Int) < (L4.length : Int) := fun k hk => by omega
    clear hl e4 n4
    go_enter Try.func6, Try.ntmps6
    go_wp2_with (first | (at_builtin; refine wpList_app _ rfl (.tmp 22) (.tmp 24) _ rfl (w.heap.size + 1) 34 i0 _ 4 Try.underlying22 hi0 hz0 hz1 hz2 rfl (by omega) (int_len .u32) (int_one .u32) (.slice (some ⟨w.heap.size + 1, 0, none⟩) 0 0) ([] : List Int) rfl (by have hl := Own.lit (enc := fun z : Int => [Value.int .u32 z]) (sz := 1) (E := 34) (l := []) (w.alloc (.cells #[.slice A l.length cap, .int .i64 p] 24)) #[] 0 (Nat.le_refl _) (Nat.zero_le _) rfl rfl rfl; simpa only [World.size_alloc] using hl) 0 rfl _ _ _ _ l rfl rfl (hr.up (Gw.al (Gw.al (Below.refl _ _) _) _)) (by omega) (by omega) (by simp only [World.size_alloc]; omega) ?_; intro A0 c0 w0 o0 hg0; rw [Nat.zero_add, List.nil_append] at o0; have h0 : Below (w.alloc (.cells #[.slice A l.length cap, .int .i64 p] 24)).heap.size (w.alloc (.cells #[.slice A l.length cap, .int .i64 p] 24)) w0 := Gw.gr (Gw.al (Below.refl _ _) (.cells #[] 34)) hg0 (by intro k hk; have := own_blk hk; simp at this ⊢; omega); have T0 := (Ob.new w #[.slice A l.length cap, .int .i64 p] 24).call h0; have c0T := T0.blk.2.1 0 _ rfl; have c1T := T0.blk.2.1 1 _ rfl) | fail)
    replace hr := (Rd.allocS hr (.cells #[.slice A l.length cap, .int .i64 p] 24))
    have T := (Ob.new w #[.slice A l.length cap, .int .i64 p] 24)
    have bb := (Gw.al (Below.refl w.heap.size w) (.cells #[.slice A l.length cap, .int .i64 p] 24))
    have hb := h0
    clear h0 hg0 T0 c0T c1T
    obtain ⟨g0, rfl, y0, z0, R0⟩ := Own.irow o0 hpos
    have b1 := Gw.call bb hb
    replace T := T.call hb
    replace hr := Rd.up hr hb
    clear hb bb
    have c0T := T.blk.2.1 0 _ rfl
    have c1T := T.blk.2.1 1 _ rfl
    have lT := T.lt
    skip
    clear c0T c1T lT
    have bb := b1
    refine (draw_any l A cap p 5 _ hr HL.out HW.out (by omega)).mono ?_
    rintro e w2 ⟨A1, k1, rfl, o1, hb⟩
    have b2 := Gw.call bb hb
    replace T := T.call hb
    replace o0 := Own.below o0 hb
    replace hr := Rd.up hr hb
    clear hb bb b1
    obtain ⟨g1, rfl, y1, z1, R1⟩ := Own.irow o1 hpos
    have c0T := T.blk.2.1 0 _ rfl
    have c1T := T.blk.2.1 1 _ rfl
    have lT := T.lt
    go_wp2_with fail
    clear c0T c1T lT
    replace T := (T.alloc (.cells #[.slice (some ⟨g1, 0, none⟩) l.length k1, .int .i64 (drawnP l p 5)] 24))
    replace R1 := (R1.alloc (.cells #[.slice (some ⟨g1, 0, none⟩) l.length k1, .int .i64 (drawnP l p 5)] 24))
    replace o0 := (o0.alloc (.cells #[.slice (some ⟨g1, 0, none⟩) l.length k1, .int .i64 (drawnP l p 5)] 24))
    replace o1 := (o1.alloc (.cells #[.slice (some ⟨g1, 0, none⟩) l.length k1, .int .i64 (drawnP l p 5)] 24))
    replace hr := (Rd.allocS hr (.cells #[.slice (some ⟨g1, 0, none⟩) l.length k1, .int .i64 (drawnP l p 5)] 24))
    have X1 := (Ob.new w2 #[.slice (some ⟨g1, 0, none⟩) l.length k1, .int .i64 (drawnP l p 5)] 24)
    have bb := (Gw.al b2 (.cells #[.slice (some ⟨g1, 0, none⟩) l.length k1, .int .i64 (drawnP l p 5)] 24))
    refine (draw_any l A cap p 0 _ hr HL.out HW.out (by omega)).mono ?_
    rintro e w3 ⟨A2, k2, rfl, o2, hb⟩
    have b3 := Gw.call bb hb
    replace T := T.call hb
    replace R1 := R1.call hb
    replace X1 := X1.call hb
    replace o0 := Own.below o0 hb
    replace o1 := Own.below o1 hb
    replace hr := Rd.up hr hb
    clear hb bb b2
    obtain ⟨g2, rfl, y2, z2, R2⟩ := Own.irow o2 hpos
    have c0T := T.blk.2.1 0 _ rfl
    have c1T := T.blk.2.1 1 _ rfl
    have lT := T.lt
    have lR1 := R1.lt
    have c0X1 := X1.blk.2.1 0 _ rfl
    have c1X1 := X1.blk.2.1 1 _ rfl
    have lX1 := X1.lt
    go_wp2_with fail
    clear c0T c1T lT lR1 c0X1 c1X1 lX1
    replace T := (T.alloc (.cells #[.slice (some ⟨g2, 0, none⟩) l.length k2, .int .i64 (drawnP l p 0)] 24))
    replace R1 := (R1.alloc (.cells #[.slice (some ⟨g2, 0, none⟩) l.length k2, .int .i64 (drawnP l p 0)] 24))
    replace X1 := (X1.alloc (.cells #[.slice (some ⟨g2, 0, none⟩) l.length k2, .int .i64 (drawnP l p 0)] 24))
    replace R2 := (R2.alloc (.cells #[.slice (some ⟨g2, 0, none⟩) l.length k2, .int .i64 (drawnP l p 0)] 24))
    replace o0 := (o0.alloc (.cells #[.slice (some ⟨g2, 0, none⟩) l.length k2, .int .i64 (drawnP l p 0)] 24))
    replace o1 := (o1.alloc (.cells #[.slice (some ⟨g2, 0, none⟩) l.length k2, .int .i64 (drawnP l p 0)] 24))
    replace o2 := (o2.alloc (.cells #[.slice (some ⟨g2, 0, none⟩) l.length k2, .int .i64 (drawnP l p 0)] 24))
    replace hr := (Rd.allocS hr (.cells #[.slice (some ⟨g2, 0, none⟩) l.length k2, .int .i64 (drawnP l p 0)] 24))
    have X2 := (Ob.new w3 #[.slice (some ⟨g2, 0, none⟩) l.length k2, .int .i64 (drawnP l p 0)] 24)
    have bb := (Gw.al b3 (.cells #[.slice (some ⟨g2, 0, none⟩) l.length k2, .int .i64 (drawnP l p 0)] 24))
    refine (some_any l A cap p l.length _ hr HL.out HW.out (by omega) (by omega)).mono ?_
    rintro e w4 ⟨D4, d4, A3, k3, rfl, o4, o3, hap, hb⟩
    have b4 := Gw.call bb hb
    replace T := T.call hb
    replace R1 := R1.call hb
    replace X1 := X1.call hb
    replace R2 := R2.call hb
    replace X2 := X2.call hb
    replace o0 := Own.below o0 hb
    replace o1 := Own.below o1 hb
    replace o2 := Own.below o2 hb
    replace hr := Rd.up hr hb
    clear hb bb b3
    rw [E4.out] at o4 hap ⊢
    obtain ⟨g3, rfl, y3, z3, R3⟩ := Own.irow o3 hpos
    obtain ⟨g4, rfl, y4, z4, R4⟩ := Own.irow o4 hpos4
    have hg34 : g3 ≠ g4 := fun e => hap g4 rfl (by rw [← e]; rfl)
    rw [N4.out] at R4
    clear hap o4
    have c0T := T.blk.2.1 0 _ rfl
    have c1T := T.blk.2.1 1 _ rfl
    have lT := T.lt
    have lR1 := R1.lt
    have c0X1 := X1.blk.2.1 0 _ rfl
    have c1X1 := X1.blk.2.1 1 _ rfl
    have lX1 := X1.lt
    have lR2 := R2.lt
    have c0X2 := X2.blk.2.1 0 _ rfl
    have c1X2 := X2.blk.2.1 1 _ rfl
    have lX2 := X2.lt
    go_wp2_with fail
    clear c0T c1T lT lR1 c0X1 c1X1 lX1 lR2 c0X2 c1X2 lX2
    replace T := (T.alloc (.cells #[.slice (some ⟨g3, 0, none⟩) l.length k3, .int .i64 (pos l (plc l p) (cnt l.length))] 24))
    replace R1 := (R1.alloc (.cells #[.slice (some ⟨g3, 0, none⟩) l.length k3, .int .i64 (pos l (plc l p) (cnt l.length))] 24))
    replace X1 := (X1.alloc (.cells #[.slice (some ⟨g3, 0, none⟩) l.length k3, .int .i64 (pos l (plc l p) (cnt l.length))] 24))
    replace R2 := (R2.alloc (.cells #[.slice (some ⟨g3, 0, none⟩) l.length k3, .int .i64 (pos l (plc l p) (cnt l.length))] 24))
    replace X2 := (X2.alloc (.cells #[.slice (some ⟨g3, 0, none⟩) l.length k3, .int .i64 (pos l (plc l p) (cnt l.length))] 24))
    replace R3 := (R3.alloc (.cells #[.slice (some ⟨g3, 0, none⟩) l.length k3, .int .i64 (pos l (plc l p) (cnt l.length))] 24))
    replace R4 := (R4.alloc (.cells #[.slice (some ⟨g3, 0, none⟩) l.length k3, .int .i64 (pos l (plc l p) (cnt l.length))] 24))
    replace o0 := (o0.alloc (.cells #[.slice (some ⟨g3, 0, none⟩) l.length k3, .int .i64 (pos l (plc l p) (cnt l.length))] 24))
    replace o1 := (o1.alloc (.cells #[.slice (some ⟨g3, 0, none⟩) l.length k3, .int .i64 (pos l (plc l p) (cnt l.length))] 24))
    replace o2 := (o2.alloc (.cells #[.slice (some ⟨g3, 0, none⟩) l.length k3, .int .i64 (pos l (plc l p) (cnt l.length))] 24))
    replace o3 := (o3.alloc (.cells #[.slice (some ⟨g3, 0, none⟩) l.length k3, .int .i64 (pos l (plc l p) (cnt l.length))] 24))
    replace hr := (Rd.allocS hr (.cells #[.slice (some ⟨g3, 0, none⟩) l.length k3, .int .i64 (pos l (plc l p) (cnt l.length))] 24))
    have X3 := (Ob.new w4 #[.slice (some ⟨g3, 0, none⟩) l.length k3, .int .i64 (pos l (plc l p) (cnt l.length))] 24)
    have bb := (Gw.al b4 (.cells #[.slice (some ⟨g3, 0, none⟩) l.length k3, .int .i64 (pos l (plc l p) (cnt l.length))] 24))
    refine (nums_any l l (some ⟨g1, 0, none⟩) (some ⟨g0, 0, none⟩) l.length l.length k1 c0 _ (o1.rd (int_len .u32)) (o0.rd (int_len .u32)) rfl rfl (by have := HL.out; omega) (by have := HL.out; omega)).mono ?_
    rintro e w5 ⟨rfl, hb⟩
    have b5 := Gw.call bb hb
    replace T := T.call hb
    replace R1 := R1.call hb
    replace X1 := X1.call hb
    replace R2 := R2.call hb
    replace X2 := X2.call hb
    replace R3 := R3.call hb
    replace R4 := R4.call hb
    replace X3 := X3.call hb
    replace o0 := Own.below o0 hb
    clear o1
    replace o2 := Own.below o2 hb
    replace o3 := Own.below o3 hb
    replace hr := Rd.up hr hb
    clear hb bb b4
    rw [decide_eq_true rfl]
    have c0T := T.blk.2.1 0 _ rfl
    have c1T := T.blk.2.1 1 _ rfl
    have lT := T.lt
    have lR1 := R1.lt
    have c0X1 := X1.blk.2.1 0 _ rfl
    have c1X1 := X1.blk.2.1 1 _ rfl
    have lX1 := X1.lt
    have lR2 := R2.lt
    have c0X2 := X2.blk.2.1 0 _ rfl
    have c1X2 := X2.blk.2.1 1 _ rfl
    have lX2 := X2.lt
    have lR3 := R3.lt
    have lR4 := R4.lt
    have c0X3 := X3.blk.2.1 0 _ rfl
    have c1X3 := X3.blk.2.1 1 _ rfl
    have lX3 := X3.lt
    go_wp2_with fail
    clear c0T c1T lT lR1 c0X1 c1X1 lX1 lR2 c0X2 c1X2 lX2 lR3 lR4 c0X3 c1X3 lX3
    have bb := b5
    refine (nums_any l l (some ⟨g2, 0, none⟩) (some ⟨g0, 0, none⟩) l.length l.length k2 c0 _ (o2.rd (int_len .u32)) (o0.rd (int_len .u32)) rfl rfl (by have := HL.out; omega) (by have := HL.out; omega)).mono ?_
    rintro e w6 ⟨rfl, hb⟩
    have b6 := Gw.call bb hb
    replace T := T.call hb
    replace R1 := R1.call hb
    replace X1 := X1.call hb
    replace R2 := R2.call hb
    replace X2 := X2.call hb
    replace R3 := R3.call hb
    replace R4 := R4.call hb
    replace X3 := X3.call hb
    replace o0 := Own.below o0 hb
    clear o2
    replace o3 := Own.below o3 hb
    replace hr := Rd.up hr hb
    clear hb bb b5
    rw [decide_eq_true rfl]
    have c0T := T.blk.2.1 0 _ rfl
    have c1T := T.blk.2.1 1 _ rfl
    have lT := T.lt
    have lR1 := R1.lt
    have c0X1 := X1.blk.2.1 0 _ rfl
    have c1X1 := X1.blk.2.1 1 _ rfl
    have lX1 := X1.lt
    have lR2 := R2.lt
    have c0X2 := X2.blk.2.1 0 _ rfl
    have c1X2 := X2.blk.2.1 1 _ rfl
    have lX2 := X2.lt
    have lR3 := R3.lt
    have lR4 := R4.lt
    have c0X3 := X3.blk.2.1 0 _ rfl
    have c1X3 := X3.blk.2.1 1 _ rfl
    have lX3 := X3.lt
    go_wp2_with fail
    clear c0T c1T lT lR1 c0X1 c1X1 lX1 lR2 c0X2 c1X2 lX2 lR3 lR4 c0X3 c1X3 lX3
    have bb := b6
    refine (nums_any l l (some ⟨g3, 0, none⟩) (some ⟨g0, 0, none⟩) l.length l.length k3 c0 _ (o3.rd (int_len .u32)) (o0.rd (int_len .u32)) rfl rfl (by have := HL.out; omega) (by have := HL.out; omega)).mono ?_
    rintro e w7 ⟨rfl, hb⟩
    have b7 := Gw.call bb hb
    replace T := T.call hb
    replace R1 := R1.call hb
    replace X1 := X1.call hb
    replace R2 := R2.call hb
    replace X2 := X2.call hb
    replace R3 := R3.call hb
    replace R4 := R4.call hb
    replace X3 := X3.call hb
    replace o0 := Own.below o0 hb
    clear o3
    replace hr := Rd.up hr hb
    clear hb bb b6
    rw [decide_eq_true rfl]
    have c0T := T.blk.2.1 0 _ rfl
    have c1T := T.blk.2.1 1 _ rfl
    have lT := T.lt
    have lR1 := R1.lt
    have c0X1 := X1.blk.2.1 0 _ rfl
    have c1X1 := X1.blk.2.1 1 _ rfl
    have lX1 := X1.lt
    have lR2 := R2.lt
    have c0X2 := X2.blk.2.1 0 _ rfl
    have c1X2 := X2.blk.2.1 1 _ rfl
    have lX2 := X2.lt
    have lR3 := R3.lt
    have lR4 := R4.lt
    have c0X3 := X3.blk.2.1 0 _ rfl
    have c1X3 := X3.blk.2.1 1 _ rfl
    have lX3 := X3.lt
    go_wp2_with fail
    simp only [World.size_alloc] at y1 y2 y3 y4
    have lo0 : ∀ j, (Value.slice (some ⟨g0, 0, none⟩) l.length c0).ownBlock = some j → j = g0 := fun j hj => own_blk hj
    have ne0a : ¬ g1 = g2 := by omega
    have ne0b : ¬ g2 = g1 := by omega
    have ne1a : ¬ g1 = g3 := by omega
    have ne1b : ¬ g3 = g1 := by omega
    have ne2a : ¬ g1 = g4 := by omega
    have ne2b : ¬ g4 = g1 := by omega
    have ne3a : ¬ g2 = g3 := by omega
    have ne3b : ¬ g3 = g2 := by omega
    have ne4a : ¬ g2 = g4 := by omega
    have ne4b : ¬ g4 = g2 := by omega
    have ne5a : ¬ g3 = g4 := by omega
    have ne5b : ¬ g4 = g3 := by omega
    have ne6a : ¬ g1 = w2.heap.size := by omega
    have ne6b : ¬ w2.heap.size = g1 := by omega
    have ne7a : ¬ g1 = w3.heap.size := by omega
    have ne7b : ¬ w3.heap.size = g1 := by omega
    have ne8a : ¬ g1 = w4.heap.size := by omega
    have ne8b : ¬ w4.heap.size = g1 := by omega
    have ne9a : ¬ g1 = g0 := by omega
    have ne9b : ¬ g0 = g1 := by omega
    have ne10a : ¬ g1 = w.heap.size := by omega
    have ne10b : ¬ w.heap.size = g1 := by omega
    have ne11a : ¬ g2 = w2.heap.size := by omega
    have ne11b : ¬ w2.heap.size = g2 := by omega
    have ne12a : ¬ g2 = w3.heap.size := by omega
    have ne12b : ¬ w3.heap.size = g2 := by omega
    have ne13a : ¬ g2 = w4.heap.size := by omega
    have ne13b : ¬ w4.heap.size = g2 := by omega
    have ne14a : ¬ g2 = g0 := by omega
    have ne14b : ¬ g0 = g2 := by omega
    have ne15a : ¬ g2 = w.heap.size := by omega
    have ne15b : ¬ w.heap.size = g2 := by omega
    have ne16a : ¬ g3 = w2.heap.size := by omega
    have ne16b : ¬ w2.heap.size = g3 := by omega
    have ne17a : ¬ g3 = w3.heap.size := by omega
    have ne17b : ¬ w3.heap.size = g3 := by omega
    have ne18a : ¬ g3 = w4.heap.size := by omega
    have ne18b : ¬ w4.heap.size = g3 := by omega
    have ne19a : ¬ g3 = g0 := by omega
    have ne19b : ¬ g0 = g3 := by omega
    have ne20a : ¬ g3 = w.heap.size := by omega
    have ne20b : ¬ w.heap.size = g3 := by omega
    have ne21a : ¬ g4 = w2.heap.size := by omega
    have ne21b : ¬ w2.heap.size = g4 := by omega
    have ne22a : ¬ g4 = w3.heap.size := by omega
    have ne22b : ¬ w3.heap.size = g4 := by omega
    have ne23a : ¬ g4 = w4.heap.size := by omega
    have ne23b : ¬ w4.heap.size = g4 := by omega
    have ne24a : ¬ g4 = g0 := by omega
    have ne24b : ¬ g0 = g4 := by omega
    have ne25a : ¬ g4 = w.heap.size := by omega
    have ne25b : ¬ w.heap.size = g4 := by omega
    have T5 := Lib.hid t5
    clear t5
    go_loopw [72] (fun i wr => ∃ k : Nat, k ≤ l.length ∧ i = .int .i64 k ∧ Below w.heap.size w wr ∧ IRow wr g1 l.length ∧ IRow wr g2 l.length ∧ IRow wr g3 l.length ∧ IRow wr g4 l.length ∧ Ob wr w2.heap.size #[.slice (some ⟨g1, 0, none⟩) l.length k1, .int .i64 (drawnP l p 5)] 24 ∧ Ob wr w3.heap.size #[.slice (some ⟨g2, 0, none⟩) l.length k2, .int .i64 (drawnP l p 0)] 24 ∧ Ob wr w4.heap.size #[.slice (some ⟨g3, 0, none⟩) l.length k3, .int .i64 (pos l (plc l p) (cnt l.length))] 24 ∧ Ob wr w.heap.size #[.slice A l.length cap, .int .i64 p] 24 ∧ Own (fun z : Int => [Value.int .u32 z]) 1 34 (w.heap.size + 1) wr (.slice (some ⟨g0, 0, none⟩) l.length c0) l) (fun i _ => l.length - (intOf i).toNat)
    case atStart => exact ⟨0, Nat.zero_le _, rfl, b7, R1, R2, R3, R4, X1, X2, X3, T, o0⟩
    case round =>
      clear X1 X2 X3 T o0 R1 R2 R3 R4 R0
      obtain ⟨k, hk, rfl, hw, R1, R2, R3, R4, X1, X2, X3, T, o0⟩ := hrel
      have c0T := T.blk.2.1 0 _ rfl
      have c1T := T.blk.2.1 1 _ rfl
      by_cases hlt : k < l.length
      · have hlt4 := T5.out k hlt
        obtain ⟨v1, e1, f1⟩ := R1.at_ hlt
        obtain ⟨v2, e2, f2⟩ := R2.at_ hlt
        obtain ⟨v3, e3, f3⟩ := R3.at_ hlt
        obtain ⟨v4, e4, f4⟩ := R4.at_ hlt
        have x10 := X1.blk.2.1 0 _ rfl
        have x20 := X2.blk.2.1 0 _ rfl
        have x30 := X3.blk.2.1 0 _ rfl
        go_wp2_with fail
        go_roundw
        case rel => exact ⟨k + 1, by omega, by go_num, (Gw.st (Gw.st (Gw.st (Gw.st hw (p := ⟨g1, k, none⟩) (by show w.heap.size ≤ g1; omega) _) (p := ⟨g2, k, none⟩) (by show w.heap.size ≤ g2; omega) _) (p := ⟨g3, k, none⟩) (by show w.heap.size ≤ g3; omega) _) (p := ⟨g4, k, none⟩) (by show w.heap.size ≤ g4; omega) _), ((((R1.set k _).far (p := g2) (j := k) (by omega) _).far (p := g3) (j := k) (by omega) _).far (p := g4) (j := k) (by omega) _), ((((R2.far (p := g1) (j := k) (by omega) _).set k _).far (p := g3) (j := k) (by omega) _).far (p := g4) (j := k) (by omega) _), ((((R3.far (p := g1) (j := k) (by omega) _).far (p := g2) (j := k) (by omega) _).set k _).far (p := g4) (j := k) (by omega) _), ((((R4.far (p := g1) (j := k) (by omega) _).far (p := g2) (j := k) (by omega) _).far (p := g3) (j := k) (by omega) _).set k _), ((((X1.far (p := g1) (j := k) (by omega) _).far (p := g2) (j := k) (by omega) _).far (p := g3) (j := k) (by omega) _).far (p := g4) (j := k) (by omega) _), ((((X2.far (p := g1) (j := k) (by omega) _).far (p := g2) (j := k) (by omega) _).far (p := g3) (j := k) (by omega) _).far (p := g4) (j := k) (by omega) _), ((((X3.far (p := g1) (j := k) (by omega) _).far (p := g2) (j := k) (by omega) _).far (p := g3) (j := k) (by omega) _).far (p := g4) (j := k) (by omega) _), ((((T.far (p := g1) (j := k) (by omega) _).far (p := g2) (j := k) (by omega) _).far (p := g3) (j := k) (by omega) _).far (p := g4) (j := k) (by omega) _), (Own.far (p := ⟨g4, k, none⟩) (Own.far (p := ⟨g3, k, none⟩) (Own.far (p := ⟨g2, k, none⟩) (Own.far (p := ⟨g1, k, none⟩) o0 (fun j hj => by have := lo0 j hj; show j ≠ g1; omega) _) (fun j hj => by have := lo0 j hj; show j ≠ g2; omega) _) (fun j hj => by have := lo0 j hj; show j ≠ g3; omega) _) (fun j hj => by have := lo0 j hj; show j ≠ g4; omega) _)⟩
        case measure => simp [intOf]; omega
      · obtain rfl : k = l.length := by omega
        go_wp2_with fail
        refine (nums_any l l A (some ⟨g0, 0, none⟩) l.length l.length cap c0 _ (HR0.out.up hw) (o0.rd (int_len .u32)) rfl rfl (by have := HL.out; omega) (by have := HL.out; omega)).mono ?_
        rintro e w17 ⟨rfl, hb⟩
        rw [decide_eq_true rfl]
        have b17 := Gw.call hw hb
        clear hb
        go_wp2_with fail
        refine (awake_any _).mono ?_
        rintro e w18 ⟨rfl, hb⟩
        have b18 := Gw.call b17 hb
        clear hb
        go_wp2_with fail
        go_ret
        exact ⟨rfl, b18⟩
end Go.Proofs.Ytbdipaooekiofaa
