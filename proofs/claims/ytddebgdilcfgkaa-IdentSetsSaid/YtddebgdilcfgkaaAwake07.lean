/-
  The chapter's examples: grapevinelaw07.awake returns true.
-/
import Derived.Test.YtddebgdilcfgkaaIdDrop
import Derived.Test.YtddebgdilcfgkaaIdSame
namespace Go.Proofs.Ytddebgdilcfgkaa
open Go.RowKit

theorem one_any (n : Int) (w : World) :
    Calls Try.prog 25 #[.int .u32 n] w fun e w' => e = .returned (idv ⟨0, 1, n⟩) ∧ Below w.heap.size w w' := by
  go_enter Try.func25, Try.ntmps25
  go_wp2
  refine bodyPost_ret (v := .agg #[.int .u8 0, .int .u16 1, .int .u32 n]) (by simp [results, Try.results25, go_sem]) rfl ⟨rfl, (Below.refl _ _).alloc (Nat.le_refl _) _⟩

set_option maxHeartbeats 4000000 in
theorem awake_any (w : World) : Calls Try.prog 10 #[] w fun e w' => e = .returned (.bool true) ∧ Below w.heap.size w w' := by
  go_enter Try.func10, Try.ntmps10
  go_wp2_with fail
  refine (next_yes ⟨1, 2, 3⟩ 4 (by simp [Id.ok]) (by simp) (by simp) (w.alloc (.cells #[.int .u8 1, .int .u16 2, .int .u32 3] 25))).mono ?_
  rintro e w1 ⟨rfl, hb⟩
  have b1 := Gw.call (Gw.al (Below.refl w.heap.size w) (.cells #[.int .u8 1, .int .u16 2, .int .u32 3] 25)) hb
  have X1 := (Blk.new w #[.int .u8 1, .int .u16 2, .int .u32 3] 25).call hb
  clear hb 
  obtain ⟨q0X, q1X, q2X⟩ := X1.c3
  have qsX := X1.1
  go_wp2_with fail
  refine (next_no ⟨1, 2, 3⟩ 3 (by simp [Id.ok]) (by simp) (w1.alloc (.cells #[.int .u8 1, .int .u16 2, .int .u32 4] 25))).mono ?_
  rintro e w2 ⟨rfl, hb⟩
  have b2 := Gw.call (Gw.al b1 (.cells #[.int .u8 1, .int .u16 2, .int .u32 4] 25)) hb
  have X2 := (X1.alloc _).call hb
  have Y2 := (Blk.new w1 #[.int .u8 1, .int .u16 2, .int .u32 4] 25).call hb
  clear hb X1 b1
  obtain ⟨q0X, q1X, q2X⟩ := X2.c3
  have qsX := X2.1
  obtain ⟨q0Y, q1Y, q2Y⟩ := Y2.c3
  have qsY := Y2.1
  go_wp2_with fail
  refine (next_yes ⟨1, 2, 0⟩ 3 (by simp [Id.ok]) (by simp) (by simp) (w2.alloc (.cells #[.int .u8 0, .int .u16 0, .int .u32 0] 25))).mono ?_
  rintro e w3 ⟨rfl, hb⟩
  have b3 := Gw.call (Gw.al b2 (.cells #[.int .u8 0, .int .u16 0, .int .u32 0] 25)) hb
  have X3 := (X2.alloc _).call hb
  have Y3 := (Y2.alloc _).call hb
  clear hb X2 Y2 b2
  obtain ⟨q0X, q1X, q2X⟩ := X3.c3
  have qsX := X3.1
  obtain ⟨q0Y, q1Y, q2Y⟩ := Y3.c3
  have qsY := Y3.1
  go_wp2_with fail
  refine (one_any 1 (w3.alloc (.cells #[.int .u8 1, .int .u16 2, .int .u32 1] 25))).mono ?_
  rintro e w4 ⟨rfl, hb⟩
  have b4 := Gw.call (Gw.al b3 (.cells #[.int .u8 1, .int .u16 2, .int .u32 1] 25)) hb
  have X4 := (X3.alloc _).call hb
  have Y4 := (Y3.alloc _).call hb
  have Z4 := (Blk.new w3 #[.int .u8 1, .int .u16 2, .int .u32 1] 25).call hb
  clear hb X3 Y3 b3
  obtain ⟨q0X, q1X, q2X⟩ := X4.c3
  have qsX := X4.1
  obtain ⟨q0Y, q1Y, q2Y⟩ := Y4.c3
  have qsY := Y4.1
  obtain ⟨q0Z, q1Z, q2Z⟩ := Z4.c3
  have qsZ := Z4.1
  go_wp2_with fail
  refine (one_any 3 w4).mono ?_
  rintro e w5 ⟨rfl, hb⟩
  have b5 := Gw.call b4 hb
  have X5 := X4.call hb
  have Y5 := Y4.call hb
  have Z5 := Z4.call hb
  clear hb X4 Y4 Z4 b4
  obtain ⟨q0X, q1X, q2X⟩ := X5.c3
  have qsX := X5.1
  obtain ⟨q0Y, q1Y, q2Y⟩ := Y5.c3
  have qsY := Y5.1
  obtain ⟨q0Z, q1Z, q2Z⟩ := Z5.c3
  have qsZ := Z5.1
  go_wp2_with fail
  have L0 := Own.lit (enc := idc) (sz := 3) (E := 25) (base := 0) (l := [⟨0, 1, 1⟩, ⟨0, 1, 3⟩]) w5 #[.int .u8 0, .int .u16 1, .int .u32 1, .int .u8 0, .int .u16 1, .int .u32 3] 2 (Nat.zero_le _) (by simp [maxLen]) rfl rfl rfl
  refine (one_any 2 (w5.alloc (.cells #[.int .u8 0, .int .u16 1, .int .u32 1, .int .u8 0, .int .u16 1, .int .u32 3] 25))).mono ?_
  rintro e w6 ⟨rfl, hb⟩
  have b6 := Gw.call (Gw.al b5 (.cells #[.int .u8 0, .int .u16 1, .int .u32 1, .int .u8 0, .int .u16 1, .int .u32 3] 25)) hb
  have X6 := (X5.alloc _).call hb
  have Y6 := (Y5.alloc _).call hb
  have Z6 := (Z5.alloc _).call hb
  have L6 := L0.below hb
  clear hb X5 Y5 Z5 b5
  obtain ⟨q0X, q1X, q2X⟩ := X6.c3
  have qsX := X6.1
  obtain ⟨q0Y, q1Y, q2Y⟩ := Y6.c3
  have qsY := Y6.1
  obtain ⟨q0Z, q1Z, q2Z⟩ := Z6.c3
  have qsZ := Z6.1
  go_wp2_with fail
  refine (put_any [⟨0, 1, 1⟩, ⟨0, 1, 3⟩] ⟨0, 1, 2⟩ _ 2 w6 (L6.rd idc_len) (by simp) (by simp)).mono ?_
  rintro e w7 ⟨A1, c1, rfl, hown, hb⟩
  have b7 := Gw.call b6 hb
  have X7 := X6.call hb
  have Y7 := Y6.call hb
  have Z7 := Z6.call hb
  have L7 := L6.below hb
  have M7 := hown
  clear hb X6 Y6 Z6 L6 b6
  have hpl : putL [⟨0, 1, 1⟩, ⟨0, 1, 3⟩] ⟨0, 1, 2⟩ = [⟨0, 1, 1⟩, ⟨0, 1, 2⟩, ⟨0, 1, 3⟩] := by decide
  rw [hpl] at M7 ⊢
  clear hpl hown L0
  obtain ⟨q0X, q1X, q2X⟩ := X7.c3
  have qsX := X7.1
  obtain ⟨q0Y, q1Y, q2Y⟩ := Y7.c3
  have qsY := Y7.1
  obtain ⟨q0Z, q1Z, q2Z⟩ := Z7.c3
  have qsZ := Z7.1
  clear L7
  go_wp2_with fail
  refine (right_any ⟨1, 2, 3⟩ 2 3 (by simp [Id.ok]) w7).mono ?_
  rintro e w8 ⟨rfl, hb⟩
  have b8 := Gw.call b7 hb
  have X8 := X7.call hb
  have Y8 := Y7.call hb
  have Z8 := Z7.call hb
  have M8 := M7.below hb
  clear hb X7 Y7 Z7 M7 b7
  rw [show rightB ⟨1, 2, 3⟩ 2 3 = true by decide]
  obtain ⟨q0X, q1X, q2X⟩ := X8.c3
  have qsX := X8.1
  obtain ⟨q0Y, q1Y, q2Y⟩ := Y8.c3
  have qsY := Y8.1
  obtain ⟨q0Z, q1Z, q2Z⟩ := Z8.c3
  have qsZ := Z8.1
  go_wp2_with fail
  refine (right_any ⟨1, 2, 3⟩ 1 3 (by simp [Id.ok]) w8).mono ?_
  rintro e w9 ⟨rfl, hb⟩
  have b9 := Gw.call b8 hb
  have X9 := X8.call hb
  have Y9 := Y8.call hb
  have Z9 := Z8.call hb
  have M9 := M8.below hb
  clear hb X8 Y8 Z8 M8 b8
  rw [show rightB ⟨1, 2, 3⟩ 1 3 = false by decide]
  obtain ⟨q0X, q1X, q2X⟩ := X9.c3
  have qsX := X9.1
  obtain ⟨q0Y, q1Y, q2Y⟩ := Y9.c3
  have qsY := Y9.1
  obtain ⟨q0Z, q1Z, q2Z⟩ := Z9.c3
  have qsZ := Z9.1
  go_wp2_with fail
  refine (right_any ⟨1, 2, 3⟩ 2 2 (by simp [Id.ok]) w9).mono ?_
  rintro e w10 ⟨rfl, hb⟩
  have b10 := Gw.call b9 hb
  have X10 := X9.call hb
  have Y10 := Y9.call hb
  have Z10 := Z9.call hb
  have M10 := M9.below hb
  clear hb X9 Y9 Z9 M9 b9
  rw [show rightB ⟨1, 2, 3⟩ 2 2 = false by decide]
  obtain ⟨q0X, q1X, q2X⟩ := X10.c3
  have qsX := X10.1
  obtain ⟨q0Y, q1Y, q2Y⟩ := Y10.c3
  have qsY := Y10.1
  obtain ⟨q0Z, q1Z, q2Z⟩ := Z10.c3
  have qsZ := Z10.1
  go_wp2_with fail
  refine (right_any ⟨1, 0, 3⟩ 2 3 (by simp [Id.ok]) w10).mono ?_
  rintro e w11 ⟨rfl, hb⟩
  have b11 := Gw.call b10 hb
  have X11 := X10.call hb
  have Y11 := Y10.call hb
  have Z11 := Z10.call hb
  have M11 := M10.below hb
  clear hb X10 Y10 Z10 M10 b10
  rw [show rightB ⟨1, 0, 3⟩ 2 3 = false by decide]
  obtain ⟨q0X, q1X, q2X⟩ := X11.c3
  have qsX := X11.1
  obtain ⟨q0Y, q1Y, q2Y⟩ := Y11.c3
  have qsY := Y11.1
  obtain ⟨q0Z, q1Z, q2Z⟩ := Z11.c3
  have qsZ := Z11.1
  go_wp2_with fail
  refine (one_any 1 w11).mono ?_
  rintro e w12 ⟨rfl, hb⟩
  have b12 := Gw.call b11 hb
  have X12 := X11.call hb
  have Y12 := Y11.call hb
  have Z12 := Z11.call hb
  have M12 := M11.below hb
  clear hb X11 Y11 Z11 M11 b11
  obtain ⟨q0X, q1X, q2X⟩ := X12.c3
  have qsX := X12.1
  obtain ⟨q0Y, q1Y, q2Y⟩ := Y12.c3
  have qsY := Y12.1
  obtain ⟨q0Z, q1Z, q2Z⟩ := Z12.c3
  have qsZ := Z12.1
  clear X12
  clear Y12
  clear Z12
  go_wp2_with fail
  refine (one_any 2 w12).mono ?_
  rintro e w13 ⟨rfl, hb⟩
  have b13 := Gw.call b12 hb
  have M13 := M12.below hb
  clear hb M12 b12
  go_wp2_with fail
  refine (one_any 3 w13).mono ?_
  rintro e w14 ⟨rfl, hb⟩
  have b14 := Gw.call b13 hb
  have M14 := M13.below hb
  clear hb M13 b13
  go_wp2_with fail
  have L0 := Own.lit (enc := idc) (sz := 3) (E := 25) (base := 0) (l := [⟨0, 1, 1⟩, ⟨0, 1, 2⟩, ⟨0, 1, 3⟩]) w14 #[.int .u8 0, .int .u16 1, .int .u32 1, .int .u8 0, .int .u16 1, .int .u32 2, .int .u8 0, .int .u16 1, .int .u32 3] 3 (Nat.zero_le _) (by simp [maxLen]) rfl rfl rfl
  refine (same_any [⟨0, 1, 1⟩, ⟨0, 1, 2⟩, ⟨0, 1, 3⟩] [⟨0, 1, 1⟩, ⟨0, 1, 2⟩, ⟨0, 1, 3⟩] _ _ _ 3 (w14.alloc (.cells #[.int .u8 0, .int .u16 1, .int .u32 1, .int .u8 0, .int .u16 1, .int .u32 2, .int .u8 0, .int .u16 1, .int .u32 3] 25)) ((M14.alloc _).rd idc_len) (L0.rd idc_len) (by simp) (by simp)).mono ?_
  rintro e w15 ⟨rfl, hb⟩
  have b15 := Gw.call (Gw.al b14 (.cells #[.int .u8 0, .int .u16 1, .int .u32 1, .int .u8 0, .int .u16 1, .int .u32 2, .int .u8 0, .int .u16 1, .int .u32 3] 25)) hb
  have M15 := (M14.alloc _).below hb
  clear hb M14 b14
  rw [decide_eq_true rfl]
  clear L0
  go_wp2_with fail
  refine (one_any 3 w15).mono ?_
  rintro e w16 ⟨rfl, hb⟩
  have b16 := Gw.call b15 hb
  have M16 := M15.below hb
  clear hb M15 b15
  go_wp2_with fail
  refine (drop_any [⟨0, 1, 1⟩, ⟨0, 1, 2⟩, ⟨0, 1, 3⟩] ⟨0, 1, 3⟩ _ _ w16 (M16.rd idc_len) (by simp)).mono ?_
  rintro e w17 ⟨A2, c2, rfl, hown, hb⟩
  have b17 := Gw.call b16 hb
  have M17 := M16.below hb
  clear hb M16 b16
  have hpl : dropL [⟨0, 1, 1⟩, ⟨0, 1, 2⟩, ⟨0, 1, 3⟩] ⟨0, 1, 3⟩ = [⟨0, 1, 1⟩, ⟨0, 1, 2⟩] := by decide
  rw [hpl]
  clear hpl hown
  go_wp2_with fail
  go_ret
  exact ⟨rfl, b17⟩
end Go.Proofs.Ytddebgdilcfgkaa
