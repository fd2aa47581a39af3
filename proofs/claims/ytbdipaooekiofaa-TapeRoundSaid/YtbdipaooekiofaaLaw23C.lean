/-
  TapeRound: behind as many draws as there are numbers (23).
-/
import Derived.Test.YtbdipaooekiofaaRef23
import Derived.Deep.DeepCutAuto
namespace Go.Proofs.Ytbdipaooekiofaa
open Go.RowKit
theorem getElem_vals (l : List Int) (q k j : Nat) (h : j < k) : (vals l q k)[j]? = some (val l q j) := by simp [vals, h]
theorem val_zero {l : List Int} {q : Nat} {z : Int} (hz : l[q]? = some z) : val l q 0 = z := by
  have hq : q < l.length := (List.getElem?_eq_some_iff.1 hz).1
  unfold val; rw [pos_start (.inl hq), List.getD_eq_getElem?_getD, hz]; rfl
theorem plc_nat {l : List Int} {q : Nat} (h : q < l.length) : plc l (q : Int) = q := by unfold plc; rw [if_pos ⟨by omega, by omega⟩]; omega
theorem pos_all {l : List Int} {q : Nat} (h : q < l.length) : pos l q l.length = q := by unfold pos; rw [if_neg (by omega), Nat.add_mod_right, Nat.mod_eq_of_lt h]
set_option maxRecDepth 100000 in
set_option maxHeartbeats 4000000 in
theorem round_no (l th : List Int) (A Ath : Option Addr) (cap cth : Nat) (p : Int) (w : World) (hbad : ¬ (0 < l.length ∧ l.length ≤ 200 ∧ 0 ≤ p ∧ p < l.length)) :
    Calls Try.prog 4 #[.agg #[.slice A l.length cap, .int .i64 p], .slice Ath th.length cth] w fun e w' => e = .returned (.bool true) ∧ Below w.heap.size w w' := by
  have bb := Gw.al (Below.refl w.heap.size w) (.cells #[.slice A l.length cap, .int .i64 p] 24)
  by_cases h0 : l = []
  · have h1 : l.length = 0 := by rw [h0]; rfl
    rw [h1] at bb ⊢
    clear hbad h0 h1
    go_enter Try.func4, Try.ntmps4
    go_wp2_with fail
    refine (awake_any _).mono ?_
    rintro e w1 ⟨rfl, hb⟩
    have b1 := Gw.call bb hb
    clear hb bb
    go_wp2_with fail
    go_ret
    exact ⟨rfl, b1⟩
  · have h1 : 0 < l.length := List.length_pos_iff.2 h0
    by_cases h2 : 200 < l.length
    · clear hbad
      go_enter Try.func4, Try.ntmps4
      go_wp2_with fail
      refine (awake_any _).mono ?_
      rintro e w1 ⟨rfl, hb⟩
      have b1 := Gw.call bb hb
      clear hb bb
      go_wp2_with fail
      go_ret
      exact ⟨rfl, b1⟩
    · by_cases h3 : p < 0
      · clear hbad
        go_enter Try.func4, Try.ntmps4
        go_wp2_with fail
        refine (awake_any _).mono ?_
        rintro e w1 ⟨rfl, hb⟩
        have b1 := Gw.call bb hb
        clear hb bb
        go_wp2_with fail
        go_ret
        exact ⟨rfl, b1⟩
      · have h4 : (l.length : Int) ≤ p := by omega
        clear hbad
        go_enter Try.func4, Try.ntmps4
        go_wp2_with fail
        refine (awake_any _).mono ?_
        rintro e w1 ⟨rfl, hb⟩
        have b1 := Gw.call bb hb
        clear hb bb
        go_wp2_with fail
        go_ret
        exact ⟨rfl, b1⟩

set_option maxRecDepth 100000 in
set_option maxHeartbeats 4000000 in
theorem round_yes (l th : List Int) (A Ath : Option Addr) (cap cth q : Nat) (w : World) (hr : Rd (fun z : Int => [Value.int .u32 z]) 1 w.heap.size w A l) (hl : ∀ x ∈ l, 0 ≤ x ∧ x ≤ 4294967295) (hlm : l.length ≤ maxLen) (rth : Rd (fun z : Int => [Value.int .u16 z]) 1 w.heap.size w Ath th) (hth : ∀ x ∈ th, 0 ≤ x ∧ x ≤ 65535) (hcth : th.length ≤ cth) (hmth : cth ≤ maxLen) (h200 : l.length ≤ 200) (hq : q < l.length) :
    Calls Try.prog 4 #[.agg #[.slice A l.length cap, .int .i64 q], .slice Ath th.length cth] w fun e w' => e = .returned (.bool true) ∧ Below w.heap.size w w' := by
    unfold maxLen at hmth
    have l1 : decide ((200 : Int) < (l.length : Int)) = false := decide_eq_false (by omega)
    have l2 : decide ((q : Int) < 0) = false := decide_eq_false (by omega)
    have l3 : decide ((l.length : Int) ≤ (q : Int)) = false := decide_eq_false (by omega)
    have l4 : ((l.length : Int) == 0) = false := by rw [beq_eq_false_iff_ne]; omega
    have l5 : decide (l.length ≤ q) = false := decide_eq_false (by omega)
    have HL : Hid (l.length ≤ 1000000) := Lib.hid (by omega)
    have HW := Lib.hid hl
    obtain ⟨m, hm⟩ : ∃ m : Nat, (if (100 : Int) < (th.length : Int) then (100 : Int) else (th.length : Int)) = (m : Int) := by
      split
      · exact ⟨100, rfl⟩
      · exact ⟨th.length, rfl⟩
    have hm1 : m ≤ 100 ∧ m ≤ th.length := by split at hm <;> omega
    obtain ⟨hm1, hm2⟩ := hm1
    have hm3 : (m : Int) ≤ (cth : Int) := by omega
    have hne : ¬ l = [] := by intro h; simp [h] at hq
    have hq1 : (q : Int) < (l.length : Int) := by omega
    obtain ⟨z, hz⟩ : ∃ z, l[q]? = some z := ⟨_, List.getElem?_eq_getElem hq⟩
    obtain ⟨L1, e1⟩ : ∃ L, vals l q l.length = L := ⟨_, rfl⟩
    obtain ⟨L4, e4⟩ : ∃ L, vals l q m = L := ⟨_, rfl⟩
    obtain ⟨P4, f4⟩ : ∃ n, pos l q m = n := ⟨_, rfl⟩
    have hcl : cnt (l.length : Int) = l.length := by unfold cnt; omega
    have hcm : cnt (m : Int) = m := by unfold cnt; omega
    have E1 := Lib.hid (show vals l (plc l (q : Int)) (cnt (l.length : Int)) = L1 by rw [plc_nat hq, hcl, e1])
    have F1 := Lib.hid (show pos l (plc l (q : Int)) (cnt (l.length : Int)) = q by rw [plc_nat hq, hcl, pos_all hq])
    have E4 := Lib.hid (show vals l (plc l (q : Int)) (cnt (m : Int)) = L4 by rw [plc_nat hq, hcm, e4])
    have F4 := Lib.hid (show pos l (plc l (q : Int)) (cnt (m : Int)) = P4 by rw [plc_nat hq, hcm, f4])
    have n1 : L1.length = l.length := by rw [← e1, vals_len]
    have n4 : L4.length = m := by rw [← e4, vals_len]
    have HN4 := Lib.hid n4
    have HZ := Lib.hid hz
    have HZ1 := Lib.hid (show L1[0]? = some z by rw [← e1, getElem_vals _ _ _ _ (by omega), val_zero hz])
    have HB1 := Lib.hid (show L1.length ≤ 140737488355328 by omega)
    have t1 : ((L1.length : Int) != (l.length : Int)) = false := by simp; omega
    have t4 : ((L4.length : Int) != (m : Int)) = false := by simp; omega
    have t5 : (0 : Int) < (L1.length : Int) := by omega
    have t6 : ¬ L1 = [] := by intro h; rw [h] at n1; simp at n1; omega
    have t7 : 0 < L1.length := by omega
    have t8 : (0 : Int) ≤ (q : Int) := by omega
    have H4 : Hid (∀ k, k < m → L4[k]? = some (val l q k)) := Lib.hid (fun k hk => by rw [← e4, getElem_vals _ _ _ _ hk])
    have HTH := Lib.hid hth
    have RTH0 := Lib.hid rth
    have HP4 := Lib.hid f4
    have HQ := Lib.hid hq
    clear hl hth hz e1 e4 f4 hcl hcm n1 n4
    go_enter Try.func4, Try.ntmps4
    go_wp2_with fail
    replace hr := (Rd.allocS hr (.cells #[.slice A l.length cap, .int .i64 q] 24))
    replace rth := (Rd.allocS rth (.cells #[.slice A l.length cap, .int .i64 q] 24))
    have T := (Ob.new w #[.slice A l.length cap, .int .i64 q] 24)
    have bb := (Gw.al (Below.refl w.heap.size w) (.cells #[.slice A l.length cap, .int .i64 q] 24))
    refine (some_any l A cap q l.length _ hr HL.out HW.out (by omega) (by omega)).mono ?_
    rintro e w1 ⟨D1, d1, A1, k1, rfl, q1, o1, -, hb⟩
    have b1 := Gw.call bb hb
    replace T := T.call hb
    replace hr := Rd.up hr hb
    replace rth := Rd.up rth hb
    clear hb bb
    rw [E1.out] at q1 ⊢
    rw [F1.out]
    have c0T := T.blk.2.1 0 _ rfl
    have c1T := T.blk.2.1 1 _ rfl
    have lT := T.lt
    go_wp2_with fail
    clear c0T c1T lT
    replace T := (T.alloc (.cells #[.slice A1 l.length k1, .int .i64 q] 24))
    replace q1 := (q1.alloc (.cells #[.slice A1 l.length k1, .int .i64 q] 24))
    replace o1 := (o1.alloc (.cells #[.slice A1 l.length k1, .int .i64 q] 24))
    replace hr := (Rd.allocS hr (.cells #[.slice A1 l.length k1, .int .i64 q] 24))
    replace rth := (Rd.allocS rth (.cells #[.slice A1 l.length k1, .int .i64 q] 24))
    have X1 := (Ob.new w1 #[.slice A1 l.length k1, .int .i64 q] 24)
    have bb := (Gw.al b1 (.cells #[.slice A1 l.length k1, .int .i64 q] 24))
    refine (some_any l A1 k1 q l.length _ (o1.rd (int_len .u32)) HL.out HW.out (by omega) (by omega)).mono ?_
    rintro e w2 ⟨D2, d2, A2, k2, rfl, q2, o2, -, hb⟩
    have b2 := Gw.call bb hb
    replace T := T.call hb
    replace X1 := X1.call hb
    replace q1 := Own.below q1 hb
    replace o1 := Own.below o1 hb
    replace hr := Rd.up hr hb
    replace rth := Rd.up rth hb
    clear hb bb b1
    rw [E1.out] at q2 ⊢
    rw [F1.out]
    have c0T := T.blk.2.1 0 _ rfl
    have c1T := T.blk.2.1 1 _ rfl
    have lT := T.lt
    have c0X1 := X1.blk.2.1 0 _ rfl
    have c1X1 := X1.blk.2.1 1 _ rfl
    have lX1 := X1.lt
    go_upto_region 5 with fail
    clear c0T c1T lT c0X1 c1X1 lX1
    replace T := (T.alloc (.cells #[.slice A2 l.length k2, .int .i64 q] 24))
    replace X1 := (X1.alloc (.cells #[.slice A2 l.length k2, .int .i64 q] 24))
    replace q1 := (q1.alloc (.cells #[.slice A2 l.length k2, .int .i64 q] 24))
    replace o1 := (o1.alloc (.cells #[.slice A2 l.length k2, .int .i64 q] 24))
    replace q2 := (q2.alloc (.cells #[.slice A2 l.length k2, .int .i64 q] 24))
    replace o2 := (o2.alloc (.cells #[.slice A2 l.length k2, .int .i64 q] 24))
    replace hr := (Rd.allocS hr (.cells #[.slice A2 l.length k2, .int .i64 q] 24))
    replace rth := (Rd.allocS rth (.cells #[.slice A2 l.length k2, .int .i64 q] 24))
    have X2 := (Ob.new w2 #[.slice A2 l.length k2, .int .i64 q] 24)
    have bb := (Gw.al b2 (.cells #[.slice A2 l.length k2, .int .i64 q] 24))
    have b := Below.refl (w2.alloc (.cells #[.slice A2 l.length k2, .int .i64 q] 24)).heap.size (w2.alloc (.cells #[.slice A2 l.length k2, .int .i64 q] 24))
    obtain ⟨bA, oA, rfl, hbA, cA⟩ := hr.int1 HZ.out
    obtain ⟨bD, oD, rfl, hbD, cD⟩ := (q1.rd (int_len .u32)).int1 HZ1.out
    have cD : (w2.alloc (.cells #[.slice A2 l.length k2, .int .i64 q] 24)).cell? ⟨bD, oD, none⟩ = some (.int .u32 z) := by simpa using cD
    have SA1 : Hid (∀ W, Below (w2.alloc (.cells #[.slice A2 l.length k2, .int .i64 q] 24)).heap.size (w2.alloc (.cells #[.slice A2 l.length k2, .int .i64 q] 24)) W → Calls Try.prog 13 #[.agg #[.slice A1 l.length k1, .int .i64 q], .agg #[.slice (some ⟨bA, oA, none⟩) l.length cap, .int .i64 q]] W fun e w' => e = .returned (.bool true) ∧ Below W.heap.size W w') := Lib.hid (fun W hb => by
      have := tsame_any l l A1 (some ⟨bA, oA, none⟩) l.length l.length k1 cap q W ((o1.rd (int_len .u32)).up hb) (hr.up hb) rfl rfl (by have := HL.out; omega) (by have := HL.out; omega)
      rwa [decide_eq_true rfl] at this)
    have SA2 : Hid (∀ W, Below (w2.alloc (.cells #[.slice A2 l.length k2, .int .i64 q] 24)).heap.size (w2.alloc (.cells #[.slice A2 l.length k2, .int .i64 q] 24)) W → Calls Try.prog 13 #[.agg #[.slice A2 l.length k2, .int .i64 q], .agg #[.slice (some ⟨bA, oA, none⟩) l.length cap, .int .i64 q]] W fun e w' => e = .returned (.bool true) ∧ Below W.heap.size W w') := Lib.hid (fun W hb => by
      have := tsame_any l l A2 (some ⟨bA, oA, none⟩) l.length l.length k2 cap q W ((o2.rd (int_len .u32)).up hb) (hr.up hb) rfl rfl (by have := HL.out; omega) (by have := HL.out; omega)
      rwa [decide_eq_true rfl] at this)
    have SA3 : Hid (∀ W, Below (w2.alloc (.cells #[.slice A2 l.length k2, .int .i64 q] 24)).heap.size (w2.alloc (.cells #[.slice A2 l.length k2, .int .i64 q] 24)) W → Calls Try.prog 14 #[.slice (some ⟨bD, oD, none⟩) L1.length d1, .slice D2 L1.length d2] W fun e w' => e = .returned (.bool true) ∧ Below W.heap.size W w') := Lib.hid (fun W hb => by
      have := nums_any L1 L1 (some ⟨bD, oD, none⟩) D2 L1.length L1.length d1 d2 W ((q1.rd (int_len .u32)).up hb) ((q2.rd (int_len .u32)).up hb) rfl rfl HB1.out HB1.out
      rwa [decide_eq_true rfl] at this)
    have HB : Hid (∀ W, Below (w2.alloc (.cells #[.slice A2 l.length k2, .int .i64 q] 24)).heap.size (w2.alloc (.cells #[.slice A2 l.length k2, .int .i64 q] 24)) W → W.cell? ⟨w.heap.size, 0, none⟩ = some (.slice (some ⟨bA, oA, none⟩) l.length cap) ∧ W.cell? ⟨w.heap.size, 1, none⟩ = some (.int .i64 q) ∧ W.cell? ⟨w1.heap.size, 0, none⟩ = some (.slice A1 l.length k1) ∧ W.cell? ⟨w1.heap.size, 1, none⟩ = some (.int .i64 q) ∧ W.cell? ⟨w2.heap.size, 0, none⟩ = some (.slice A2 l.length k2) ∧ W.cell? ⟨w2.heap.size, 1, none⟩ = some (.int .i64 q) ∧ W.cell? ⟨bD, oD, none⟩ = some (.int .u32 z) ∧ W.cell? ⟨bA, oA + q, none⟩ = some (.int .u32 z)) := Lib.hid fun W hb =>
      ⟨(T.call hb).blk.2.1 0 _ rfl, (T.call hb).blk.2.1 1 _ rfl, (X1.call hb).blk.2.1 0 _ rfl, (X1.call hb).blk.2.1 1 _ rfl, (X2.call hb).blk.2.1 0 _ rfl, (X2.call hb).blk.2.1 1 _ rfl, (hb.cell (p := ⟨bD, oD, none⟩) hbD).trans cD, (hb.cell (p := ⟨bA, oA + q, none⟩) hbA).trans cA⟩
    clear cA cD hbA hbD
    obtain ⟨g1, g2, g3, g4, g5, g6, g7, g8⟩ := HB.out _ b
    go_region_held3 (fun W => W.cell? ⟨w.heap.size, 0, none⟩ = some (.slice (some ⟨bA, oA, none⟩) l.length cap) ∧ W.cell? ⟨w.heap.size, 1, none⟩ = some (.int .i64 q) ∧ W.cell? ⟨w1.heap.size, 0, none⟩ = some (.slice A1 l.length k1) ∧ W.cell? ⟨w1.heap.size, 1, none⟩ = some (.int .i64 q) ∧ W.cell? ⟨w2.heap.size, 0, none⟩ = some (.slice A2 l.length k2) ∧ W.cell? ⟨w2.heap.size, 1, none⟩ = some (.int .i64 q) ∧ W.cell? ⟨bD, oD, none⟩ = some (.int .u32 z) ∧ W.cell? ⟨bA, oA + q, none⟩ = some (.int .u32 z)) (first | exact HB.out _ b | exact HB.out _ (Below.drew b)) (first
      | ((with_reducible show Calls _ _ _ _ _); go_at_call 13; (with_reducible refine (SA1.out _ (by first | exact b | exact Below.drew b)).mono ?_); rintro e va ⟨rfl, hb⟩; replace b := (by first | exact Gw.call b hb | exact Gw.call (Below.drew b) hb); clear hb)
      | ((with_reducible show Calls _ _ _ _ _); go_at_call 13; (with_reducible refine (SA2.out _ (by first | exact b | exact Below.drew b)).mono ?_); rintro e vb ⟨rfl, hb⟩; replace b := (by first | exact Gw.call b hb | exact Gw.call (Below.drew b) hb); clear hb)
      | ((with_reducible show Calls _ _ _ _ _); go_at_call 14; (with_reducible refine (SA3.out _ (by first | exact b | exact Below.drew b)).mono ?_); rintro e vc ⟨rfl, hb⟩; replace b := (by first | exact Gw.call b hb | exact Gw.call (Below.drew b) hb); clear hb)
      | fail)
    clear g1 g2 g3 g4 g5 g6 g7 g8 SA1 SA2 SA3 HB
    have hb := b
    clear b
    have b3 := Gw.call bb hb
    replace T := T.call hb
    clear X1
    clear X2
    clear q1
    clear o1
    clear q2
    clear o2
    replace hr := Rd.up hr hb
    replace rth := Rd.up rth hb
    clear hb bb b2
    have c0T := T.blk.2.1 0 _ rfl
    have c1T := T.blk.2.1 1 _ rfl
    have lT := T.lt
    go_wp2_with fail
    clear c0T c1T lT
    have bb := b3
    refine (some_any l _ cap q m _ hr HL.out HW.out (by omega) (by omega)).mono ?_
    rintro e w4 ⟨D4, d4, A4, k4, rfl, q4, o4, -, hb⟩
    have b4 := Gw.call bb hb
    replace T := T.call hb
    replace hr := Rd.up hr hb
    replace rth := Rd.up rth hb
    clear hb bb b3
    rw [E4.out] at q4 ⊢
    rw [F4.out]
    have c0T := T.blk.2.1 0 _ rfl
    have c1T := T.blk.2.1 1 _ rfl
    have lT := T.lt
    have z9 := Gw.sub b4
    have lq := Own.hi q4
    have l4 := Own.hi o4
    go_wp2_with fail
    clear c0T c1T lT
    replace T := ((T.alloc (.cells #[.slice A4 l.length k4, .int .i64 P4] 24)).alloc (.cells #[.slice (some ⟨bA, oA, none⟩) l.length cap, .int .i64 q] 24))
    replace q4 := ((q4.alloc (.cells #[.slice A4 l.length k4, .int .i64 P4] 24)).alloc (.cells #[.slice (some ⟨bA, oA, none⟩) l.length cap, .int .i64 q] 24))
    replace o4 := ((o4.alloc (.cells #[.slice A4 l.length k4, .int .i64 P4] 24)).alloc (.cells #[.slice (some ⟨bA, oA, none⟩) l.length cap, .int .i64 q] 24))
    replace hr := (Rd.allocS (Rd.allocS hr (.cells #[.slice A4 l.length k4, .int .i64 P4] 24)) (.cells #[.slice (some ⟨bA, oA, none⟩) l.length cap, .int .i64 q] 24))
    replace rth := (Rd.allocS (Rd.allocS rth (.cells #[.slice A4 l.length k4, .int .i64 P4] 24)) (.cells #[.slice (some ⟨bA, oA, none⟩) l.length cap, .int .i64 q] 24))
    have XW := ((Ob.new w4 #[.slice A4 l.length k4, .int .i64 P4] 24).alloc (.cells #[.slice (some ⟨bA, oA, none⟩) l.length cap, .int .i64 q] 24))
    have NB := (Ob.new (w4.alloc (.cells #[.slice A4 l.length k4, .int .i64 P4] 24)) #[.slice (some ⟨bA, oA, none⟩) l.length cap, .int .i64 q] 24)
    simp only [World.size_alloc] at NB
    have bb := (Gw.al (Gw.al b4 (.cells #[.slice A4 l.length k4, .int .i64 P4] 24)) (.cells #[.slice (some ⟨bA, oA, none⟩) l.length cap, .int .i64 q] 24))
    go_loopw [113] (fun i wr => ∃ k : Nat, k ≤ m ∧ i = .int .i64 k ∧ Below w.heap.size w wr ∧ ∃ An cn, Ob wr (w4.heap.size + 1) #[.slice An l.length cn, .int .i64 (pos l q k)] 24 ∧ Rd (fun z : Int => [Value.int .u32 z]) 1 wr.heap.size wr An l ∧ Ob wr w4.heap.size #[.slice A4 l.length k4, .int .i64 P4] 24 ∧ Own (fun z : Int => [Value.int .u32 z]) 1 34 vc.heap.size wr (.slice D4 L4.length d4) L4 ∧ Own (fun z : Int => [Value.int .u32 z]) 1 34 vc.heap.size wr (.slice A4 l.length k4) l) (fun i _ => m - (intOf i).toNat)
    case atStart => exact ⟨0, Nat.zero_le _, rfl, bb, _, cap, by rw [pos_start (.inl HQ.out)]; exact NB, hr, XW, q4, o4⟩
    case round =>
      clear NB XW q4 o4 hr T rth bb
      obtain ⟨k, hk, rfl, hw, An, cn, NB, ro, XW, q4, o4⟩ := hrel
      by_cases hlt : k < m
      · have hlt4 : (k : Int) < (L4.length : Int) := by rw [HN4.out]; omega
        obtain ⟨x, hx⟩ : ∃ x, th[k]? = some x := ⟨_, List.getElem?_eq_getElem (by omega)⟩
        have hx1 := HTH.out x (List.mem_of_getElem? hx)
        obtain ⟨bT, oT, rfl, _, eT⟩ := (RTH0.out.up hw).int1 hx
        obtain ⟨V, hVd⟩ : ∃ V, val l q k = V := ⟨_, rfl⟩
        have hV1 := val_in HW.out q k
        rw [hVd] at hV1
        obtain ⟨Z, hZ⟩ : ∃ Z, x + 1 = Z := ⟨_, rfl⟩
        have hZ1 : 1 ≤ Z := by omega
        have hZ2 : Z ≤ 65536 := by omega
        obtain ⟨G, hG⟩ : ∃ G, V % Z = G := ⟨_, rfl⟩
        have hG1 : 0 ≤ G := by rw [← hG]; exact Int.emod_nonneg _ (by omega)
        have hG2 : G < Z := by rw [← hG]; exact Int.emod_lt_of_pos V (by omega)
        have hpl : plc l (pos l q k : Int) = pos l q k := by unfold plc; have := @pos_ok l q k; split <;> omega
        have OV := Lib.hid (show drawnV l (pos l q k : Int) Z = G by unfold drawnV; rw [if_neg (by omega), hpl, val_pos (.inl HQ.out), Nat.add_zero, hVd, hG])
        have OP := Lib.hid (show drawnP l (pos l q k : Int) Z = pos l q (k + 1) by unfold drawnP; rw [if_neg (by omega), hpl, pos_pos (.inl HQ.out)])
        have HV := Lib.hid (show L4[k]? = some V by rw [← hVd]; exact H4.out k hlt)
        obtain ⟨bS, oS, rfl, _, eS⟩ := (q4.rd (int_len .u32)).int1 HV.out
        clear hx hVd hpl eS
        have z0 := NB.lt
        have c0NB := NB.blk.2.1 0 _ rfl
        have c1NB := NB.blk.2.1 1 _ rfl
        have lNB := NB.lt
        have c0XW := XW.blk.2.1 0 _ rfl
        have c1XW := XW.blk.2.1 1 _ rfl
        have lXW := XW.lt
        go_wp2_with fail
        clear c0NB c1NB lNB c0XW c1XW lXW
        have bb := hw
        refine (draw_any l An cn (pos l q k) Z _ ro HL.out HW.out (by omega)).mono ?_
        rintro e w1 ⟨A6, k6, rfl, o6, hb⟩
        have b1 := Gw.call bb hb
        replace NB := NB.call hb
        replace XW := XW.call hb
        replace q4 := Own.below q4 hb
        replace o4 := Own.below o4 hb
        clear ro
        clear hb bb
        rw [OV.out, OP.out]
        obtain ⟨b9, o9, h9, _, e5⟩ := (q4.rd (int_len .u32)).int1 HV.out
        cases h9
        have z1 := NB.lt
        have c0NB := NB.blk.2.1 0 _ rfl
        have c1NB := NB.blk.2.1 1 _ rfl
        have lNB := NB.lt
        have c0XW := XW.blk.2.1 0 _ rfl
        have c1XW := XW.blk.2.1 1 _ rfl
        have lXW := XW.lt
        have ne1 : ¬ w4.heap.size + 1 = w1.heap.size := by omega
        have ne2 : ¬ w1.heap.size = w4.heap.size + 1 := by omega
        have fN := NB.blk.2.2
        go_wp2_with fail
        go_roundw
        case rel =>
          have lo6 : ∀ j, (Value.slice A6 l.length k6).ownBlock = some j → w4.heap.size + 1 < j := fun j hj => by have := Own.lt o6 j hj; omega
          exact ⟨k + 1, by omega, by go_num, Gw.al (Gw.st (Gw.st b1 (p := ⟨(w4.heap.size + 1), 0, none⟩) (by show w.heap.size ≤ (w4.heap.size + 1); omega) (Value.slice A6 l.length k6)) (p := ⟨(w4.heap.size + 1), 1, none⟩) (by show w.heap.size ≤ (w4.heap.size + 1); omega) (.int .i64 (pos l q (k + 1)))) _, A6, k6, Ob.alloc ((NB.set 0 (Value.slice A6 l.length k6)).set 1 (.int .i64 (pos l q (k + 1)))) _, Own.rd (int_len .u32) (Own.alloc (Own.far (p := ⟨(w4.heap.size + 1), 1, none⟩) (Own.far (p := ⟨(w4.heap.size + 1), 0, none⟩) o6 (fun j hj => by have := lo6 j hj; show j ≠ (w4.heap.size + 1); omega) (Value.slice A6 l.length k6)) (fun j hj => by have := lo6 j hj; show j ≠ (w4.heap.size + 1); omega) (.int .i64 (pos l q (k + 1)))) _), Ob.alloc ((XW.far (p := (w4.heap.size + 1)) (j := 0) (by omega) (Value.slice A6 l.length k6)).far (p := (w4.heap.size + 1)) (j := 1) (by omega) (.int .i64 (pos l q (k + 1)))) _, Own.alloc (Own.far (p := ⟨(w4.heap.size + 1), 1, none⟩) (Own.far (p := ⟨(w4.heap.size + 1), 0, none⟩) q4 (fun j hj => by have := lq j hj; show j ≠ (w4.heap.size + 1); omega) (Value.slice A6 l.length k6)) (fun j hj => by have := lq j hj; show j ≠ (w4.heap.size + 1); omega) (.int .i64 (pos l q (k + 1)))) _, Own.alloc (Own.far (p := ⟨(w4.heap.size + 1), 1, none⟩) (Own.far (p := ⟨(w4.heap.size + 1), 0, none⟩) o4 (fun j hj => by have := l4 j hj; show j ≠ (w4.heap.size + 1); omega) (Value.slice A6 l.length k6)) (fun j hj => by have := l4 j hj; show j ≠ (w4.heap.size + 1); omega) (.int .i64 (pos l q (k + 1)))) _⟩
        case measure => simp [intOf]; omega
      · obtain rfl : k = m := by omega
        rw [HP4.out] at NB
        have c0 := NB.blk.2.1 0 _ rfl
        have c1 := NB.blk.2.1 1 _ rfl
        have d0 := XW.blk.2.1 0 _ rfl
        have d1 := XW.blk.2.1 1 _ rfl
        go_wp2_with fail
        refine (tsame_any l l An A4 l.length l.length cn k4 _ _ ro (o4.rd (int_len .u32)) rfl rfl (by have := HL.out; omega) (by have := HL.out; omega)).mono ?_
        rintro e w7 ⟨rfl, hb⟩
        rw [decide_eq_true rfl]
        have b7 := Gw.call hw hb
        clear hb
        go_wp2_with fail
        refine (awake_any _).mono ?_
        rintro e w8 ⟨rfl, hb⟩
        have b8 := Gw.call b7 hb
        clear hb
        go_wp2_with fail
        go_ret
        exact ⟨rfl, b8⟩
set_option maxHeartbeats 1000000 in
theorem round_any (l th : List Int) (A Ath : Option Addr) (cap cth : Nat) (p : Int) (w : World) (hr : Rd (fun z : Int => [Value.int .u32 z]) 1 w.heap.size w A l) (hl : ∀ x ∈ l, 0 ≤ x ∧ x ≤ 4294967295) (hlm : l.length ≤ maxLen) (rth : Rd (fun z : Int => [Value.int .u16 z]) 1 w.heap.size w Ath th) (hth : ∀ x ∈ th, 0 ≤ x ∧ x ≤ 65535) (hcth : th.length ≤ cth) (hmth : cth ≤ maxLen) :
    Calls Try.prog 4 #[.agg #[.slice A l.length cap, .int .i64 p], .slice Ath th.length cth] w fun e w' => e = .returned (.bool true) ∧ Below w.heap.size w w' := by
  by_cases h : 0 < l.length ∧ l.length ≤ 200 ∧ 0 ≤ p ∧ p < l.length
  · obtain ⟨_, h2, h3, h4⟩ := h
    obtain ⟨q, rfl⟩ : ∃ q : Nat, p = q := ⟨p.toNat, by omega⟩
    exact round_yes l th A Ath cap cth q w hr hl hlm rth hth hcth hmth h2 (by omega)
  · exact round_no l th A Ath cap cth p w h
end Go.Proofs.Ytbdipaooekiofaa
