/-
  PulseQuiet: who is not heard of is suspected just at that tick at which it was quiet for so many (14).
-/
import Derived.Test.YtgkdljfhmflmjaaAwake14
namespace Go.Proofs.Ytgkdljfhmflmjaa
open Go.RowKit
def qL (ic st s : Int) : List Mb := [⟨1, 1, 0⟩, ⟨ic, st, s⟩, ⟨3, 3, 0⟩, ⟨0, 0, 0⟩]
def sq (n s : Nat) : Int := if n ≤ s then 2 else 1
theorem sq_either (n s : Nat) : sq n s = 1 ∨ sq n s = 2 := by unfold sq; split <;> simp
theorem nil_str : strOfNums [] = ⟨#[]⟩ := by rfl
theorem two_str : strOfNums [0, 1] = ⟨#[0, 1]⟩ := by rfl
theorem q_ok {ic s : Int} {n k : Nat} (_ : 0 ≤ (0 : Int)) (h1 : 1 ≤ ic) (h2 : ic ≤ 65535) (h3 : 0 ≤ s) (h4 : s ≤ 255) : ∀ x ∈ qL ic (sq n k) s, x.ok := by
  intro x hx
  simp only [qL, List.mem_cons, List.not_mem_nil, or_false] at hx
  have := sq_either n k
  rcases hx with rfl | rfl | rfl | rfl <;> refine ⟨⟨?_, ?_⟩, ⟨?_, ?_⟩, ?_, ?_⟩ <;> (dsimp only; omega)
theorem q_heard {ic s : Int} {n k : Nat} (h : 1 ≤ ic) : modL (qL ic (sq n k) s) 1 (heardM ic) = qL ic 1 0 := by
  have h3 : sq n k ≠ 3 := by have := sq_either n k; omega
  simp [modL, qL, heardM, h3]
  omega
theorem q_tick {ic : Int} {n s : Nat} (h0 : 1 ≤ n) (h : s ≤ 250) : tickL (qL ic (sq n s) s) 0 n = qL ic (sq n (s + 1)) ((s : Int) + 1) := by
  have hq : q1 (s : Int) = (s : Int) + 1 := by unfold q1; rw [if_pos (by omega)]
  have h2 : upB ⟨3, 3, 0⟩ = false := by decide
  have h3 : upB ⟨0, 0, 0⟩ = false := by decide
  have hu : upB ⟨ic, sq n s, s⟩ = true := by simp [upB, sq_either]
  simp only [tickL, qL, List.mapIdx_cons, List.mapIdx_nil, tick1, h2, h3, hu, hq, goneB, Nat.zero_add, or_true, if_true]
  simp
  unfold sq
  by_cases a : n ≤ s
  · have b : n ≤ s + 1 := by omega
    simp [a, b]
  · by_cases b : n ≤ s + 1
    · have c : (n : Int) ≤ (s : Int) + 1 := by omega
      simp [a, b, c]
    · have c : ¬ (n : Int) ≤ (s : Int) + 1 := by omega
      simp [a, b, c]
theorem q_gone {ic : Int} {n s : Nat} (h0 : 1 ≤ n) (h : s ≤ 250) : goneL (qL ic (sq n s) s) 0 n = if s + 1 = n then [1] else [] := by
  have hq : q1 (s : Int) = (s : Int) + 1 := by unfold q1; rw [if_pos (by omega)]
  simp only [goneL, qL, List.length_cons, List.length_nil, plc, List.getElem?_cons_zero, List.getElem?_cons_succ, goneB, hq]
  unfold sq
  by_cases a : n ≤ s
  · have b : ¬ s + 1 = n := by omega
    simp [a, b]
  · by_cases b : s + 1 = n
    · have c : (n : Int) ≤ (s : Int) + 1 := by omega
      simp [a, b, c]
    · have c : ¬ (n : Int) ≤ (s : Int) + 1 := by omega
      simp [a, b, c]
theorem q_up {ic : Int} {n s : Nat} {q : Int} : upL (qL ic (sq n s) q) = [0, 1] := by
  have hu : upB ⟨ic, sq n s, q⟩ = true := by simp [upB, sq_either]
  have h1 : upB ⟨1, 1, 0⟩ = true := by decide
  have h2 : upB ⟨3, 3, 0⟩ = false := by decide
  have h3 : upB ⟨0, 0, 0⟩ = false := by decide
  simp [upL, qL, plc, hu, h1, h2, h3]
theorem q_rows {B : Nat} {w : World} {A : Option Addr} {ic st s : Int} (h : Rd memc 3 B w A (qL ic st s)) :
    ∃ b o, A = some ⟨b, o, none⟩ ∧ b < B ∧ w.cell? ⟨b, o, none⟩ = some (.int .u16 1) ∧ w.cell? ⟨b, o + 1, none⟩ = some (.int .u8 1) ∧ w.cell? ⟨b, o + 2, none⟩ = some (.int .u8 0) ∧ w.cell? ⟨b, o + 3, none⟩ = some (.int .u16 ic) ∧ w.cell? ⟨b, o + 3 + 1, none⟩ = some (.int .u8 st) ∧ w.cell? ⟨b, o + 3 + 2, none⟩ = some (.int .u8 s) ∧ w.cell? ⟨b, o + 6, none⟩ = some (.int .u16 3) ∧ w.cell? ⟨b, o + 6 + 1, none⟩ = some (.int .u8 3) ∧ w.cell? ⟨b, o + 6 + 2, none⟩ = some (.int .u8 0) ∧ w.cell? ⟨b, o + 9, none⟩ = some (.int .u16 0) ∧ w.cell? ⟨b, o + 9 + 1, none⟩ = some (.int .u8 0) ∧ w.cell? ⟨b, o + 9 + 2, none⟩ = some (.int .u8 0) := by
  obtain ⟨b, o, rfl, hb, e0, e1, e2⟩ := h.mem3 (k := 0) rfl
  obtain ⟨_, _, e, _, f0, f1, f2⟩ := h.mem3 (k := 1) rfl
  cases e
  obtain ⟨_, _, e, _, g0, g1, g2⟩ := h.mem3 (k := 2) rfl
  cases e
  obtain ⟨_, _, e, _, i0, i1, i2⟩ := h.mem3 (k := 3) rfl
  cases e
  exact ⟨b, o, rfl, hb, e0, e1, e2, f0, f1, f2, g0, g1, g2, i0, i1, i2⟩
set_option maxRecDepth 100000 in
set_option maxHeartbeats 8000000 in
theorem pquiet_any (inc : Int) (af at' : Nat) (w : World) (hi : 0 ≤ inc ∧ inc ≤ 65535) (ha : af ≤ 255) (hta : at' ≤ 255) :
    Calls Try.prog 3 #[.int .u16 inc, .int .u8 af, .int .u8 at'] w fun e w' => e = .returned (.bool true) ∧ Below w.heap.size w w' := by
  obtain ⟨n, hn⟩ : ∃ n : Nat, n = 1 + af % 100 := ⟨_, rfl⟩
  have n1 : 1 ≤ n := by omega
  have n100 : n ≤ 100 := by omega
  have hrem : (1 : Int) + (af : Int).tmod 100 = (n : Int) := by rw [Int.tmod_eq_emod_of_nonneg (by omega)]; omega
  have hrem2 : (1 : Int) + ((af : Int) % 100) = (n : Int) := by omega
  obtain ⟨ic, hic⟩ : ∃ ic : Int, ic = max inc 1 := ⟨_, rfl⟩
  have hmx : (if inc < 1 then 1 else inc) = ic := by split <;> omega
  have ic1 : 1 ≤ ic := by omega
  have ic2 : ic ≤ 65535 := by omega
  obtain ⟨hi0, hi1⟩ := hi
  have HIC := Lib.hid ic1
  clear hn hic
  go_enter Try.func3, Try.ntmps3
  go_wp2_with fail
  clear hrem hrem2
  refine (new_any 4 _ (by omega) (by omega)).mono ?_
  rintro e w1 ⟨A1, c1, rfl, o1, hb⟩
  have bl := Gw.call (Below.refl w.heap.size w) hb
  clear hb
  rw [show List.replicate 4 zeroM = [⟨0, 0, 0⟩, ⟨0, 0, 0⟩, ⟨0, 0, 0⟩, ⟨0, 0, 0⟩] by decide] at o1
  go_wp2_with fail
  refine (heard_any [⟨0, 0, 0⟩, ⟨0, 0, 0⟩, ⟨0, 0, 0⟩, ⟨0, 0, 0⟩] A1 c1 0 1 _ (o1.rd memc_len) (by simp) (by omega) (by omega)).mono ?_
  rintro e w2 ⟨A2, c2, rfl, o2, hb⟩
  replace bl := Gw.call bl hb
  clear hb o1
  rw [show modL [⟨0, 0, 0⟩, ⟨0, 0, 0⟩, ⟨0, 0, 0⟩, ⟨0, 0, 0⟩] (0 : Int).toNat (heardM 1) = [⟨1, 1, 0⟩, ⟨0, 0, 0⟩, ⟨0, 0, 0⟩, ⟨0, 0, 0⟩] by decide] at o2
  go_wp2_with fail
  refine (heard_any [⟨1, 1, 0⟩, ⟨0, 0, 0⟩, ⟨0, 0, 0⟩, ⟨0, 0, 0⟩] A2 c2 1 ic _ (o2.rd memc_len) (by simp) (by omega) (by omega)).mono ?_
  rintro e w3 ⟨A3, c3, rfl, o3, hb⟩
  replace bl := Gw.call bl hb
  clear hb o2
  rw [show modL [⟨1, 1, 0⟩, ⟨0, 0, 0⟩, ⟨0, 0, 0⟩, ⟨0, 0, 0⟩] (1 : Int).toNat (heardM ic) = [⟨1, 1, 0⟩, ⟨ic, 1, 0⟩, ⟨0, 0, 0⟩, ⟨0, 0, 0⟩] by (simp [modL, heardM]; omega)] at o3
  go_wp2_with fail
  refine (left_any [⟨1, 1, 0⟩, ⟨ic, 1, 0⟩, ⟨0, 0, 0⟩, ⟨0, 0, 0⟩] A3 c3 2 3 _ (o3.rd memc_len) (by simp) (by omega) (by omega)).mono ?_
  rintro e w4 ⟨A4, c4, rfl, o4, hb⟩
  replace bl := Gw.call bl hb
  clear hb o3
  rw [show modL [⟨1, 1, 0⟩, ⟨ic, 1, 0⟩, ⟨0, 0, 0⟩, ⟨0, 0, 0⟩] (2 : Int).toNat (leftM 3) = (qL ic 1 0) by rfl] at o4
  go_wp2_with fail
  go_loopw [8, 9, 10, 11, 12, 28] (fun l s0 _ _ _ i wr => ∃ (k s : Nat) (A : Option Addr) (c : Nat), k ≤ 250 ∧ s ≤ k ∧ i = .int .i64 k ∧ l = .slice A 4 c ∧ s0 = .int .i64 s ∧ Rd memc 3 wr.heap.size wr A (qL ic (sq n s) s) ∧ Below w.heap.size w wr) (fun _ _ _ _ _ i _ => 250 - (intOf i).toNat)
  case atStart => exact ⟨0, 0, A4, c4, by omega, by omega, rfl, rfl, rfl, by rw [show sq n 0 = 1 by unfold sq; rw [if_neg (by omega)]]; exact o4.rd memc_len, bl⟩
  case round =>
    clear bl
    obtain ⟨k, s, A, c, hk, hs, rfl, rfl, rfl, r, bl⟩ := hrel
    by_cases hlt : k < 250
    · by_cases hat : k = at'
      · have t1 : ((k : Int) == (at' : Int)) = true := by rw [beq_iff_eq]; omega
        go_wp2_with fail
        refine (heard_any (qL ic (sq n s) s) A c 1 ic _ r (by simp [qL]) (by omega) (by omega)).mono ?_
        rintro e w5 ⟨A5, c5, rfl, o5, hb⟩
        replace bl := Gw.call bl hb
        clear hb r hs
        rw [show (1 : Int).toNat = 1 from rfl, q_heard ic1] at o5
        have r5 := o5.rd memc_len
        clear o5
        obtain ⟨b5, p5, rfl, hb5, e00, e01, e02, e10, e11, e12, e20, e21, e22, e30, e31, e32⟩ := q_rows r5
        rw [show (1 : Int) = sq n 0 by unfold sq; rw [if_neg (by omega)]] at r5
        go_wp2_with fail
        refine (tick_any (qL ic (sq n 0) 0) (some ⟨b5, p5, none⟩) c5 0 n _ r5 (by simp [qL]) (by omega) (q_ok (by omega) (by omega) (by omega) (by omega) (by omega))).mono ?_
        rintro e w6 ⟨A6, c6, B6, d6, rfl, o6, g6, hb⟩
        replace bl := Gw.call bl hb
        clear hb
        obtain ⟨gl, hgl⟩ : ∃ gl, gl = goneL (qL ic (sq n 0) 0) 0 n := ⟨_, rfl⟩
        rw [← hgl] at g6 ⊢
        rw [show tickL (qL ic (sq n 0) 0) 0 n = qL ic (sq n 1) (1 : Int) from q_tick (s := 0) n1 (by omega)] at o6
        rw [show goneL (qL ic (sq n 0) 0) 0 n = if 1 = n then [1] else [] from q_gone (s := 0) n1 (by omega)] at hgl
        rcases Nat.lt_trichotomy 1 n with h | h | h
        · have HV : Hid (sq n 1 = 1) := Lib.hid (by unfold sq; rw [if_neg (by omega)])
          rw [HV.out] at o6
          rw [if_neg (by omega)] at hgl
          subst hgl
          have t5 : ((1 : Int) == (n : Int)) = false := by rw [beq_eq_false_iff_ne]; omega
          have t6 : ((1 : Int) != (n : Int)) = true := by rw [bne, t5]; rfl
          have t7 : decide ((n : Int) ≤ (1 : Int)) = false := by simp; omega
          have cv := conv_rd Try.underlying28 Try.underlying5 Try.underlying9 (g6.rd (int_len .u8)) 0 d6 rfl
          rw [nil_str] at cv
          obtain ⟨b, o, rfl, hbb, e00, e01, e02, e10, e11, e12, e20, e21, e22, e30, e31, e32⟩ := q_rows (o6.rd memc_len)
          clear g6 h
          go_wp2_with fail
          go_roundw
          case rel => exact ⟨k + 1, 1, some ⟨b, o, none⟩, c6, hlt, by omega, by go_num, rfl, by go_num, by rw [HV.out]; exact o6.rd memc_len, bl⟩
          case measure => simp [intOf]; omega
        · have HV : Hid (sq n 1 = 2) := Lib.hid (by unfold sq; rw [if_pos (by omega)])
          rw [HV.out] at o6
          rw [if_pos h] at hgl
          subst hgl
          have t5 : ((1 : Int) == (n : Int)) = true := by rw [beq_iff_eq]; omega
          have t6 : ((1 : Int) != (n : Int)) = false := by rw [bne, t5]; rfl
          have t7 : decide ((n : Int) ≤ (1 : Int)) = true := by simp; omega
          have cv := conv_rd Try.underlying28 Try.underlying5 Try.underlying9 (g6.rd (int_len .u8)) 1 d6 rfl
          rw [one_str] at cv
          obtain ⟨b, o, rfl, hbb, e00, e01, e02, e10, e11, e12, e20, e21, e22, e30, e31, e32⟩ := q_rows (o6.rd memc_len)
          clear g6 h
          go_wp2_with fail
          go_roundw
          case rel => exact ⟨k + 1, 1, some ⟨b, o, none⟩, c6, hlt, by omega, by go_num, rfl, by go_num, by rw [HV.out]; exact o6.rd memc_len, bl⟩
          case measure => simp [intOf]; omega
        · have HV : Hid (sq n 1 = 2) := Lib.hid (by unfold sq; rw [if_pos (by omega)])
          rw [HV.out] at o6
          rw [if_neg (by omega)] at hgl
          subst hgl
          have t5 : ((1 : Int) == (n : Int)) = false := by rw [beq_eq_false_iff_ne]; omega
          have t6 : ((1 : Int) != (n : Int)) = true := by rw [bne, t5]; rfl
          have t7 : decide ((n : Int) ≤ (1 : Int)) = true := by simp; omega
          have cv := conv_rd Try.underlying28 Try.underlying5 Try.underlying9 (g6.rd (int_len .u8)) 0 d6 rfl
          rw [nil_str] at cv
          obtain ⟨b, o, rfl, hbb, e00, e01, e02, e10, e11, e12, e20, e21, e22, e30, e31, e32⟩ := q_rows (o6.rd memc_len)
          clear g6 h
          go_wp2_with fail
          go_roundw
          case rel => exact ⟨k + 1, 1, some ⟨b, o, none⟩, c6, hlt, by omega, by go_num, rfl, by go_num, by rw [HV.out]; exact o6.rd memc_len, bl⟩
          case measure => simp [intOf]; omega
      · have t1 : ((k : Int) == (at' : Int)) = false := by rw [beq_eq_false_iff_ne]; omega
        go_wp2_with fail
        refine (tick_any (qL ic (sq n s) s) A c 0 n _ r (by simp [qL]) (by omega) (q_ok (by omega) (by omega) (by omega) (by omega) (by omega))).mono ?_
        rintro e w6 ⟨A6, c6, B6, d6, rfl, o6, g6, hb⟩
        replace bl := Gw.call bl hb
        clear hb
        obtain ⟨gl, hgl⟩ : ∃ gl, gl = goneL (qL ic (sq n s) s) 0 n := ⟨_, rfl⟩
        rw [← hgl] at g6 ⊢
        rw [show tickL (qL ic (sq n s) s) 0 n = qL ic (sq n (s + 1)) ((s : Int) + 1) from q_tick (s := s) n1 (by omega)] at o6
        rw [show goneL (qL ic (sq n s) s) 0 n = if (s + 1) = n then [1] else [] from q_gone (s := s) n1 (by omega)] at hgl
        rcases Nat.lt_trichotomy (s + 1) n with h | h | h
        · have HV : Hid (sq n (s + 1) = 1) := Lib.hid (by unfold sq; rw [if_neg (by omega)])
          rw [HV.out] at o6
          rw [if_neg (by omega)] at hgl
          subst hgl
          have t5 : (((s : Int) + 1) == (n : Int)) = false := by rw [beq_eq_false_iff_ne]; omega
          have t6 : (((s : Int) + 1) != (n : Int)) = true := by rw [bne, t5]; rfl
          have t7 : decide ((n : Int) ≤ ((s : Int) + 1)) = false := by simp; omega
          have cv := conv_rd Try.underlying28 Try.underlying5 Try.underlying9 (g6.rd (int_len .u8)) 0 d6 rfl
          rw [nil_str] at cv
          obtain ⟨b, o, rfl, hbb, e00, e01, e02, e10, e11, e12, e20, e21, e22, e30, e31, e32⟩ := q_rows (o6.rd memc_len)
          clear g6 h
          go_wp2_with fail
          go_roundw
          case rel => exact ⟨k + 1, (s + 1), some ⟨b, o, none⟩, c6, hlt, by omega, by go_num, rfl, by go_num, by rw [HV.out]; exact o6.rd memc_len, bl⟩
          case measure => simp [intOf]; omega
        · have HV : Hid (sq n (s + 1) = 2) := Lib.hid (by unfold sq; rw [if_pos (by omega)])
          rw [HV.out] at o6
          rw [if_pos h] at hgl
          subst hgl
          have t5 : (((s : Int) + 1) == (n : Int)) = true := by rw [beq_iff_eq]; omega
          have t6 : (((s : Int) + 1) != (n : Int)) = false := by rw [bne, t5]; rfl
          have t7 : decide ((n : Int) ≤ ((s : Int) + 1)) = true := by simp; omega
          have cv := conv_rd Try.underlying28 Try.underlying5 Try.underlying9 (g6.rd (int_len .u8)) 1 d6 rfl
          rw [one_str] at cv
          obtain ⟨b, o, rfl, hbb, e00, e01, e02, e10, e11, e12, e20, e21, e22, e30, e31, e32⟩ := q_rows (o6.rd memc_len)
          clear g6 h
          go_wp2_with fail
          go_roundw
          case rel => exact ⟨k + 1, (s + 1), some ⟨b, o, none⟩, c6, hlt, by omega, by go_num, rfl, by go_num, by rw [HV.out]; exact o6.rd memc_len, bl⟩
          case measure => simp [intOf]; omega
        · have HV : Hid (sq n (s + 1) = 2) := Lib.hid (by unfold sq; rw [if_pos (by omega)])
          rw [HV.out] at o6
          rw [if_neg (by omega)] at hgl
          subst hgl
          have t5 : (((s : Int) + 1) == (n : Int)) = false := by rw [beq_eq_false_iff_ne]; omega
          have t6 : (((s : Int) + 1) != (n : Int)) = true := by rw [bne, t5]; rfl
          have t7 : decide ((n : Int) ≤ ((s : Int) + 1)) = true := by simp; omega
          have cv := conv_rd Try.underlying28 Try.underlying5 Try.underlying9 (g6.rd (int_len .u8)) 0 d6 rfl
          rw [nil_str] at cv
          obtain ⟨b, o, rfl, hbb, e00, e01, e02, e10, e11, e12, e20, e21, e22, e30, e31, e32⟩ := q_rows (o6.rd memc_len)
          clear g6 h
          go_wp2_with fail
          go_roundw
          case rel => exact ⟨k + 1, (s + 1), some ⟨b, o, none⟩, c6, hlt, by omega, by go_num, rfl, by go_num, by rw [HV.out]; exact o6.rd memc_len, bl⟩
          case measure => simp [intOf]; omega
    · obtain rfl : k = 250 := by omega
      go_wp2_with fail
      refine (up_any (qL ic (sq n s) s) A c _ r (by simp [qL])).mono ?_
      rintro e w6 ⟨A6, c6, rfl, o6, hb⟩
      replace bl := Gw.call bl hb
      clear hb
      rw [q_up] at o6 ⊢
      have cv := conv_rd Try.underlying28 Try.underlying5 Try.underlying9 (o6.rd (int_len .u8)) 2 c6 rfl
      rw [two_str] at cv
      clear o6 r
      go_wp2_with fail
      refine (awake_any _).mono ?_
      rintro e w9 ⟨rfl, hb⟩
      replace bl := Gw.call bl hb
      clear hb
      go_wp2_with fail
      go_ret
      exact ⟨rfl, bl⟩
theorem pquiet_i (inc af tt : Int) (w : World) (hi : 0 ≤ inc ∧ inc ≤ 65535) (ha : 0 ≤ af ∧ af ≤ 255) (ht : 0 ≤ tt ∧ tt ≤ 255) :
    Calls Try.prog 3 #[.int .u16 inc, .int .u8 af, .int .u8 tt] w fun e w' => e = .returned (.bool true) ∧ Below w.heap.size w w' := by
  obtain ⟨a, rfl⟩ := Int.eq_ofNat_of_zero_le ha.1
  obtain ⟨t, rfl⟩ := Int.eq_ofNat_of_zero_le ht.1
  exact pquiet_any inc a t w hi (by omega) (by omega)
end Go.Proofs.Ytgkdljfhmflmjaa
