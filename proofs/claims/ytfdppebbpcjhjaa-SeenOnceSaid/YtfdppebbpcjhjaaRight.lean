/-
  seen.Right, grapevinelaw08.win.
-/
import Derived.Test.YtfdppebbpcjhjaaTake
namespace Go.Proofs.Ytfdppebbpcjhjaa
open Go.RowKit

open Classical in
/-- the row is right for a window -/
noncomputable def rightRow (r : Rw) (m : Int) : Bool := decide (validB m = true ∧ (r.i = 0 → r.p = 0 ∧ r.b = 0) ∧ (¬r.i = 0 → ∀ j, j < 64 → tb r.b j = true → j ≠ 0 ∧ (j : Int) < m ∧ r.p + 1 + j ≤ 4294967295))

theorem tb_high {b : Int} (h : 0 ≤ b) (h1 : b ≤ 18446744073709551615) {j : Nat} (hj : 64 ≤ j) : tb b j = false := by
  rw [tb_nat h]
  have e : (2 : Nat) ^ 64 = 18446744073709551616 := by decide
  exact Nat.testBit_lt_two_pow (Nat.lt_of_lt_of_le (by rw [e]; omega) (Nat.pow_le_pow_right (by omega) hj))
theorem shr_zero {b : Int} (h : 0 ≤ b) (u : Nat) : b / 2 ^ u = 0 ↔ ∀ j, u ≤ j → tb b j = false := by
  obtain ⟨n, rfl⟩ := Int.eq_ofNat_of_zero_le h
  have e : ((n : Int) / 2 ^ u) = ((n / 2 ^ u : Nat) : Int) := by simp
  rw [e]
  constructor
  · intro h0 j hj
    rw [tb_nat h, Int.toNat_natCast]
    have h0' : n / 2 ^ u = 0 := by omega
    have hlt : n < 2 ^ u := by
      rcases Nat.lt_or_ge n (2 ^ u) with h | h
      · exact h
      · have := Nat.div_pos h (Nat.two_pow_pos u); omega
    exact Nat.testBit_lt_two_pow (Nat.lt_of_lt_of_le hlt (Nat.pow_le_pow_right (by omega) hj))
  · intro h0
    have : n / 2 ^ u = 0 := by
      apply Nat.eq_of_testBit_eq
      intro j
      rw [Nat.zero_testBit, Nat.testBit_div_two_pow]
      have := h0 (j + u) (by omega)
      rw [tb_nat h, Int.toNat_natCast] at this
      first | exact this | (rw [Nat.add_comm]; exact this)
    omega
theorem right_bits {r : Rw} {m : Int} (hr : r.ok) (hi : ¬r.i = 0) (hm : validB m = true) {u : Int} (hu : u = min m (4294967295 - r.p)) : rightRow r m = (decide (r.b % 2 = 0) && decide (r.b / 2 ^ u.toNat = 0)) := by
  obtain ⟨_, ⟨h1, h2⟩, h3, h4⟩ := hr
  have hv : 1 ≤ m ∧ m ≤ 64 := by simpa [validB] using hm
  rw [Bool.eq_iff_iff]
  simp only [rightRow, hm, decide_eq_true_iff, Bool.and_eq_true, true_and]
  rw [shr_zero h3]
  constructor
  · rintro ⟨_, h⟩
    have h := h hi
    refine ⟨?_, fun j hj => ?_⟩
    · have h0 := h 0 (by omega)
      rw [tb_zero] at h0
      simp at h0
      omega
    · rcases Nat.lt_or_ge j 64 with h64 | h64
      · rcases hb : tb r.b j with _ | _
        · rfl
        · have := h j h64 hb; omega
      · exact tb_high h3 h4 h64
  · rintro ⟨h0, h⟩
    refine ⟨fun e => absurd e hi, fun _ j hj hb => ⟨?_, ?_, ?_⟩⟩
    · rintro rfl
      rw [tb_zero] at hb; simp at hb; omega
    · rcases Nat.lt_or_ge j u.toNat with hlt | hge
      · omega
      · rw [h j hge] at hb; cases hb
    · rcases Nat.lt_or_ge j u.toNat with hlt | hge
      · omega
      · rw [h j hge] at hb; cases hb

theorem eql_rw (x y : Rw) (w : World) : (binOp .eql 31 (rwv x) (rwv y)).run Try.prog w = .ok (.bool (decide (x = y))) w := by
  go_simp
  by_cases h0 : x.i = y.i <;> by_cases h1 : x.p = y.p <;> by_cases h2 : x.b = y.b <;> simp [rw_ext, h0, h1, h2]
theorem neq_rw (x y : Rw) (w : World) : (binOp .neq 31 (rwv x) (rwv y)).run Try.prog w = .ok (.bool (decide (x ≠ y))) w := by
  go_simp
  by_cases h0 : x.i = y.i <;> by_cases h1 : x.p = y.p <;> by_cases h2 : x.b = y.b <;> simp [rw_ext, h0, h1, h2]

set_option maxHeartbeats 1000000 in
theorem rright_any (r : Rw) (m : Int) (hr : r.ok) (w : World) :
    Calls Try.prog 12 #[rwv r, .int .i64 m] w fun e w' => e = .returned (.bool (rightRow r m)) ∧ Below w.heap.size w w' := by
  have b0 := Gw.al (Below.refl w.heap.size w) (.cells #[.int .u16 r.i, .int .u32 r.p, .int .u64 r.b] 31)
  have HV := Lib.hid (fun W => valid_any m W)
  obtain ⟨⟨h1, h2⟩, ⟨h3, h4⟩, h5, h6⟩ := id hr
  cases hv : validB m
  · go_enter Try.func12, Try.ntmps12
    go_wp2_with (go_at_call 21; (with_reducible refine (HV.out _).mono ?_); rintro e w1 ⟨rfl, rfl⟩)
    go_ret
    exact ⟨ret_bool (by simp [rightRow, hv]), b0⟩
  · have hv' : 1 ≤ m ∧ m ≤ 64 := by simpa [validB] using hv
    cases e1 : (r.i == 0)
    · have HR := Lib.hid (right_bits hr (by simpa using e1) hv rfl)
      have hand := and_one_u64 r.b h5 h6
      by_cases hmin : ¬4294967295 - r.p < m
      · have hu : min m (4294967295 - r.p) = m := by omega
        rw [hu] at HR
        clear hu
        go_enter Try.func12, Try.ntmps12
        go_wp2_with (go_at_call 21; (with_reducible refine (HV.out _).mono ?_); rintro e w1 ⟨rfl, rfl⟩)
        all_goals go_ret
        all_goals refine ⟨ret_bool ?_, b0⟩
        all_goals go_tidy
        all_goals rw [HR.out, Bool.eq_iff_iff]
        all_goals simp
        all_goals omega
      · have hu : min m (4294967295 - r.p) = 4294967295 - r.p := by omega
        rw [hu] at HR
        clear hu
        go_enter Try.func12, Try.ntmps12
        go_wp2_with (go_at_call 21; (with_reducible refine (HV.out _).mono ?_); rintro e w1 ⟨rfl, rfl⟩)
        all_goals go_ret
        all_goals refine ⟨ret_bool ?_, b0⟩
        all_goals go_tidy
        all_goals rw [HR.out, Bool.eq_iff_iff]
        all_goals simp
        all_goals omega
    · have hax := eql_rw r ⟨0, 0, 0⟩
      go_enter Try.func12, Try.ntmps12
      go_wp2_with (go_at_call 21; (with_reducible refine (HV.out _).mono ?_); rintro e w1 ⟨rfl, rfl⟩)
      go_ret
      refine ⟨ret_bool ?_, b0⟩
      simp at e1
      show decide (r = ⟨0, 0, 0⟩) = _
      rw [Bool.eq_iff_iff, decide_eq_true_iff, rw_ext]
      simp [rightRow, hv, e1]

theorem win_any (n : Int) (hn : 0 ≤ n ∧ n ≤ 255) (w : World) : Calls Try.prog 9 #[.int .u8 n] w fun e w' => e = .returned (.int .i64 (1 + n % 64)) ∧ w = w' := by
  go_enter Try.func9, Try.ntmps9
  go_wp2
  go_ret
  exact ⟨rfl, rfl⟩
end Go.Proofs.Ytfdppebbpcjhjaa
