/-
  grapevineref08's functions: the same answers as the program's.
-/
import Derived.Test.YthockpallaoelaaRight
import Derived.Deep.RegionHeld3
namespace Go.Proofs.Ythockpallaoelaa
open Go.RowKit

theorem tb_shift {b : Int} (h : 0 ≤ b) (k j : Nat) : tb (b / 2 ^ k) j = tb b (k + j) := by
  induction k generalizing j with
  | zero => simp
  | succ k ih =>
    have e : b / 2 ^ (k + 1) = b / 2 ^ k / 2 := by rw [Int.pow_succ, Int.ediv_ediv_of_nonneg (by have : (0:Int) < 2 ^ k := Int.pow_pos (by decide); omega)]
    rw [e, tb_div (div_pow_le h).1, ih]
    congr 1
    omega
theorem div_half {b : Int} (k : Nat) : b / 2 ^ (k + 1) = b / 2 ^ k / 2 := by
  rw [Int.pow_succ, Int.ediv_ediv_of_nonneg (by have : (0:Int) < 2 ^ k := Int.pow_pos (by decide); omega)]

set_option maxHeartbeats 800000 in
theorem on_any (b : Int) (i : Nat) (hb0 : 0 ≤ b) (hb1 : b ≤ 18446744073709551615) (hi : i < 64) (w : World) :
    Calls Try.prog 37 #[.int .u64 b, .int .i64 i] w fun e w' => e = .returned (.bool (tb b i)) ∧ w = w' := by
  go_enter Try.func37, Try.ntmps37
  go_wp2_with fail
  go_loop [0, 5] (fun v c => ∃ k : Nat, k ≤ i ∧ c = .int .i64 k ∧ v = .int .u64 (b / 2 ^ k)) (fun _ c => i - (intOf c).toNat)
  case atStart => exact ⟨0, Nat.zero_le _, rfl, by simp⟩
  case round =>
    obtain ⟨k, hk, rfl, rfl⟩ := hrel
    have hd := div_pow_le (j := k) hb0
    have hd1 : b / 2 ^ k ≤ 18446744073709551615 := by omega
    obtain ⟨hd0, _⟩ := hd
    by_cases hlt : k < i
    · have HE := Lib.hid (div_half (b := b) k)
      generalize b / 2 ^ k = q at *
      go_wp2_with fail
      go_round
      case rel => exact ⟨k + 1, by omega, by go_num, by rw [HE.out]⟩
      case measure => simp [intOf]; omega
    · obtain rfl : k = i := by omega
      have ht : tb b k = decide (b / 2 ^ k % 2 = 1) := rfl
      have HT := Lib.hid ht
      clear ht
      generalize b / 2 ^ k = q at *
      go_wp2_with fail
      go_ret
      refine ⟨ret_bool ?_, rfl⟩
      rw [HT.out, Bool.eq_iff_iff]
      simp

set_option maxHeartbeats 800000 in
theorem refseen_any (r : Rw) (n : Int) (hr : r.ok) (hn : 0 ≤ n ∧ n ≤ 4294967295) (w : World) :
    Calls Try.prog 42 #[rwv r, .int .u32 n] w fun e w' => e = .returned (.bool (seenB r n)) ∧ Below w.heap.size w w' := by
  obtain ⟨⟨h1, h2⟩, ⟨h3, h4⟩, h5, h6⟩ := hr
  cases e0 : (n == 0)
  · by_cases k1 : n ≤ r.p
    · go_enter Try.func42, Try.ntmps42
      go_wp2_with fail
      all_goals go_ret
      all_goals refine ⟨ret_bool ?_, (Below.refl _ _).alloc (Nat.le_refl _) _⟩
      all_goals go_tidy
      simp at e0
      rw [Bool.eq_iff_iff]; simp [seenB]; omega
    · by_cases k2 : n - r.p - 1 < 64
      · obtain ⟨j, hj⟩ : ∃ j : Nat, n - r.p - 1 = j := ⟨(n - r.p - 1).toNat, by omega⟩
        have ho := fun W => on_any r.b j h5 h6 (by omega) W
        have HO := Lib.hid ho
        clear ho
        go_enter Try.func42, Try.ntmps42
        go_wp2_with (go_at_call 37; (with_reducible refine ((by first | exact HO.out _ | (rw [hj]; exact HO.out _)) : Calls _ _ _ _ _).mono ?_); rintro e w1 ⟨rfl, rfl⟩)
        all_goals go_ret
        all_goals refine ⟨ret_bool ?_, (Below.refl _ _).alloc (Nat.le_refl _) _⟩
        all_goals go_tidy
        simp at e0
        have : j = (n - r.p).toNat - 1 := by omega
        subst this
        simp [seenB, e0, k2, show ¬n ≤ r.p by omega]
      · go_enter Try.func42, Try.ntmps42
        go_wp2_with fail
        all_goals go_ret
        all_goals refine ⟨ret_bool ?_, (Below.refl _ _).alloc (Nat.le_refl _) _⟩
        all_goals go_tidy
        simp at e0
        rw [Bool.eq_iff_iff]; simp [seenB]; omega
  · go_enter Try.func42, Try.ntmps42
    go_wp2_with fail
    all_goals go_ret
    all_goals refine ⟨ret_bool ?_, (Below.refl _ _).alloc (Nat.le_refl _) _⟩
    all_goals go_tidy
    simp at e0
    simp [seenB, e0]

theorem refmark_any (r : Rw) (n : Int) (w : World) :
    Calls Try.prog 34 #[.int .u8 n, rwv r] w fun e w' => e = .returned (.agg #[.int .u8 n, .int .u16 r.i, .int .u32 r.p]) ∧ Below w.heap.size w w' := by
  go_enter Try.func34, Try.ntmps34
  go_wp2_with fail
  refine bodyPost_ret (v := .agg #[.int .u8 n, .int .u16 r.i, .int .u32 r.p]) (by simp [results, Try.results34, go_sem]) rfl ⟨rfl, ((Below.refl _ _).alloc (Nat.le_refl _) _).alloc (by simp) _⟩
set_option maxHeartbeats 2000000 in
theorem refmay_any (r : Rw) (x : Id) (m : Int) (hr : r.ok) (hx : x.ok) (w : World) :
    Calls Try.prog 35 #[rwv r, idv x, .int .i64 m] w fun e w' => e = .returned (.bool (mayB r x m)) ∧ Below w.heap.size w w' := by
  have b0 := Gw.al (Gw.al (Below.refl w.heap.size w) (.cells #[.int .u16 r.i, .int .u32 r.p, .int .u64 r.b] 34)) (.cells #[.int .u8 x.n, .int .u16 x.i, .int .u32 x.s] 30)
  obtain ⟨⟨r1, r2⟩, ⟨r3, r4⟩, r5, r6⟩ := id hr
  obtain ⟨_, ⟨x3, x4⟩, x5, x6⟩ := id hx
  by_cases hv : 1 ≤ m ∧ m ≤ 64
  · obtain ⟨v1, v2⟩ := hv
    cases e1 : (x.i == 0)
    · cases e2 : (x.s == 0)
      · by_cases h3 : x.i < r.i
        · go_enter Try.func35, Try.ntmps35
          go_wp2_with fail
          go_ret
          refine ⟨ret_bool ?_, b0⟩
          rw [Bool.eq_iff_iff]; simp [mayB]; omega
        · by_cases h4 : r.i < x.i
          · go_enter Try.func35, Try.ntmps35
            go_wp2_with fail
            go_ret
            refine ⟨ret_bool ?_, b0⟩
            simp at e1 e2
            have hs : seenB ⟨x.i, 0, 0⟩ x.s = false := by simp [seenB, tb, e2]; omega
            rw [Bool.eq_iff_iff]
            simp [mayB, lim, h4, hs]
            omega
          · have hl : lim r x = r := by simp [lim, h4]
            have HS := Lib.hid (fun W => refseen_any r x.s hr hx.2.2 W)
            have b := Gw.al (Gw.al (Below.refl w.heap.size w) (.cells #[.int .u16 r.i, .int .u32 r.p, .int .u64 r.b] 34)) (.cells #[.int .u8 x.n, .int .u16 x.i, .int .u32 x.s] 30)
            have X := (Blk.new w #[.int .u16 r.i, .int .u32 r.p, .int .u64 r.b] 34).alloc (.cells #[.int .u8 x.n, .int .u16 x.i, .int .u32 x.s] 30)
            have Y := Blk.new (w.alloc (.cells #[.int .u16 r.i, .int .u32 r.p, .int .u64 r.b] 34)) #[.int .u8 x.n, .int .u16 x.i, .int .u32 x.s] 30
            rw [World.size_alloc] at Y
            clear b0
            have HL := Lib.hid hl
            clear hl
            cases hs : seenB r x.s
            all_goals
              go_enter Try.func35, Try.ntmps35
              go_wp2_with (go_at_call 42; (with_reducible refine (HS.out _).mono ?_); rintro e w' ⟨rfl, hb⟩; replace b := (by first | exact Gw.call b hb | exact Gw.call (Gw.al b _) hb | exact Gw.call (Gw.al (Gw.al b _) _) hb | exact Gw.call (Below.drew b) hb | exact Gw.call (Gw.drewN b _) hb); replace X := (by first | exact Blk.call X hb | exact Blk.call (Blk.alloc X _) hb | exact Blk.call (Blk.alloc (Blk.alloc X _) _) hb | exact Blk.call (Blk.drew X) hb | exact Blk.call (Blk.drewN X _) hb); replace Y := (by first | exact Blk.call Y hb | exact Blk.call (Blk.alloc Y _) hb | exact Blk.call (Blk.alloc (Blk.alloc Y _) _) hb | exact Blk.call (Blk.drew Y) hb | exact Blk.call (Blk.drewN Y _) hb); clear hb; obtain ⟨q0X, q1X, q2X⟩ := Blk.c3 X; have qsX := Blk.lt X; obtain ⟨q0Y, q1Y, q2Y⟩ := Blk.c3 Y; have qsY := Blk.lt Y)
              go_ret
              refine ⟨ret_bool ?_, b⟩
              go_tidy
              have hl := HL.out
              simp at e1 e2
              rw [Bool.eq_iff_iff]
              simp [mayB, hl, hs]
              try omega
      · go_enter Try.func35, Try.ntmps35
        go_wp2_with fail
        all_goals go_ret
        all_goals refine ⟨ret_bool ?_, b0⟩
        simp at e2
        simp [mayB, e2]
    · go_enter Try.func35, Try.ntmps35
      go_wp2_with fail
      all_goals go_ret
      all_goals refine ⟨ret_bool ?_, b0⟩
      simp at e1
      simp [mayB, e1]
  · go_enter Try.func35, Try.ntmps35
    go_wp2_with fail
    all_goals go_ret
    all_goals refine ⟨ret_bool ?_, b0⟩
    all_goals (rw [Bool.eq_iff_iff]; simp [mayB]; omega)

set_option maxHeartbeats 2000000 in
theorem refright_any (r : Rw) (m : Int) (hr : r.ok) (w : World) :
    Calls Try.prog 24 #[rwv r, .int .i64 m] w fun e w' => e = .returned (.bool (rightRow r m)) ∧ Below w.heap.size w w' := by
  have b0 := Gw.al (Below.refl w.heap.size w) (.cells #[.int .u16 r.i, .int .u32 r.p, .int .u64 r.b] 34)
  obtain ⟨⟨r1, r2⟩, ⟨r3, r4⟩, r5, r6⟩ := id hr
  by_cases hv : 1 ≤ m ∧ m ≤ 64
  · obtain ⟨v1, v2⟩ := hv
    have hvb : validB m = true := by simp [validB, v1, v2]
    cases e1 : (r.i == 0)
    · have HV := Lib.hid hvb
      clear hvb
      go_enter Try.func24, Try.ntmps24
      go_wp2_with fail
      go_loop [5] (fun c => ∃ k : Nat, k ≤ 64 ∧ c = .int .i64 k ∧ Hid (∀ j, j < k → tb r.b j = true → j ≠ 0 ∧ (j : Int) < m ∧ r.p + 1 + j ≤ 4294967295)) (fun c => 64 - (intOf c).toNat)
      case atStart => exact ⟨0, Nat.zero_le _, rfl, fun j hj => absurd hj (Nat.not_lt_zero _)⟩
      case round =>
        obtain ⟨k, hk, rfl, HH⟩ := hrel
        by_cases hlt : k < 64
        · have HO := Lib.hid (fun W => on_any r.b k r5 r6 hlt W)
          cases ho : tb r.b k
          · rw [ho] at HO
            have HB := Lib.hid ho
            clear ho
            go_wp2_with (go_at_call 37; (with_reducible refine (HO.out _).mono ?_); rintro e w1 ⟨rfl, rfl⟩)
            go_round
            case rel => exact ⟨k + 1, by omega, by go_num, fun j hj ht => (Nat.lt_succ_iff_lt_or_eq.1 hj).elim (fun h => HH.out j h ht) (fun h => by subst h; rw [HB.out] at ht; cases ht)⟩
            case measure => simp [intOf]; omega
          · rw [ho] at HO
            have HB := Lib.hid ho
            clear ho
            have no : ¬(k ≠ 0 ∧ (k : Int) < m ∧ r.p + 1 + k ≤ 4294967295) → rightRow r m = false := fun hno => by
              rw [← Bool.not_eq_true]
              simp only [rightRow, decide_eq_true_iff]
              exact fun ⟨_, _, h3⟩ => hno (h3 (by simpa using e1) k hlt HB.out)
            have NO := Lib.hid no
            clear no
            rcases Nat.eq_zero_or_pos k with hk0 | hk0
            · subst hk0
              replace HO : Hid (∀ W, Calls Try.prog 37 #[.int .u64 r.b, .int .i64 0] W fun e w' => e = .returned (.bool true) ∧ W = w') := HO
              go_wp2_with (go_at_call 37; (with_reducible refine (HO.out _).mono ?_); rintro e w1 ⟨rfl, rfl⟩)
              go_ret
              exact ⟨ret_bool (NO.out (fun h => h.1 rfl)).symm, b0⟩
            · have hk1 : (0 : Int) < k := by omega
              have hk2 : ((k : Int) == 0) = false := by simp; omega
              by_cases hkm : (k : Int) < m
              · by_cases hks : r.p + 1 + k ≤ 4294967295
                · clear NO
                  go_wp2_with (go_at_call 37; (with_reducible refine (HO.out _).mono ?_); rintro e w1 ⟨rfl, rfl⟩)
                  go_round
                  case rel => exact ⟨k + 1, by omega, by go_num, fun j hj ht => (Nat.lt_succ_iff_lt_or_eq.1 hj).elim (fun h => HH.out j h ht) (fun h => by subst h; exact ⟨by omega, hkm, hks⟩)⟩
                  case measure => simp [intOf]; omega
                · go_wp2_with (go_at_call 37; (with_reducible refine (HO.out _).mono ?_); rintro e w1 ⟨rfl, rfl⟩)
                  go_ret
                  exact ⟨ret_bool (NO.out (fun h => by omega)).symm, b0⟩
              · go_wp2_with (go_at_call 37; (with_reducible refine (HO.out _).mono ?_); rintro e w1 ⟨rfl, rfl⟩)
                go_ret
                exact ⟨ret_bool (NO.out (fun h => by omega)).symm, b0⟩
        · obtain rfl : k = 64 := by omega
          go_wp2_with fail
          go_ret
          refine ⟨ret_bool ?_, b0⟩
          symm
          simp at e1
          simp only [rightRow, decide_eq_true_iff]
          exact ⟨HV.out, fun h => absurd h e1, fun _ => HH.out⟩
    · cases ep : (r.p == 0)
      all_goals
        go_enter Try.func24, Try.ntmps24
        go_wp2_with fail
        all_goals go_ret
        all_goals refine ⟨ret_bool ?_, b0⟩
        all_goals go_tidy
        all_goals simp at e1 ep
        all_goals (rw [Bool.eq_iff_iff]; simp [rightRow, hvb, e1, ep])
  · go_enter Try.func24, Try.ntmps24
    go_wp2_with fail
    all_goals go_ret
    all_goals refine ⟨ret_bool ?_, b0⟩
    all_goals (rw [Bool.eq_iff_iff]; simp [rightRow, validB]; omega)
end Go.Proofs.Ythockpallaoelaa
