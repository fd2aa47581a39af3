/-
  grapevineref08.Take.
-/
import Derived.Test.YtfdppebbpcjhjaaRef08
namespace Go.Proofs.Ytfdppebbpcjhjaa
open Go.RowKit

theorem or_add {b : Int} {k : Nat} (h : 0 ≤ b) (ht : tb b k = false) : b + 2 ^ k = orB b k := by
  obtain ⟨n, rfl⟩ := Int.eq_ofNat_of_zero_le h
  rw [tb_nat h] at ht
  simp only [Int.toNat_natCast] at ht
  unfold orB
  simp only [Int.toNat_natCast]
  have e : n ||| 2 ^ k = n + 2 ^ k := by
    have h1 : n = 2 ^ k * (n / 2 ^ k) + n % 2 ^ k := (Nat.div_add_mod n (2 ^ k)).symm
    have hlt : n % 2 ^ k < 2 ^ k := Nat.mod_lt _ (Nat.two_pow_pos k)
    have hq : n / 2 ^ k % 2 = 0 := by
      have := ht
      rw [Nat.testBit_eq_decide_div_mod_eq] at this
      have h2 := of_decide_eq_false this
      omega
    have h3 : n / 2 ^ k ||| 1 = n / 2 ^ k + 1 := by
      have : n / 2 ^ k = 2 ^ 1 * (n / 2 ^ k / 2) := by omega
      rw [this, ← Nat.two_pow_add_eq_or_of_lt (by decide : 1 < 2 ^ 1)]
    apply Nat.eq_of_testBit_eq
    intro i
    have h4 : n + 2 ^ k = 2 ^ k * (n / 2 ^ k + 1) + n % 2 ^ k := by rw [Nat.mul_add]; omega
    rw [h4, Nat.two_pow_add_eq_or_of_lt hlt, ← h3, Nat.testBit_or, Nat.testBit_or]
    conv => lhs; rw [h1, Nat.two_pow_add_eq_or_of_lt hlt, Nat.testBit_or]
    simp only [Nat.testBit_two_pow_mul, Nat.testBit_or, Nat.testBit_two_pow]
    by_cases hi : k ≤ i
    · have : Nat.testBit 1 (i - k) = decide (k = i) := by
        rw [Bool.eq_iff_iff]
        simp [Nat.testBit_one_eq_true_iff_self_eq_zero]; omega
      rw [this]
      have h5 : decide (i < k) = false := by simp; omega
      simp [hi, h5, Bool.or_comm]
    · simp [hi]; omega
  rw [e]
  simp

theorem powI_any (n : Int) (h0 : 0 ≤ n) (h1 : n < 64) (w : World) :
    Calls Try.prog 23 #[.int .i64 n] w fun e w' => e = .returned (.int .u64 (2 ^ n.toNat)) ∧ w = w' := by
  obtain ⟨k, rfl⟩ := Int.eq_ofNat_of_zero_le h0
  exact power_any k (by omega) w

set_option maxHeartbeats 1000000 in
theorem reftake_no (r : Rw) (x : Id) (m : Int) (hr : r.ok) (hx : x.ok) (hm : mayB r x m = false) (w : World) :
    Calls Try.prog 16 #[rwv r, idv x, .int .i64 m] w fun e w' => e = .returned (.tuple #[rwv r, .bool false]) ∧ Below w.heap.size w w' := by
  have X0 := ((Blk.new w #[.int .u16 r.i, .int .u32 r.p, .int .u64 r.b] 31).alloc (.cells #[.int .u8 x.n, .int .u16 x.i, .int .u32 x.s] 35)).alloc (.cells #[.int .u16 0, .int .u32 0, .int .u64 0] 31)
  have Y0 := (Blk.new (w.alloc (.cells #[.int .u16 r.i, .int .u32 r.p, .int .u64 r.b] 31)) #[.int .u8 x.n, .int .u16 x.i, .int .u32 x.s] 35).alloc (.cells #[.int .u16 0, .int .u32 0, .int .u64 0] 31)
  have Z0 := Blk.new ((w.alloc (.cells #[.int .u16 r.i, .int .u32 r.p, .int .u64 r.b] 31)).alloc (.cells #[.int .u8 x.n, .int .u16 x.i, .int .u32 x.s] 35)) #[.int .u16 0, .int .u32 0, .int .u64 0] 31
  simp only [World.size_alloc] at Z0 Y0
  have b0 := Gw.al (Gw.al (Gw.al (Below.refl w.heap.size w) (.cells #[.int .u16 r.i, .int .u32 r.p, .int .u64 r.b] 31)) (.cells #[.int .u8 x.n, .int .u16 x.i, .int .u32 x.s] 35)) (.cells #[.int .u16 0, .int .u32 0, .int .u64 0] 31)
  obtain ⟨⟨r1, r2⟩, ⟨r3, r4⟩, r5, r6⟩ := id hr
  obtain ⟨_, ⟨x3, x4⟩, x5, x6⟩ := id hx
  go_enter Try.func16, Try.ntmps16
  go_wp2_with fail
  refine (refmay_any r x m hr hx _).mono ?_
  rintro e w1 ⟨rfl, hb⟩
  rw [hm]
  replace X0 := X0.call hb
  replace Y0 := Y0.call hb
  replace Z0 := Z0.call hb
  replace b0 := Gw.call b0 hb
  have sz := b0.size
  clear hb
  obtain ⟨xx0, xx1, xx2⟩ := X0.c3
  obtain ⟨y0, y1, y2⟩ := Y0.c3
  obtain ⟨z0, z1, z2⟩ := Z0.c3
  have xf := X0.2.2
  have zf := Z0.2.2
  go_wp2_with fail
  have ZF := ((Z0.set 0 (.int .u16 r.i) (by simp)).set 1 (.int .u32 r.p) (by simp)).set 2 (.int .u64 r.b) (by simp)
  obtain ⟨t0, t1, t2⟩ := ZF.c3
  refine bodyPost_ret (v := .tuple #[rwv r, .bool false]) (by simp [results, Try.results16, go_sem, t0, t1, t2]) rfl ⟨rfl, ?_⟩
  exact Gw.st (Gw.st (Gw.st b0 (by show w.heap.size ≤ w.heap.size + 1 + 1; omega) _) (by show w.heap.size ≤ w.heap.size + 1 + 1; omega) _) (by show w.heap.size ≤ w.heap.size + 1 + 1; omega) _

set_option maxHeartbeats 16000000 in
theorem reftake_yes (r : Rw) (x : Id) (m : Int) (hr : r.ok) (hx : x.ok) (hm : mayB r x m = true) (hfit : fitsR (lim r x).p (lim r x).b) (w : World) :
    Calls Try.prog 16 #[rwv r, idv x, .int .i64 m] w fun e w' => e = .returned (.tuple #[rwv (takeR r x), .bool true]) ∧ Below w.heap.size w w' := by
  have X0 := ((Blk.new w #[.int .u16 r.i, .int .u32 r.p, .int .u64 r.b] 31).alloc (.cells #[.int .u8 x.n, .int .u16 x.i, .int .u32 x.s] 35)).alloc (.cells #[.int .u16 0, .int .u32 0, .int .u64 0] 31)
  have Y0 := (Blk.new (w.alloc (.cells #[.int .u16 r.i, .int .u32 r.p, .int .u64 r.b] 31)) #[.int .u8 x.n, .int .u16 x.i, .int .u32 x.s] 35).alloc (.cells #[.int .u16 0, .int .u32 0, .int .u64 0] 31)
  have Z0 := Blk.new ((w.alloc (.cells #[.int .u16 r.i, .int .u32 r.p, .int .u64 r.b] 31)).alloc (.cells #[.int .u8 x.n, .int .u16 x.i, .int .u32 x.s] 35)) #[.int .u16 0, .int .u32 0, .int .u64 0] 31
  simp only [World.size_alloc] at Z0 Y0
  have b0 := Gw.al (Gw.al (Gw.al (Below.refl w.heap.size w) (.cells #[.int .u16 r.i, .int .u32 r.p, .int .u64 r.b] 31)) (.cells #[.int .u8 x.n, .int .u16 x.i, .int .u32 x.s] 35)) (.cells #[.int .u16 0, .int .u32 0, .int .u64 0] 31)
  obtain ⟨⟨r1, r2⟩, ⟨r3, r4⟩, r5, r6⟩ := id hr
  obtain ⟨_, ⟨x3, x4⟩, x5, x6⟩ := id hx
  go_enter Try.func16, Try.ntmps16
  go_wp2_with fail
  refine (refmay_any r x m hr hx _).mono ?_
  rintro e w1 ⟨rfl, hb⟩
  rw [hm]
  replace X0 := X0.call hb
  replace Y0 := Y0.call hb
  replace Z0 := Z0.call hb
  replace b0 := Gw.call b0 hb
  have sz := b0.size
  clear hb
  obtain ⟨xx0, xx1, xx2⟩ := X0.c3
  obtain ⟨y0, y1, y2⟩ := Y0.c3
  obtain ⟨z0, z1, z2⟩ := Z0.c3
  have xf := X0.2.2
  have zf := Z0.2.2
  have hm' := hm
  simp [mayB] at hm'
  obtain ⟨⟨_, _⟩, m1, m2, m3, m4, m5⟩ := hm'
  by_cases h4 : r.i < x.i
  · have hl : lim r x = ⟨x.i, 0, 0⟩ := by simp [lim, h4]
    rw [hl] at m4 m5
    have HL := Lib.hid hl
    clear hl hm m4
    simp at m5
    have k1 : 1 ≤ x.s := by omega
    go_wp2_with fail
    have HP := Lib.hid (powI_any (x.s - 1) (by omega) (by omega))
    rw [show (x.s - 1).toNat = x.s.toNat - 1 by omega] at HP
    have hw0 : IntKind.u32.wrap x.s = x.s := IntWalk.u32_in _ (by omega)
    have hw1 : IntKind.u32.wrap (x.s - 1) = x.s - 1 := IntWalk.u32_in _ (by omega)
    have hw2 : IntKind.i64.wrap (x.s - 1) = x.s - 1 := IntWalk.i64_in _ (by omega)
    have HQ : Hid (IntKind.u64.wrap (2 ^ (x.s.toNat - 1)) = orB 0 (x.s.toNat - 1)) := by
      have e1 := or_add (b := 0) (k := x.s.toNat - 1) (by omega) (by simp [tb])
      have e2 := orB_lt (b := 0) (j := x.s.toNat - 1) (by omega) (by omega) (by omega)
      have e3 := orB_nonneg 0 (x.s.toNat - 1)
      show IntKind.u64.wrap (2 ^ (x.s.toNat - 1)) = _
      rw [← e1] at e2 e3 ⊢
      rw [Int.zero_add] at *
      exact IntWalk.u64_in _ (by omega)
    go_region_with (go_at_call 23; (with_reducible refine (HP.out _).mono ?_); rintro e w2 ⟨rfl, rfl⟩)
    all_goals
      have hq := HQ.out
      rw [hq]
      clear hq HQ HP hw0 hw1 hw2
      have XL : Blk _ _ _ := (((X0.set 0 (.int .u16 x.i) (by simp)).set 1 (.int .u32 0) (by simp)).set 2 (.int .u64 0) (by simp)).set 2 (.int .u64 (orB 0 (x.s.toNat - 1))) (by simp)
      have ft : fitsR 0 (orB 0 (x.s.toNat - 1)) := fits_or (by have := hfit; rw [HL.out] at this; exact this) (by omega) (by omega)
      have HT : Hid (takeR r x = ⟨x.i, (nrm 64 0 (orB 0 (x.s.toNat - 1))).1, (nrm 64 0 (orB 0 (x.s.toNat - 1))).2⟩) := by
        show takeR r x = _
        unfold takeR
        rw [HL.out]
        simp only [Int.sub_zero]
      generalize orB 0 (x.s.toNat - 1) = bb at *
      clear HL xx0 xx1 xx2 xf hfit
      go_wp2_with fail
      go_loopg [] 64 (fun n wr => ∃ p b : Int, nrm n p b = nrm 64 0 bb ∧ b < 2 ^ n ∧ fitsR p b ∧ Blk wr w.heap.size [.int .u16 x.i, .int .u32 p, .int .u64 b] ∧ Blk wr (w.heap.size + 1 + 1) [.int .u16 0, .int .u32 0, .int .u64 0] ∧ Below w.heap.size w wr)
      case atStart =>
        refine ⟨_, _, rfl, ?_, ft, XL, ?_, ?_⟩
        · have := ft.2.1; exact Int.lt_of_le_of_lt this (by decide)
        · exact (((Z0.far (by omega) _).far (by omega) _).far (by omega) _).far (by omega) _
        · exact Below.drew (Gw.st (Gw.st (Gw.st (Gw.st b0 (Nat.le_refl _) _) (Nat.le_refl _) _) (Nat.le_refl _) _) (Nat.le_refl _) _)
      case round =>
        obtain ⟨p, b, hn, hlt, hf, XR, ZR, hb⟩ := hrel
        have HN := Lib.hid hn
        have HLT := Lib.hid hlt
        have HF := Lib.hid hf
        clear hn hlt ft XL
        obtain ⟨f1, f2, f3, f4, _⟩ := hf
        have ha := and_one_u64 b f1 f2
        obtain ⟨c0, c1, c2⟩ := XR.c3
        have cf := XR.2.2
        obtain ⟨d0, d1, d2⟩ := ZR.c3
        have df := ZR.2.2
        have swr := hb.size
        cases ho : (b % 2 == 1)
        · have HO := Lib.hid ho
          go_wp2_with fail
          have ho' : ¬b % 2 = 1 := by simpa using HO.out
          have hv := HT.out
          rw [← HN.out, nrm_end ho'] at hv
          have ZF := ((ZR.set 0 (.int .u16 x.i) (by simp)).set 1 (.int .u32 p) (by simp)).set 2 (.int .u64 b) (by simp)
          obtain ⟨t0, t1, t2⟩ := ZF.c3
          refine bodyPost_ret (v := .tuple #[.agg #[.int .u16 x.i, .int .u32 p, .int .u64 b], .bool true]) (by simp [results, Try.results16, go_sem, t0, t1, t2]) rfl ⟨by rw [hv], ?_⟩
          exact Gw.st (Gw.st (Gw.st hb (by show w.heap.size ≤ w.heap.size + 1 + 1; omega) _) (by show w.heap.size ≤ w.heap.size + 1 + 1; omega) _) (by show w.heap.size ≤ w.heap.size + 1 + 1; omega) _
        · have ho' : b % 2 = 1 := by simpa using ho
          obtain ⟨hf', hp1⟩ := fits_step HF.out ho'
          have HF' := Lib.hid hf'
          have HO := Lib.hid ho'
          clear hf' ho'
          rcases gk with _ | gk
          · have h1 : b < 1 := HLT.out
            have h2 := HO.out
            omega
          go_wp2_with fail
          go_roundg gk
          case measure => omega
          case rel =>
            refine ⟨p + 1, b / 2, by rw [← HN.out, nrm_one HO.out], ?_, HF'.out, ((XR.set 1 _ (by simp)).set 2 _ (by simp)), (ZR.far (by omega) _).far (by omega) _, Gw.st (Gw.st hb (Nat.le_refl _) _) (Nat.le_refl _) _⟩
            have := HLT.out
            rw [Int.pow_succ] at this
            omega
  · have hl : lim r x = r := by simp [lim, h4]
    rw [hl] at m4 m5
    have HL := Lib.hid hl
    have k1 : r.p < x.s := by
      simp [seenB] at m4
      have := (m4 m2).1
      omega
    have htb : tb r.b ((x.s - r.p).toNat - 1) = false := by
      simp [seenB] at m4
      have := (m4 m2).2
      cases ht : tb r.b ((x.s - r.p).toNat - 1)
      · rfl
      · exact absurd (this (by omega)) (by simp [ht])
    have HTB := Lib.hid htb
    clear hl hm m4 htb
    go_wp2_with fail
    have HP := Lib.hid (powI_any (x.s - r.p - 1) (by omega) (by omega))
    rw [show (x.s - r.p - 1).toNat = (x.s - r.p).toNat - 1 by omega] at HP
    have hw0 : IntKind.u32.wrap (x.s - r.p) = x.s - r.p := IntWalk.u32_in _ (by omega)
    have hw1 : IntKind.u32.wrap (x.s - r.p - 1) = x.s - r.p - 1 := IntWalk.u32_in _ (by omega)
    have hw2 : IntKind.i64.wrap (x.s - r.p - 1) = x.s - r.p - 1 := IntWalk.i64_in _ (by omega)
    have HQ : Hid (IntKind.u64.wrap (r.b + 2 ^ ((x.s - r.p).toNat - 1)) = orB r.b ((x.s - r.p).toNat - 1)) := by
      have e1 := or_add (b := r.b) (k := (x.s - r.p).toNat - 1) (by omega) HTB.out
      have e2 := orB_lt (b := r.b) (j := (x.s - r.p).toNat - 1) (by omega) (by omega) (by omega)
      have e3 := orB_nonneg r.b ((x.s - r.p).toNat - 1)
      show IntKind.u64.wrap (r.b + 2 ^ ((x.s - r.p).toNat - 1)) = _
      rw [← e1] at e2 e3 ⊢
      exact IntWalk.u64_in _ (by omega)
    go_region_with (go_at_call 23; (with_reducible refine (HP.out _).mono ?_); rintro e w2 ⟨rfl, rfl⟩)
    all_goals
      have hq := HQ.out
      rw [hq]
      clear hq HQ HP hw0 hw1 hw2
      have XL : Blk _ _ _ := X0.set 2 (.int .u64 (orB r.b ((x.s - r.p).toNat - 1))) (by simp)
      have ft : fitsR r.p (orB r.b ((x.s - r.p).toNat - 1)) := fits_or (by have := hfit; rw [HL.out] at this; exact this) (by omega) (by omega)
      have HT : Hid (takeR r x = ⟨r.i, (nrm 64 r.p (orB r.b ((x.s - r.p).toNat - 1))).1, (nrm 64 r.p (orB r.b ((x.s - r.p).toNat - 1))).2⟩) := by
        show takeR r x = _
        unfold takeR
        rw [HL.out]
      generalize orB r.b ((x.s - r.p).toNat - 1) = bb at *
      clear HL xx0 xx1 xx2 xf hfit
      go_wp2_with fail
      go_loopg [] 64 (fun n wr => ∃ p b : Int, nrm n p b = nrm 64 r.p bb ∧ b < 2 ^ n ∧ fitsR p b ∧ Blk wr w.heap.size [.int .u16 r.i, .int .u32 p, .int .u64 b] ∧ Blk wr (w.heap.size + 1 + 1) [.int .u16 0, .int .u32 0, .int .u64 0] ∧ Below w.heap.size w wr)
      case atStart =>
        refine ⟨_, _, rfl, ?_, ft, XL, ?_, ?_⟩
        · have := ft.2.1; exact Int.lt_of_le_of_lt this (by decide)
        · exact Z0.far (by omega) _
        · exact Below.drew (Gw.st b0 (Nat.le_refl _) _)
      case round =>
        obtain ⟨p, b, hn, hlt, hf, XR, ZR, hb⟩ := hrel
        have HN := Lib.hid hn
        have HLT := Lib.hid hlt
        have HF := Lib.hid hf
        clear hn hlt ft XL
        obtain ⟨f1, f2, f3, f4, _⟩ := hf
        have ha := and_one_u64 b f1 f2
        obtain ⟨c0, c1, c2⟩ := XR.c3
        have cf := XR.2.2
        obtain ⟨d0, d1, d2⟩ := ZR.c3
        have df := ZR.2.2
        have swr := hb.size
        cases ho : (b % 2 == 1)
        · have HO := Lib.hid ho
          go_wp2_with fail
          have ho' : ¬b % 2 = 1 := by simpa using HO.out
          have hv := HT.out
          rw [← HN.out, nrm_end ho'] at hv
          have ZF := ((ZR.set 0 (.int .u16 r.i) (by simp)).set 1 (.int .u32 p) (by simp)).set 2 (.int .u64 b) (by simp)
          obtain ⟨t0, t1, t2⟩ := ZF.c3
          refine bodyPost_ret (v := .tuple #[.agg #[.int .u16 r.i, .int .u32 p, .int .u64 b], .bool true]) (by simp [results, Try.results16, go_sem, t0, t1, t2]) rfl ⟨by rw [hv], ?_⟩
          exact Gw.st (Gw.st (Gw.st hb (by show w.heap.size ≤ w.heap.size + 1 + 1; omega) _) (by show w.heap.size ≤ w.heap.size + 1 + 1; omega) _) (by show w.heap.size ≤ w.heap.size + 1 + 1; omega) _
        · have ho' : b % 2 = 1 := by simpa using ho
          obtain ⟨hf', hp1⟩ := fits_step HF.out ho'
          have HF' := Lib.hid hf'
          have HO := Lib.hid ho'
          clear hf' ho'
          rcases gk with _ | gk
          · have h1 : b < 1 := HLT.out
            have h2 := HO.out
            omega
          go_wp2_with fail
          go_roundg gk
          case measure => omega
          case rel =>
            refine ⟨p + 1, b / 2, by rw [← HN.out, nrm_one HO.out], ?_, HF'.out, ((XR.set 1 _ (by simp)).set 2 _ (by simp)), (ZR.far (by omega) _).far (by omega) _, Gw.st (Gw.st hb (Nat.le_refl _) _) (Nat.le_refl _) _⟩
            have := HLT.out
            rw [Int.pow_succ] at this
            omega
end Go.Proofs.Ytfdppebbpcjhjaa
