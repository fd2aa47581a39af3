/-
  seen.Take.
-/
import Derived.Test.YtfdppebbpcjhjaaRow
namespace Go.Proofs.Ytfdppebbpcjhjaa
open Go.RowKit

/-- the row moved on while its lowest bit is set; at most f times -/
def nrm : Nat → Int → Int → Int × Int
  | 0, p, b => (p, b)
  | f + 1, p, b => if b % 2 = 1 then nrm f (p + 1) (b / 2) else (p, b)
def orB (b : Int) (j : Nat) : Int := ((b.toNat ||| 2 ^ j : Nat) : Int)
def takeR (r : Rw) (x : Id) : Rw := ⟨(lim r x).i, (nrm 64 (lim r x).p (orB (lim r x).b ((x.s - (lim r x).p).toNat - 1))).1, (nrm 64 (lim r x).p (orB (lim r x).b ((x.s - (lim r x).p).toNat - 1))).2⟩
theorem nrm_one {f : Nat} {p b : Int} (h : b % 2 = 1) : nrm (f + 1) p b = nrm f (p + 1) (b / 2) := by simp [nrm, h]
theorem nrm_end {f : Nat} {p b : Int} (h : ¬b % 2 = 1) : nrm f p b = (p, b) := by cases f <;> simp [nrm, h]
theorem tb_nat {b : Int} (h : 0 ≤ b) (j : Nat) : tb b j = b.toNat.testBit j := by
  obtain ⟨n, rfl⟩ := Int.eq_ofNat_of_zero_le h
  rw [Nat.testBit_eq_decide_div_mod_eq]
  unfold tb
  rw [Int.toNat_natCast, decide_eq_decide]
  have e : ((n : Int) / 2 ^ j) = ((n / 2 ^ j : Nat) : Int) := by simp
  rw [e]
  generalize n / 2 ^ j = q at *
  omega
theorem orB_nonneg (b : Int) (j : Nat) : 0 ≤ orB b j := by unfold orB; exact Int.natCast_nonneg _
theorem tb_or {b : Int} (h : 0 ≤ b) (k j : Nat) : tb (orB b k) j = (tb b j || decide (j = k)) := by
  rw [tb_nat (orB_nonneg b k), tb_nat h]
  unfold orB
  rw [Int.toNat_natCast, Nat.testBit_or, Nat.testBit_two_pow]
  congr 1
  rw [decide_eq_decide]; omega
theorem tb_div {b : Int} (h : 0 ≤ b) (j : Nat) : tb (b / 2) j = tb b (j + 1) := by
  have h2 : 0 ≤ b / 2 := by omega
  rw [tb_nat h, tb_nat h2]
  have : (b / 2).toNat = b.toNat / 2 := by omega
  rw [this, Nat.testBit_div_two]
theorem tb_zero {b : Int} : tb b 0 = decide (b % 2 = 1) := by simp [tb]
theorem orB_lt {b : Int} {j : Nat} (h : 0 ≤ b) (h1 : b ≤ 18446744073709551615) (hj : j < 64) : orB b j ≤ 18446744073709551615 := by
  have h2 : b.toNat < 2 ^ 64 := by
    have e : (2 : Nat) ^ 64 = 18446744073709551616 := by decide
    rw [e]; omega
  have h3 : 2 ^ j < 2 ^ 64 := Nat.pow_lt_pow_right (by omega) hj
  have := Nat.or_lt_two_pow h2 h3
  unfold orB
  have e : (2 : Nat) ^ 64 = 18446744073709551616 := by decide
  rw [e] at this
  omega
theorem or_val {b : Int} {j : Nat} (h : 0 ≤ b) (h1 : b ≤ 18446744073709551615) (hj : j < 64) : bits BinOp.or IntKind.u64 b (IntKind.u64.wrap (2 ^ j)) = orB b j := by
  have h3 : 2 ^ j < 2 ^ 64 := Nat.pow_lt_pow_right (by omega) hj
  have e : (2 : Nat) ^ 64 = 18446744073709551616 := by decide
  rw [e] at h3
  have e2 : ((2 : Int) ^ j) = ((2 ^ j : Nat) : Int) := by simp
  rw [e2]
  generalize hq : 2 ^ j = q at *
  have e3 : IntKind.u64.wrap ((q : Nat) : Int) = (q : Int) := IntWalk.u64_in _ (by omega)
  rw [e3, u64_or b q h (by omega) (by omega) (by omega)]
  unfold orB
  rw [Int.toNat_natCast, hq]
/-- every number of the row is one that there is -/
def fitsR (p b : Int) : Prop := 0 ≤ b ∧ b ≤ 18446744073709551615 ∧ 0 ≤ p ∧ p ≤ 4294967295 ∧ ∀ j, tb b j = true → p + j + 1 ≤ 4294967295
theorem fits_or {p b : Int} {k : Nat} (h : fitsR p b) (hk : k < 64) (hp : p + k + 1 ≤ 4294967295) : fitsR p (orB b k) := by
  obtain ⟨h1, h2, h3, h4, h5⟩ := h
  refine ⟨orB_nonneg _ _, orB_lt h1 h2 hk, h3, h4, fun j hj => ?_⟩
  rw [tb_or h1, Bool.or_eq_true, decide_eq_true_iff] at hj
  rcases hj with hj | rfl
  · exact h5 j hj
  · exact hp
theorem fits_step {p b : Int} (h : fitsR p b) (ho : b % 2 = 1) : fitsR (p + 1) (b / 2) ∧ p + 1 ≤ 4294967295 := by
  obtain ⟨h1, h2, h3, h4, h5⟩ := h
  have h6 := h5 0 (by rw [tb_zero]; simpa using ho)
  refine ⟨⟨by omega, by omega, by omega, by omega, fun j hj => ?_⟩, by omega⟩
  rw [tb_div h1] at hj
  have := h5 (j + 1) hj
  omega

set_option maxHeartbeats 1000000 in
theorem take_no (r : Rw) (x : Id) (m : Int) (hr : r.ok) (hx : x.ok) (hm : mayB r x m = false) (w : World) :
    Calls Try.prog 11 #[rwv r, idv x, .int .i64 m] w fun e w' => e = .returned (.tuple #[rwv r, .bool false]) ∧ Below w.heap.size w w' := by
  have X0 := ((Blk.new w #[.int .u16 r.i, .int .u32 r.p, .int .u64 r.b] 31).alloc (.cells #[.int .u8 x.n, .int .u16 x.i, .int .u32 x.s] 35)).alloc (.cells #[.int .u16 0, .int .u32 0, .int .u64 0] 31)
  have Y0 := (Blk.new (w.alloc (.cells #[.int .u16 r.i, .int .u32 r.p, .int .u64 r.b] 31)) #[.int .u8 x.n, .int .u16 x.i, .int .u32 x.s] 35).alloc (.cells #[.int .u16 0, .int .u32 0, .int .u64 0] 31)
  have Z0 := Blk.new ((w.alloc (.cells #[.int .u16 r.i, .int .u32 r.p, .int .u64 r.b] 31)).alloc (.cells #[.int .u8 x.n, .int .u16 x.i, .int .u32 x.s] 35)) #[.int .u16 0, .int .u32 0, .int .u64 0] 31
  simp only [World.size_alloc] at Z0 Y0
  have b0 := Gw.al (Gw.al (Gw.al (Below.refl w.heap.size w) (.cells #[.int .u16 r.i, .int .u32 r.p, .int .u64 r.b] 31)) (.cells #[.int .u8 x.n, .int .u16 x.i, .int .u32 x.s] 35)) (.cells #[.int .u16 0, .int .u32 0, .int .u64 0] 31)
  obtain ⟨⟨r1, r2⟩, ⟨r3, r4⟩, r5, r6⟩ := id hr
  obtain ⟨_, ⟨x3, x4⟩, x5, x6⟩ := id hx
  go_enter Try.func11, Try.ntmps11
  go_wp2_with fail
  refine (may_any r x m hr hx _).mono ?_
  rintro e w1 ⟨rfl, hb⟩
  rw [hm]
  replace X0 := X0.call hb
  replace Y0 := Y0.call hb
  replace Z0 := Z0.call hb
  replace b0 := Gw.call b0 hb
  have sz := b0.size
  clear hb
  obtain ⟨xx0, xx1, xx2⟩ := X0.c3
  obtain ⟨y0, y1, y2⟩ := Y0.c3
  obtain ⟨z0, z1, z2⟩ := Z0.c3
  have xf := X0.2.2
  have zf := Z0.2.2
  go_wp2_with fail
  have ZF := ((Z0.set 0 (.int .u16 r.i) (by simp)).set 1 (.int .u32 r.p) (by simp)).set 2 (.int .u64 r.b) (by simp)
  obtain ⟨t0, t1, t2⟩ := ZF.c3
  refine bodyPost_ret (v := .tuple #[rwv r, .bool false]) (by simp [results, Try.results11, go_sem, t0, t1, t2]) rfl ⟨rfl, ?_⟩
  exact Gw.st (Gw.st (Gw.st b0 (by show w.heap.size ≤ w.heap.size + 1 + 1; omega) _) (by show w.heap.size ≤ w.heap.size + 1 + 1; omega) _) (by show w.heap.size ≤ w.heap.size + 1 + 1; omega) _

set_option maxHeartbeats 2000000 in
theorem take_yes (r : Rw) (x : Id) (m : Int) (hr : r.ok) (hx : x.ok) (hm : mayB r x m = true) (hfit : fitsR (lim r x).p (lim r x).b) (w : World) :
    Calls Try.prog 11 #[rwv r, idv x, .int .i64 m] w fun e w' => e = .returned (.tuple #[rwv (takeR r x), .bool true]) ∧ Below w.heap.size w w' := by
  have X0 := ((Blk.new w #[.int .u16 r.i, .int .u32 r.p, .int .u64 r.b] 31).alloc (.cells #[.int .u8 x.n, .int .u16 x.i, .int .u32 x.s] 35)).alloc (.cells #[.int .u16 0, .int .u32 0, .int .u64 0] 31)
  have Y0 := (Blk.new (w.alloc (.cells #[.int .u16 r.i, .int .u32 r.p, .int .u64 r.b] 31)) #[.int .u8 x.n, .int .u16 x.i, .int .u32 x.s] 35).alloc (.cells #[.int .u16 0, .int .u32 0, .int .u64 0] 31)
  have Z0 := Blk.new ((w.alloc (.cells #[.int .u16 r.i, .int .u32 r.p, .int .u64 r.b] 31)).alloc (.cells #[.int .u8 x.n, .int .u16 x.i, .int .u32 x.s] 35)) #[.int .u16 0, .int .u32 0, .int .u64 0] 31
  simp only [World.size_alloc] at Z0 Y0
  have b0 := Gw.al (Gw.al (Gw.al (Below.refl w.heap.size w) (.cells #[.int .u16 r.i, .int .u32 r.p, .int .u64 r.b] 31)) (.cells #[.int .u8 x.n, .int .u16 x.i, .int .u32 x.s] 35)) (.cells #[.int .u16 0, .int .u32 0, .int .u64 0] 31)
  obtain ⟨⟨r1, r2⟩, ⟨r3, r4⟩, r5, r6⟩ := id hr
  obtain ⟨_, ⟨x3, x4⟩, x5, x6⟩ := id hx
  go_enter Try.func11, Try.ntmps11
  go_wp2_with fail
  refine (may_any r x m hr hx _).mono ?_
  rintro e w1 ⟨rfl, hb⟩
  rw [hm]
  replace X0 := X0.call hb
  replace Y0 := Y0.call hb
  replace Z0 := Z0.call hb
  replace b0 := Gw.call b0 hb
  have sz := b0.size
  clear hb
  obtain ⟨xx0, xx1, xx2⟩ := X0.c3
  obtain ⟨y0, y1, y2⟩ := Y0.c3
  obtain ⟨z0, z1, z2⟩ := Z0.c3
  have xf := X0.2.2
  have zf := Z0.2.2
  have hm' := hm
  simp [mayB] at hm'
  obtain ⟨⟨_, _⟩, m1, m2, m3, m4, m5⟩ := hm'
  by_cases h4 : r.i < x.i
  · have hl : lim r x = ⟨x.i, 0, 0⟩ := by simp [lim, h4]
    rw [hl] at m4 m5
    have HL := Lib.hid hl
    clear hl hm m4
    simp at m5
    have k1 : 1 ≤ x.s := by omega
    go_wp2_with fail
    have XL : Blk _ _ _ := (((X0.set 0 (.int .u16 x.i) (by simp)).set 1 (.int .u32 0) (by simp)).set 2 (.int .u64 0) (by simp)).set 2 (.int .u64 (bits BinOp.or IntKind.u64 0 (IntKind.u64.wrap (2 ^ (x.s.toNat - 1))))) (by simp)
    have hq : bits BinOp.or IntKind.u64 0 (IntKind.u64.wrap (2 ^ (x.s.toNat - 1))) = orB 0 (x.s.toNat - 1) := or_val (by omega) (by omega) (by omega)
    rw [hq] at XL ⊢
    clear hq
    have ft : fitsR 0 (orB 0 (x.s.toNat - 1)) := fits_or (by have := hfit; rw [HL.out] at this; exact this) (by omega) (by omega)
    have HT : Hid (takeR r x = ⟨x.i, (nrm 64 0 (orB 0 (x.s.toNat - 1))).1, (nrm 64 0 (orB 0 (x.s.toNat - 1))).2⟩) := by
      show takeR r x = _
      unfold takeR
      rw [HL.out]
      simp only [Int.sub_zero]
    generalize orB 0 (x.s.toNat - 1) = bb at *
    clear HL xx0 xx1 xx2 xf hfit
    go_loopg [] 64 (fun n wr => ∃ p b : Int, nrm n p b = nrm 64 0 bb ∧ b < 2 ^ n ∧ fitsR p b ∧ Blk wr w.heap.size [.int .u16 x.i, .int .u32 p, .int .u64 b] ∧ Blk wr (w.heap.size + 1 + 1) [.int .u16 0, .int .u32 0, .int .u64 0] ∧ Below w.heap.size w wr)
    case atStart =>
      refine ⟨_, _, rfl, ?_, ft, XL, ?_, ?_⟩
      · have := ft.2.1; exact Int.lt_of_le_of_lt this (by decide)
      · exact (((Z0.far (by omega) _).far (by omega) _).far (by omega) _).far (by omega) _
      · exact Gw.st (Gw.st (Gw.st (Gw.st b0 (Nat.le_refl _) _) (Nat.le_refl _) _) (Nat.le_refl _) _) (Nat.le_refl _) _
    case round =>
      obtain ⟨p, b, hn, hlt, hf, XR, ZR, hb⟩ := hrel
      have HN := Lib.hid hn
      have HLT := Lib.hid hlt
      have HF := Lib.hid hf
      clear hn hlt ft XL
      obtain ⟨f1, f2, f3, f4, _⟩ := hf
      have ha := and_one_u64 b f1 f2
      obtain ⟨c0, c1, c2⟩ := XR.c3
      have cf := XR.2.2
      obtain ⟨d0, d1, d2⟩ := ZR.c3
      have df := ZR.2.2
      have swr := hb.size
      cases ho : (b % 2 == 1)
      · have HO := Lib.hid ho
        go_wp2_with fail
        have ho' : ¬b % 2 = 1 := by simpa using HO.out
        have hv := HT.out
        rw [← HN.out, nrm_end ho'] at hv
        have ZF := ((ZR.set 0 (.int .u16 x.i) (by simp)).set 1 (.int .u32 p) (by simp)).set 2 (.int .u64 b) (by simp)
        obtain ⟨t0, t1, t2⟩ := ZF.c3
        refine bodyPost_ret (v := .tuple #[.agg #[.int .u16 x.i, .int .u32 p, .int .u64 b], .bool true]) (by simp [results, Try.results11, go_sem, t0, t1, t2]) rfl ⟨by rw [hv], ?_⟩
        exact Gw.st (Gw.st (Gw.st hb (by show w.heap.size ≤ w.heap.size + 1 + 1; omega) _) (by show w.heap.size ≤ w.heap.size + 1 + 1; omega) _) (by show w.heap.size ≤ w.heap.size + 1 + 1; omega) _
      · have ho' : b % 2 = 1 := by simpa using ho
        obtain ⟨hf', hp1⟩ := fits_step HF.out ho'
        have HF' := Lib.hid hf'
        have HO := Lib.hid ho'
        clear hf' ho'
        rcases gk with _ | gk
        · have h1 : b < 1 := HLT.out
          have h2 := HO.out
          omega
        go_wp2_with fail
        go_roundg gk
        case measure => omega
        case rel =>
          refine ⟨p + 1, b / 2, by rw [← HN.out, nrm_one HO.out], ?_, HF'.out, ((XR.set 1 _ (by simp)).set 2 _ (by simp)), (ZR.far (by omega) _).far (by omega) _, Gw.st (Gw.st hb (Nat.le_refl _) _) (Nat.le_refl _) _⟩
          have := HLT.out
          rw [Int.pow_succ] at this
          omega
  · have hl : lim r x = r := by simp [lim, h4]
    rw [hl] at m4 m5
    have HL := Lib.hid hl
    have k1 : r.p < x.s := by
      simp [seenB] at m4
      have := (m4 m2).1
      omega
    clear hl hm m4
    go_wp2_with fail
    have XL : Blk _ _ _ := X0.set 2 (.int .u64 (bits BinOp.or IntKind.u64 r.b (IntKind.u64.wrap (2 ^ ((x.s - r.p).toNat - 1))))) (by simp)
    have hq : bits BinOp.or IntKind.u64 r.b (IntKind.u64.wrap (2 ^ ((x.s - r.p).toNat - 1))) = orB r.b ((x.s - r.p).toNat - 1) := or_val (by omega) (by omega) (by omega)
    rw [hq] at XL ⊢
    clear hq
    have ft : fitsR r.p (orB r.b ((x.s - r.p).toNat - 1)) := fits_or (by have := hfit; rw [HL.out] at this; exact this) (by omega) (by omega)
    have HT : Hid (takeR r x = ⟨r.i, (nrm 64 r.p (orB r.b ((x.s - r.p).toNat - 1))).1, (nrm 64 r.p (orB r.b ((x.s - r.p).toNat - 1))).2⟩) := by
      show takeR r x = _
      unfold takeR
      rw [HL.out]
    generalize orB r.b ((x.s - r.p).toNat - 1) = bb at *
    clear HL xx0 xx1 xx2 xf hfit
    go_loopg [] 64 (fun n wr => ∃ p b : Int, nrm n p b = nrm 64 r.p bb ∧ b < 2 ^ n ∧ fitsR p b ∧ Blk wr w.heap.size [.int .u16 r.i, .int .u32 p, .int .u64 b] ∧ Blk wr (w.heap.size + 1 + 1) [.int .u16 0, .int .u32 0, .int .u64 0] ∧ Below w.heap.size w wr)
    case atStart =>
      refine ⟨_, _, rfl, ?_, ft, XL, ?_, ?_⟩
      · have := ft.2.1; exact Int.lt_of_le_of_lt this (by decide)
      · exact Z0.far (by omega) _
      · exact Gw.st b0 (Nat.le_refl _) _
    case round =>
      obtain ⟨p, b, hn, hlt, hf, XR, ZR, hb⟩ := hrel
      have HN := Lib.hid hn
      have HLT := Lib.hid hlt
      have HF := Lib.hid hf
      clear hn hlt ft XL
      obtain ⟨f1, f2, f3, f4, _⟩ := hf
      have ha := and_one_u64 b f1 f2
      obtain ⟨c0, c1, c2⟩ := XR.c3
      have cf := XR.2.2
      obtain ⟨d0, d1, d2⟩ := ZR.c3
      have df := ZR.2.2
      have swr := hb.size
      cases ho : (b % 2 == 1)
      · have HO := Lib.hid ho
        go_wp2_with fail
        have ho' : ¬b % 2 = 1 := by simpa using HO.out
        have hv := HT.out
        rw [← HN.out, nrm_end ho'] at hv
        have ZF := ((ZR.set 0 (.int .u16 r.i) (by simp)).set 1 (.int .u32 p) (by simp)).set 2 (.int .u64 b) (by simp)
        obtain ⟨t0, t1, t2⟩ := ZF.c3
        refine bodyPost_ret (v := .tuple #[.agg #[.int .u16 r.i, .int .u32 p, .int .u64 b], .bool true]) (by simp [results, Try.results11, go_sem, t0, t1, t2]) rfl ⟨by rw [hv], ?_⟩
        exact Gw.st (Gw.st (Gw.st hb (by show w.heap.size ≤ w.heap.size + 1 + 1; omega) _) (by show w.heap.size ≤ w.heap.size + 1 + 1; omega) _) (by show w.heap.size ≤ w.heap.size + 1 + 1; omega) _
      · have ho' : b % 2 = 1 := by simpa using ho
        obtain ⟨hf', hp1⟩ := fits_step HF.out ho'
        have HF' := Lib.hid hf'
        have HO := Lib.hid ho'
        clear hf' ho'
        rcases gk with _ | gk
        · have h1 : b < 1 := HLT.out
          have h2 := HO.out
          omega
        go_wp2_with fail
        go_roundg gk
        case measure => omega
        case rel =>
          refine ⟨p + 1, b / 2, by rw [← HN.out, nrm_one HO.out], ?_, HF'.out, ((XR.set 1 _ (by simp)).set 2 _ (by simp)), (ZR.far (by omega) _).far (by omega) _, Gw.st (Gw.st hb (Nat.le_refl _) _) (Nat.le_refl _) _⟩
          have := HLT.out
          rw [Int.pow_succ] at this
          omega
end Go.Proofs.Ytfdppebbpcjhjaa
