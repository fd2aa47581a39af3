/-
  Rows of package seen: values; contracts of seen.valid, (row).seen, (row).within, seen.Has, seen.May, seen.Mark.
-/
import Derived.Test.YtfdppebbpcjhjaaIds
import Derived.WalkSmall
import Derived.Deep.LoopGhost
import Derived.Laws.BitsAllLaws
namespace Go.Proofs.Ytfdppebbpcjhjaa
open Go.RowKit

structure Rw where
  i : Int
  p : Int
  b : Int
deriving DecidableEq
abbrev rwv (x : Rw) : Value := .agg #[.int .u16 x.i, .int .u32 x.p, .int .u64 x.b]
def rowc (x : Rw) : List Value := [.int .u16 x.i, .int .u32 x.p, .int .u64 x.b]
theorem rowc_len (x : Rw) : (rowc x).length = 3 := rfl
theorem rowc_one (x : Rw) : ∀ u ∈ rowc x, u.oneCell' = true := by intro u hu; simp [rowc] at hu; rcases hu with rfl | rfl | rfl <;> rfl
theorem rw_ext {x y : Rw} : x = y ↔ x.i = y.i ∧ x.p = y.p ∧ x.b = y.b := by cases x; cases y; simp
def Rw.ok (x : Rw) : Prop := (0 ≤ x.i ∧ x.i ≤ 65535) ∧ (0 ≤ x.p ∧ x.p ≤ 4294967295) ∧ (0 ≤ x.b ∧ x.b ≤ 18446744073709551615)

def tb (b : Int) (j : Nat) : Bool := decide (b / 2 ^ j % 2 = 1)
def seenB (r : Rw) (n : Int) : Bool := decide (n ≠ 0 ∧ (n ≤ r.p ∨ (n - r.p - 1 < 64 ∧ tb r.b ((n - r.p).toNat - 1) = true)))
def lim (r : Rw) (x : Id) : Rw := if r.i < x.i then ⟨x.i, 0, 0⟩ else r
def mayB (r : Rw) (x : Id) (m : Int) : Bool := decide ((1 ≤ m ∧ m ≤ 64) ∧ x.i ≠ 0 ∧ x.s ≠ 0 ∧ r.i ≤ x.i ∧ seenB (lim r x) x.s = false ∧ x.s ≤ (lim r x).p + m)
def validB (n : Int) : Bool := decide (1 ≤ n ∧ n ≤ 64)

theorem div_pow_le {b : Int} {j : Nat} (h : 0 ≤ b) : 0 ≤ b / 2 ^ j ∧ b / 2 ^ j ≤ b := by
  obtain ⟨n, rfl⟩ := Int.eq_ofNat_of_zero_le h
  have e : ((n : Int) / 2 ^ j) = ((n / 2 ^ j : Nat) : Int) := by simp
  have := Nat.div_le_self n (2 ^ j)
  rw [e]
  generalize n / 2 ^ j = q at *
  omega

theorem valid_any (n : Int) (w : World) : Calls Try.prog 21 #[.int .i64 n] w fun e w' => e = .returned (.bool (validB n)) ∧ w = w' := by
  go_enter Try.func21, Try.ntmps21
  go_wp2
  all_goals go_ret
  all_goals refine ⟨ret_bool ?_, rfl⟩
  all_goals (rw [Bool.eq_iff_iff]; simp [validB]; omega)

set_option maxHeartbeats 400000 in
theorem rowseen_any (r : Rw) (n : Int) (hr : r.ok) (hn : 0 ≤ n ∧ n ≤ 4294967295) (w : World) :
    Calls Try.prog 24 #[rwv r, .int .u32 n] w fun e w' => e = .returned (.bool (seenB r n)) ∧ Below w.heap.size w w' := by
  obtain ⟨⟨h1, h2⟩, ⟨h3, h4⟩, h5, h6⟩ := hr
  have hdv := div_pow_le (j := (n - r.p).toNat - 1) h5
  have hand := and_one_u64 (r.b / 2 ^ ((n - r.p).toNat - 1)) hdv.1 (by omega)
  have HA := Lib.hid hand
  clear hand hdv
  go_enter Try.func24, Try.ntmps24
  go_wp2
  all_goals go_ret
  all_goals refine ⟨ret_bool ?_, (Below.refl _ _).alloc (Nat.le_refl _) _⟩
  all_goals go_tidy
  · have h : (n == 0) = true := by assumption
    simp at h; subst h; simp [seenB]
  · have h : (n == 0) = false := by assumption
    simp at h
    rw [Bool.eq_iff_iff]; simp [seenB]; omega
  · have h : (n == 0) = false := by assumption
    simp at h
    show (bits BinOp.and IntKind.u64 (r.b / 2 ^ ((n - r.p).toNat - 1)) 1 == 1) = _
    rw [HA.out, Bool.eq_iff_iff]
    simp [seenB, tb]; omega
  · have h : (n == 0) = false := by assumption
    simp at h
    rw [Bool.eq_iff_iff]; simp [seenB]; omega

set_option maxHeartbeats 400000 in
theorem within_any (r : Rw) (n m : Int) (hr : r.ok) (hn : 0 ≤ n ∧ n ≤ 4294967295) (hm : validB m = true) (w : World) :
    Calls Try.prog 26 #[rwv r, .int .u32 n, .int .i64 m] w fun e w' => e = .returned (.bool (decide (n ≤ r.p + m))) ∧ Below w.heap.size w w' := by
  obtain ⟨⟨_, _⟩, ⟨h3, h4⟩, h5, h6⟩ := hr
  simp [validB] at hm
  obtain ⟨h1, h2⟩ := hm
  go_enter Try.func26, Try.ntmps26
  go_wp2
  go_ret
  exact ⟨rfl, (Below.refl _ _).alloc (Nat.le_refl _) _⟩

set_option maxHeartbeats 400000 in
theorem mark_any (r : Rw) (n : Int) (w : World) :
    Calls Try.prog 14 #[.int .u8 n, rwv r] w fun e w' => e = .returned (.agg #[.int .u8 n, .int .u16 r.i, .int .u32 r.p]) ∧ Below w.heap.size w w' := by
  go_enter Try.func14, Try.ntmps14
  go_wp2
  refine bodyPost_ret (v := .agg #[.int .u8 n, .int .u16 r.i, .int .u32 r.p]) (by simp [results, Try.results14, go_sem]) rfl ⟨rfl, ((Below.refl _ _).alloc (Nat.le_refl _) _).alloc (by simp) _⟩

def hasR (r : Rw) (x : Id) : Bool := decide (0 < x.i ∧ x.i = r.i ∧ seenB r x.s = true)
set_option maxHeartbeats 400000 in
theorem rhas_any (r : Rw) (x : Id) (hr : r.ok) (hx : x.ok) (w : World) :
    Calls Try.prog 17 #[rwv r, idv x] w fun e w' => e = .returned (.bool (hasR r x)) ∧ Below w.heap.size w w' := by
  have b0 := Gw.al (Gw.al (Below.refl w.heap.size w) (.cells #[.int .u16 r.i, .int .u32 r.p, .int .u64 r.b] 31)) (.cells #[.int .u8 x.n, .int .u16 x.i, .int .u32 x.s] 35)
  have H := Lib.hid (fun W => rowseen_any r x.s hr hx.2.2 W)
  have hx1 := hx.2.1.1
  cases e0 : (x.i == r.i)
  all_goals
    go_enter Try.func17, Try.ntmps17
    go_wp2_with (go_at_call 24; (with_reducible refine (H.out _).mono ?_); rintro e w1 ⟨rfl, hb⟩; replace b0 := Gw.call b0 hb)
    all_goals go_ret
    all_goals refine ⟨ret_bool ?_, b0⟩
    all_goals go_tidy
    all_goals (try simp at e0)
    all_goals (rw [Bool.eq_iff_iff]; simp [hasR, e0]; try omega)

theorem rw_okl {r : Rw} (h : r.ok) {x : Id} (hx : x.ok) : (lim r x).ok := by
  unfold lim; split
  · exact ⟨hx.2.1, by simp, by simp⟩
  · exact h

set_option maxHeartbeats 1000000 in
theorem may_any (r : Rw) (x : Id) (m : Int) (hr : r.ok) (hx : x.ok) (w : World) :
    Calls Try.prog 19 #[rwv r, idv x, .int .i64 m] w fun e w' => e = .returned (.bool (mayB r x m)) ∧ Below w.heap.size w w' := by
  have b0 := Gw.al (Gw.al (Below.refl w.heap.size w) (.cells #[.int .u16 r.i, .int .u32 r.p, .int .u64 r.b] 31)) (.cells #[.int .u8 x.n, .int .u16 x.i, .int .u32 x.s] 35)
  have HV := Lib.hid (fun W => valid_any m W)
  cases hv : validB m
  · go_enter Try.func19, Try.ntmps19
    go_wp2_with (go_at_call 21; (with_reducible refine (HV.out _).mono ?_); rintro e w1 ⟨rfl, rfl⟩)
    go_ret
    refine ⟨ret_bool ?_, b0⟩
    simp [validB] at hv
    rw [Bool.eq_iff_iff]; simp [mayB]; omega
  · cases e1 : (x.i == 0)
    · cases e2 : (x.s == 0)
      · by_cases h3 : x.i < r.i
        · go_enter Try.func19, Try.ntmps19
          go_wp2_with (go_at_call 21; (with_reducible refine (HV.out _).mono ?_); rintro e w1 ⟨rfl, rfl⟩)
          go_ret
          refine ⟨ret_bool ?_, b0⟩
          rw [Bool.eq_iff_iff]; simp [mayB]; omega
        · by_cases h4 : r.i < x.i
          · have hl : lim r x = ⟨x.i, 0, 0⟩ := by simp [lim, h4]
            have hok : Rw.ok ⟨x.i, 0, 0⟩ := by rw [← hl]; exact rw_okl hr hx
            have HS := Lib.hid (fun W => rowseen_any ⟨x.i, 0, 0⟩ x.s hok hx.2.2 W)
            have HW := Lib.hid (fun W => within_any ⟨x.i, 0, 0⟩ x.s m hok hx.2.2 hv W)
            have b := Gw.al (Gw.al (Below.refl w.heap.size w) (.cells #[.int .u16 x.i, .int .u32 0, .int .u64 0] 31)) (.cells #[.int .u8 x.n, .int .u16 x.i, .int .u32 x.s] 35)
            have X := (Blk.new w #[.int .u16 x.i, .int .u32 0, .int .u64 0] 31).alloc (.cells #[.int .u8 x.n, .int .u16 x.i, .int .u32 x.s] 35)
            have Y := Blk.new (w.alloc (.cells #[.int .u16 x.i, .int .u32 0, .int .u64 0] 31)) #[.int .u8 x.n, .int .u16 x.i, .int .u32 x.s] 35
            rw [World.size_alloc] at Y
            clear b0
            have HL := Lib.hid hl
            clear hl
            cases hs : seenB ⟨x.i, 0, 0⟩ x.s
            all_goals
              go_enter Try.func19, Try.ntmps19
              go_wp2_with (first | (go_at_call 21; (with_reducible refine (HV.out _).mono ?_); rintro e w1 ⟨rfl, rfl⟩) | (go_at_call 24; (with_reducible refine (HS.out _).mono ?_); rintro e w' ⟨rfl, hb⟩; replace b := (by first | exact Gw.call b hb | exact Gw.call (Gw.al b _) hb | exact Gw.call (Gw.al (Gw.al b _) _) hb); replace X := (by first | exact Blk.call X hb | exact Blk.call (Blk.alloc X _) hb | exact Blk.call (Blk.alloc (Blk.alloc X _) _) hb); replace Y := (by first | exact Blk.call Y hb | exact Blk.call (Blk.alloc Y _) hb | exact Blk.call (Blk.alloc (Blk.alloc Y _) _) hb); clear hb; obtain ⟨q0X, q1X, q2X⟩ := Blk.c3 X; have qsX := Blk.lt X; obtain ⟨q0Y, q1Y, q2Y⟩ := Blk.c3 Y; have qsY := Blk.lt Y) | (go_at_call 26; (with_reducible refine (HW.out _).mono ?_); rintro e w' ⟨rfl, hb⟩; replace b := (by first | exact Gw.call b hb | exact Gw.call (Gw.al b _) hb | exact Gw.call (Gw.al (Gw.al b _) _) hb); replace X := (by first | exact Blk.call X hb | exact Blk.call (Blk.alloc X _) hb | exact Blk.call (Blk.alloc (Blk.alloc X _) _) hb); replace Y := (by first | exact Blk.call Y hb | exact Blk.call (Blk.alloc Y _) hb | exact Blk.call (Blk.alloc (Blk.alloc Y _) _) hb); clear hb; clear q0X q1X q2X qsX; clear q0Y q1Y q2Y qsY; obtain ⟨q0X, q1X, q2X⟩ := Blk.c3 X; have qsX := Blk.lt X; obtain ⟨q0Y, q1Y, q2Y⟩ := Blk.c3 Y; have qsY := Blk.lt Y))
              go_ret
              refine ⟨ret_bool ?_, b⟩
              go_tidy
              have hl := HL.out
              simp at e1 e2
              simp [validB] at hv
              rw [Bool.eq_iff_iff]
              simp [mayB, hl, hs]
              try omega
          · have hl : lim r x = r := by simp [lim, h4]
            have HS := Lib.hid (fun W => rowseen_any r x.s hr hx.2.2 W)
            have HW := Lib.hid (fun W => within_any r x.s m hr hx.2.2 hv W)
            have b := Gw.al (Gw.al (Below.refl w.heap.size w) (.cells #[.int .u16 r.i, .int .u32 r.p, .int .u64 r.b] 31)) (.cells #[.int .u8 x.n, .int .u16 x.i, .int .u32 x.s] 35)
            have X := (Blk.new w #[.int .u16 r.i, .int .u32 r.p, .int .u64 r.b] 31).alloc (.cells #[.int .u8 x.n, .int .u16 x.i, .int .u32 x.s] 35)
            have Y := Blk.new (w.alloc (.cells #[.int .u16 r.i, .int .u32 r.p, .int .u64 r.b] 31)) #[.int .u8 x.n, .int .u16 x.i, .int .u32 x.s] 35
            rw [World.size_alloc] at Y
            clear b0
            have HL := Lib.hid hl
            clear hl
            cases hs : seenB r x.s
            all_goals
              go_enter Try.func19, Try.ntmps19
              go_wp2_with (first | (go_at_call 21; (with_reducible refine (HV.out _).mono ?_); rintro e w1 ⟨rfl, rfl⟩) | (go_at_call 24; (with_reducible refine (HS.out _).mono ?_); rintro e w' ⟨rfl, hb⟩; replace b := (by first | exact Gw.call b hb | exact Gw.call (Gw.al b _) hb | exact Gw.call (Gw.al (Gw.al b _) _) hb); replace X := (by first | exact Blk.call X hb | exact Blk.call (Blk.alloc X _) hb | exact Blk.call (Blk.alloc (Blk.alloc X _) _) hb); replace Y := (by first | exact Blk.call Y hb | exact Blk.call (Blk.alloc Y _) hb | exact Blk.call (Blk.alloc (Blk.alloc Y _) _) hb); clear hb; obtain ⟨q0X, q1X, q2X⟩ := Blk.c3 X; have qsX := Blk.lt X; obtain ⟨q0Y, q1Y, q2Y⟩ := Blk.c3 Y; have qsY := Blk.lt Y) | (go_at_call 26; (with_reducible refine (HW.out _).mono ?_); rintro e w' ⟨rfl, hb⟩; replace b := (by first | exact Gw.call b hb | exact Gw.call (Gw.al b _) hb | exact Gw.call (Gw.al (Gw.al b _) _) hb); replace X := (by first | exact Blk.call X hb | exact Blk.call (Blk.alloc X _) hb | exact Blk.call (Blk.alloc (Blk.alloc X _) _) hb); replace Y := (by first | exact Blk.call Y hb | exact Blk.call (Blk.alloc Y _) hb | exact Blk.call (Blk.alloc (Blk.alloc Y _) _) hb); clear hb; clear q0X q1X q2X qsX; clear q0Y q1Y q2Y qsY; obtain ⟨q0X, q1X, q2X⟩ := Blk.c3 X; have qsX := Blk.lt X; obtain ⟨q0Y, q1Y, q2Y⟩ := Blk.c3 Y; have qsY := Blk.lt Y))
              go_ret
              refine ⟨ret_bool ?_, b⟩
              go_tidy
              have hl := HL.out
              simp at e1 e2
              simp [validB] at hv
              rw [Bool.eq_iff_iff]
              simp [mayB, hl, hs]
              try omega
      · go_enter Try.func19, Try.ntmps19
        go_wp2_with (go_at_call 21; (with_reducible refine (HV.out _).mono ?_); rintro e w1 ⟨rfl, rfl⟩)
        go_ret
        refine ⟨ret_bool ?_, b0⟩
        simp at e2
        simp [mayB, e2]
    · go_enter Try.func19, Try.ntmps19
      go_wp2_with (go_at_call 21; (with_reducible refine (HV.out _).mono ?_); rintro e w1 ⟨rfl, rfl⟩)
      go_ret
      refine ⟨ret_bool ?_, b0⟩
      simp at e1
      simp [mayB, e1]
end Go.Proofs.Ytfdppebbpcjhjaa
