/-
  Rows of package seen: values; contracts of seen.valid, (row).seen, (row).within, seen.Has, seen.May, seen.Mark.
-/
import Derived.Test.YtcclnfpegepcnaaIds
import Derived.WalkSmall
import Derived.Deep.LoopGhost
import Derived.Laws.BitsAllLaws
namespace Go.Proofs.Ytcclnfpegepcnaa
open Go.RowKit

structure Rw where
  i : Int
  p : Int
  b : Int
deriving DecidableEq
abbrev rwv (x : Rw) : Value := .agg #[.int .u16 x.i, .int .u32 x.p, .int .u64 x.b]
def rowc (x : Rw) : List Value := [.int .u16 x.i, .int .u32 x.p, .int .u64 x.b]
theorem rowc_len (x : Rw) : (rowc x).length = 3 := rfl
theorem rowc_one (x : Rw) : ∀ u ∈ rowc x, u.oneCell' = true := by intro u hu; simp [rowc] at hu; rcases hu with rfl | rfl | rfl <;> rfl
theorem rw_ext {x y : Rw} : x = y ↔ x.i = y.i ∧ x.p = y.p ∧ x.b = y.b := by cases x; cases y; simp
def Rw.ok (x : Rw) : Prop := (0 ≤ x.i ∧ x.i ≤ 65535) ∧ (0 ≤ x.p ∧ x.p ≤ 4294967295) ∧ (0 ≤ x.b ∧ x.b ≤ 18446744073709551615)

def tb (b : Int) (j : Nat) : Bool := decide (b / 2 ^ j % 2 = 1)
def seenB (r : Rw) (n : Int) : Bool := decide (n ≠ 0 ∧ (n ≤ r.p ∨ (n - r.p - 1 < 64 ∧ tb r.b ((n - r.p).toNat - 1) = true)))
def lim (r : Rw) (x : Id) : Rw := if r.i < x.i then ⟨x.i, 0, 0⟩ else r
def mayB (r : Rw) (x : Id) (m : Int) : Bool := decide ((1 ≤ m ∧ m ≤ 64) ∧ x.i ≠ 0 ∧ x.s ≠ 0 ∧ r.i ≤ x.i ∧ seenB (lim r x) x.s = false ∧ x.s ≤ (lim r x).p + m)
def validB (n : Int) : Bool := decide (1 ≤ n ∧ n ≤ 64)

theorem div_pow_le {b : Int} {j : Nat} (h : 0 ≤ b) : 0 ≤ b / 2 ^ j ∧ b / 2 ^ j ≤ b := by
  obtain ⟨n, rfl⟩ := Int.eq_ofNat_of_zero_le h
  have e : ((n : Int) / 2 ^ j) = ((n / 2 ^ j : Nat) : Int) := by simp
  have := Nat.div_le_self n (2 ^ j)
  rw [e]
  generalize n / 2 ^ j = q at *
  omega

set_option maxHeartbeats 400000 in
theorem mark_any (r : Rw) (n : Int) (w : World) :
    Calls Try.prog 29 #[.int .u8 n, rwv r] w fun e w' => e = .returned (.agg #[.int .u8 n, .int .u16 r.i, .int .u32 r.p]) ∧ Below w.heap.size w w' := by
  go_enter Try.func29, Try.ntmps29
  go_wp2
  refine bodyPost_ret (v := .agg #[.int .u8 n, .int .u16 r.i, .int .u32 r.p]) (by simp [results, Try.results29, go_sem]) rfl ⟨rfl, ((Below.refl _ _).alloc (Nat.le_refl _) _).alloc (by simp) _⟩


theorem rw_okl {r : Rw} (h : r.ok) {x : Id} (hx : x.ok) : (lim r x).ok := by
  unfold lim; split
  · exact ⟨hx.2.1, by simp, by simp⟩
  · exact h

end Go.Proofs.Ytcclnfpegepcnaa
