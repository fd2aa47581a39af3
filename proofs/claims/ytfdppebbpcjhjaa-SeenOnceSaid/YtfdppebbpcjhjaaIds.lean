/-
  Ids: the value of an id, and the contracts of the functions of package ident that take ids by value.
-/
import Derived.Test.YtfdppebbpcjhjaaBase
namespace Go.Proofs.Ytfdppebbpcjhjaa
open Go.RowKit

structure Id where
  n : Int
  i : Int
  s : Int
deriving DecidableEq
abbrev idv (x : Id) : Value := .agg #[.int .u8 x.n, .int .u16 x.i, .int .u32 x.s]
def idc (x : Id) : List Value := [.int .u8 x.n, .int .u16 x.i, .int .u32 x.s]
theorem idc_len (x : Id) : (idc x).length = 3 := rfl
theorem idc_one (x : Id) : ∀ u ∈ idc x, u.oneCell' = true := by intro u hu; simp [idc] at hu; rcases hu with rfl | rfl | rfl <;> rfl
theorem id_ext {x y : Id} : x = y ↔ x.n = y.n ∧ x.i = y.i ∧ x.s = y.s := by cases x; cases y; simp
theorem id_ne {x y : Id} (h : ¬x = y) : ¬x.n = y.n ∨ (x.n = y.n ∧ ¬x.i = y.i) ∨ (x.n = y.n ∧ x.i = y.i ∧ ¬x.s = y.s) := by
  rw [id_ext] at h
  by_cases h0 : x.n = y.n
  · by_cases h1 : x.i = y.i
    · exact .inr (.inr ⟨h0, h1, fun h2 => h ⟨h0, h1, h2⟩⟩)
    · exact .inr (.inl ⟨h0, h1⟩)
  · exact .inl h0
/-- the fields are in their kinds -/
def Id.ok (x : Id) : Prop := (0 ≤ x.n ∧ x.n ≤ 255) ∧ (0 ≤ x.i ∧ x.i ≤ 65535) ∧ (0 ≤ x.s ∧ x.s ≤ 4294967295)
theorem Rd.id3 {B : Nat} {w : World} {A : Option Addr} {l : List Id} (h : Rd idc 3 B w A l) {k : Nat} {x : Id} (hx : l[k]? = some x) :
    ∃ b o, A = some ⟨b, o, none⟩ ∧ b < B ∧ w.cell? ⟨b, o + k * 3, none⟩ = some (.int .u8 x.n) ∧ w.cell? ⟨b, o + k * 3 + 1, none⟩ = some (.int .u16 x.i) ∧ w.cell? ⟨b, o + k * 3 + 2, none⟩ = some (.int .u32 x.s) := by
  obtain ⟨b, o, hA, hb, hc⟩ := h.at_ hx
  exact ⟨b, o, hA, hb, hc 0 _ rfl, hc 1 _ rfl, hc 2 _ rfl⟩

theorem eql_id (x y : Id) (w : World) : (binOp .eql 35 (idv x) (idv y)).run Try.prog w = .ok (.bool (decide (x = y))) w := by
  go_simp
  by_cases h0 : x.n = y.n <;> by_cases h1 : x.i = y.i <;> by_cases h2 : x.s = y.s <;> simp [id_ext, h0, h1, h2]
theorem neq_id (x y : Id) (w : World) : (binOp .neq 35 (idv x) (idv y)).run Try.prog w = .ok (.bool (decide (x ≠ y))) w := by
  go_simp
  by_cases h0 : x.n = y.n <;> by_cases h1 : x.i = y.i <;> by_cases h2 : x.s = y.s <;> simp [id_ext, h0, h1, h2]
def rightB (x : Id) (nodes last : Int) : Bool := decide (x.n < nodes ∧ 1 ≤ x.i ∧ 1 ≤ x.s ∧ x.s ≤ last)
def lessB (x y : Id) : Bool := decide (x.n < y.n ∨ x.n = y.n ∧ (x.i < y.i ∨ x.i = y.i ∧ x.s < y.s))





theorem less_irr (x : Id) : lessB x x = false := by simp [lessB]
theorem less_asym {x y : Id} (h : lessB x y = true) : lessB y x = false := by simp [lessB] at *; omega
theorem less_ne {x y : Id} (h : lessB x y = true) : decide (x = y) = false := by
  rw [decide_eq_false_iff_not]; rintro rfl; rw [less_irr] at h; cases h
theorem less_tri (x y : Id) : x = y ∨ lessB x y = true ∨ lessB y x = true := by
  rw [id_ext]; simp [lessB]; omega
theorem less_trans {x y z : Id} (h : lessB x y = true) (h' : lessB y z = true) : lessB x z = true := by simp [lessB] at *; omega
theorem less_next (x : Id) : lessB x ⟨x.n, x.i, x.s + 1⟩ = true := by simp [lessB]; omega
theorem less_gap {x y : Id} (h : lessB x y = true) : lessB y ⟨x.n, x.i, x.s + 1⟩ = false := by simp [lessB] at *; omega

end Go.Proofs.Ytfdppebbpcjhjaa
