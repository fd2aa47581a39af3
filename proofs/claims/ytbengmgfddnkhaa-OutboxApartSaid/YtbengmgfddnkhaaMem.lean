/-
  Members: values; heardOf, Newer; the plain tables (14).
-/
import Derived.Test.YtbengmgfddnkhaaObj
import Derived.Test.YtbengmgfddnkhaaFrame
namespace Go.Proofs.Ytbengmgfddnkhaa
open Go.RowKit
structure Mb where
  i : Int
  s : Int
  q : Int
deriving DecidableEq
instance : Inhabited Mb := ⟨⟨0, 0, 0⟩⟩
abbrev memv (x : Mb) : Value := .agg #[.int .u16 x.i, .int .u8 x.s, .int .u8 x.q]
def memc (x : Mb) : List Value := [.int .u16 x.i, .int .u8 x.s, .int .u8 x.q]
theorem memc_len (x : Mb) : (memc x).length = 3 := rfl
theorem memc_one (x : Mb) : ∀ u ∈ memc x, u.oneCell' = true := by intro u hu; simp [memc] at hu; rcases hu with rfl | rfl | rfl <;> rfl
theorem mb_ext {x y : Mb} : x = y ↔ x.i = y.i ∧ x.s = y.s ∧ x.q = y.q := by cases x; cases y; simp
def Mb.ok (x : Mb) : Prop := (0 ≤ x.i ∧ x.i ≤ 65535) ∧ (0 ≤ x.s ∧ x.s ≤ 255) ∧ (0 ≤ x.q ∧ x.q ≤ 255)
instance (x : Mb) : Decidable x.ok := inferInstanceAs (Decidable ((0 ≤ x.i ∧ x.i ≤ 65535) ∧ (0 ≤ x.s ∧ x.s ≤ 255) ∧ (0 ≤ x.q ∧ x.q ≤ 255)))
theorem flat_mem : Flat memc [.u16, .u8, .u8] Mb.ok := by
  intro zs hl hw
  match zs, hl with
  | [a, b, c], _ => exact ⟨⟨a, b, c⟩, rfl, wf_u16 (hw 0 _ _ rfl rfl), wf_u8 (hw 1 _ _ rfl rfl), wf_u8 (hw 2 _ _ rfl rfl)⟩
theorem Rd.mem3 {B : Nat} {w : World} {A : Option Addr} {l : List Mb} (h : Rd memc 3 B w A l) {k : Nat} {x : Mb} (hx : l[k]? = some x) :
    ∃ b o, A = some ⟨b, o, none⟩ ∧ b < B ∧ w.cell? ⟨b, o + k * 3, none⟩ = some (.int .u16 x.i) ∧ w.cell? ⟨b, o + k * 3 + 1, none⟩ = some (.int .u8 x.s) ∧ w.cell? ⟨b, o + k * 3 + 2, none⟩ = some (.int .u8 x.q) := by
  obtain ⟨b, o, hA, hb, hc⟩ := h.at_ hx
  exact ⟨b, o, hA, hb, hc 0 _ rfl, hc 1 _ rfl, hc 2 _ rfl⟩
theorem eql_mb (x y : Mb) (w : World) : (binOp .eql 57 (memv x) (memv y)).run Try.prog w = .ok (.bool (decide (x = y))) w := by
  go_simp
  by_cases h0 : x.i = y.i <;> by_cases h1 : x.s = y.s <;> by_cases h2 : x.q = y.q <;> simp [mb_ext, h0, h1, h2]
theorem neq_mb (x y : Mb) (w : World) : (binOp .neq 57 (memv x) (memv y)).run Try.prog w = .ok (.bool (decide (x ≠ y))) w := by
  go_simp
  by_cases h0 : x.i = y.i <;> by_cases h1 : x.s = y.s <;> by_cases h2 : x.q = y.q <;> simp [mb_ext, h0, h1, h2]
theorem Try.infoMem : (Try.prog.info? 57).map (fun i => (i.zero, i.size, i.bytes)) = some (some (.agg #[.int .u16 0, .int .u8 0, .int .u8 0]), 3, 4) := by kernel_rfl
def newerM (x y : Mb) : Bool := decide (y.i < x.i ∨ (x.i = y.i ∧ 0 < x.i ∧ y.s < x.s))
theorem newerM_ne {x y : Mb} (h : ¬ x.i = y.i) : newerM x y = decide (y.i < x.i) := by
  unfold newerM; rw [decide_eq_decide]; omega
theorem newerM_eq {x y : Mb} (h : x.i = y.i) : newerM x y = decide (0 < x.i ∧ y.s < x.s) := by
  unfold newerM; rw [decide_eq_decide]; omega
def upB (x : Mb) : Bool := decide (x.s = 1 ∨ x.s = 2)
end Go.Proofs.Ytbengmgfddnkhaa
