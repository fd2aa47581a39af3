/-
  The chapter's examples: grapevinelaw08.awake returns true.
-/
import Derived.Test.YtfdppebbpcjhjaaRight
namespace Go.Proofs.Ytfdppebbpcjhjaa
open Go.RowKit

def tabCells : List Value := [.int .i64 1, .int .i64 2, .bool true, .int .u16 1, .int .u32 0, .int .u64 2, .int .i64 1, .int .i64 1, .bool true, .int .u16 1, .int .u32 2, .int .u64 0, .int .i64 1, .int .i64 2, .bool false, .int .u16 1, .int .u32 2, .int .u64 0, .int .i64 1, .int .i64 7, .bool false, .int .u16 1, .int .u32 2, .int .u64 0, .int .i64 1, .int .i64 6, .bool true, .int .u16 1, .int .u32 2, .int .u64 8, .int .i64 2, .int .i64 1, .bool true, .int .u16 2, .int .u32 1, .int .u64 0, .int .i64 1, .int .i64 3, .bool false, .int .u16 2, .int .u32 1, .int .u64 0]
def stCells : Nat → List Value
  | 0 => [.int .u16 0, .int .u32 0, .int .u64 0]
  | 1 => [.int .u16 1, .int .u32 0, .int .u64 2]
  | 2 => [.int .u16 1, .int .u32 2, .int .u64 0]
  | 3 => [.int .u16 1, .int .u32 2, .int .u64 0]
  | 4 => [.int .u16 1, .int .u32 2, .int .u64 0]
  | 5 => [.int .u16 1, .int .u32 2, .int .u64 8]
  | 6 => [.int .u16 2, .int .u32 1, .int .u64 0]
  | 7 => [.int .u16 2, .int .u32 1, .int .u64 0]
  | _ => []
theorem fits_zero : fitsR 0 0 := ⟨by omega, by omega, by omega, by omega, fun j hj => by simp [tb] at hj⟩
theorem fits_lit {p b : Int} (h1 : 0 ≤ b) (h2 : b ≤ 15) (h3 : 0 ≤ p) (h4 : p ≤ 1000) : fitsR p b := by
  refine ⟨h1, by omega, h3, by omega, fun j hj => ?_⟩
  rcases Nat.lt_or_ge j 64 with h | h
  · omega
  · rw [tb_high h1 (by omega) h] at hj; cases hj

set_option maxHeartbeats 4000000 in
set_option maxRecDepth 100000 in
theorem awake_any (w : World) : Calls Try.prog 8 #[] w fun e w' => e = .returned (.bool true) ∧ Below w.heap.size w w' := by
  go_enter Try.func8, Try.ntmps8
  go_wp2_with fail
  go_loopw [23] (fun i wr => ∃ k : Nat, k ≤ 7 ∧ i = .int .i64 k ∧ Below w.heap.size w wr ∧ Blk wr w.heap.size (stCells k) ∧ Blk wr (w.heap.size + 1) tabCells) (fun i _ => 7 - (intOf i).toNat)
  case atStart =>
    refine ⟨0, by omega, rfl, Gw.al (Gw.al (Below.refl _ _) _) _, (Blk.new w #[.int .u16 0, .int .u32 0, .int .u64 0] _).alloc _, ?_⟩
    have := Blk.new (w.alloc (.cells #[.int .u16 0, .int .u32 0, .int .u64 0] 31)) tabCells.toArray 49
    rw [World.size_alloc] at this
    exact this
  case round =>
    obtain ⟨k, hk, rfl, hb, X, T⟩ := hrel
    have ht := T.lt
    have hx := X.lt
    have hs := hb.size
    rcases (show k = 0 ∨ k = 1 ∨ k = 2 ∨ k = 3 ∨ k = 4 ∨ k = 5 ∨ k = 6 ∨ k = 7 by omega) with rfl | rfl | rfl | rfl | rfl | rfl | rfl | rfl
    · obtain ⟨c0, c1, c2⟩ := Blk.c3 (show Blk wr w.heap.size [.int .u16 0, .int .u32 0, .int .u64 0] from X)
      have xf := X.2.2
      have l0 : wr.cell? ⟨w.heap.size + 1, 0, none⟩ = some (.int .i64 1) := T.2.1 0 _ rfl
      have l1 : wr.cell? ⟨w.heap.size + 1, 1, none⟩ = some (.int .i64 2) := T.2.1 1 _ rfl
      have l2 : wr.cell? ⟨w.heap.size + 1, 2, none⟩ = some (.bool true) := T.2.1 2 _ rfl
      have l3 : wr.cell? ⟨w.heap.size + 1, 3, none⟩ = some (.int .u16 1) := T.2.1 3 _ rfl
      have l4 : wr.cell? ⟨w.heap.size + 1, 4, none⟩ = some (.int .u32 0) := T.2.1 4 _ rfl
      have l5 : wr.cell? ⟨w.heap.size + 1, 5, none⟩ = some (.int .u64 2) := T.2.1 5 _ rfl
      go_wp2_with fail
      refine (take_yes ⟨0, 0, 0⟩ ⟨0, 1, 2⟩ 4 (by simp [Rw.ok]) (by simp [Id.ok]) (by decide) (by rw [show lim ⟨0, 0, 0⟩ ⟨0, 1, 2⟩ = ⟨1, 0, 0⟩ by decide]; exact fits_lit (by decide) (by decide) (by decide) (by decide)) _).mono ?_
      rintro e w1 ⟨rfl, hb1⟩
      rw [show takeR ⟨0, 0, 0⟩ ⟨0, 1, 2⟩ = ⟨1, 0, 2⟩ by decide]
      have X1 := (X.alloc _).call hb1
      have T1 := (T.alloc _).call hb1
      have C1 := (Blk.new wr #[.int .i64 1, .int .i64 2, .bool true, .int .u16 1, .int .u32 0, .int .u64 2] _).call hb1
      have b1 := Gw.call (Gw.al hb _) hb1
      have hs1 := b1.size
      have hc1 := C1.lt
      have hx1 := X1.lt
      clear hb1
      have m2 := C1.2.1 2 _ rfl
      have m3 := C1.2.1 3 _ rfl
      have m4 := C1.2.1 4 _ rfl
      have m5 := C1.2.1 5 _ rfl
      obtain ⟨e0, e1, e2⟩ := Blk.c3 (show Blk w1 w.heap.size [.int .u16 0, .int .u32 0, .int .u64 0] from X1)
      have ef := X1.2.2
      clear l0 l1 l2 l3 l4 l5 xf c0 c1 c2
      go_wp2_with fail
      go_roundw
      case rel => exact ⟨1, by omega, by go_num, Gw.al (Gw.st (Gw.st (Gw.st b1 (Nat.le_refl _) _) (Nat.le_refl _) _) (Nat.le_refl _) _) _, ((((show Blk w1 w.heap.size [.int .u16 0, .int .u32 0, .int .u64 0] from X1).set 0 (.int .u16 1) (by simp)).set 1 (.int .u32 0) (by simp)).set 2 (.int .u64 2) (by simp)).alloc _, (((T1.far (by omega) _).far (by omega) _).far (by omega) _).alloc _⟩
      case measure => simp [intOf]
    · obtain ⟨c0, c1, c2⟩ := Blk.c3 (show Blk wr w.heap.size [.int .u16 1, .int .u32 0, .int .u64 2] from X)
      have xf := X.2.2
      have l0 : wr.cell? ⟨w.heap.size + 1, 6, none⟩ = some (.int .i64 1) := T.2.1 6 _ rfl
      have l1 : wr.cell? ⟨w.heap.size + 1, 7, none⟩ = some (.int .i64 1) := T.2.1 7 _ rfl
      have l2 : wr.cell? ⟨w.heap.size + 1, 8, none⟩ = some (.bool true) := T.2.1 8 _ rfl
      have l3 : wr.cell? ⟨w.heap.size + 1, 9, none⟩ = some (.int .u16 1) := T.2.1 9 _ rfl
      have l4 : wr.cell? ⟨w.heap.size + 1, 10, none⟩ = some (.int .u32 2) := T.2.1 10 _ rfl
      have l5 : wr.cell? ⟨w.heap.size + 1, 11, none⟩ = some (.int .u64 0) := T.2.1 11 _ rfl
      go_wp2_with fail
      refine (take_yes ⟨1, 0, 2⟩ ⟨0, 1, 1⟩ 4 (by simp [Rw.ok]) (by simp [Id.ok]) (by decide) (by rw [show lim ⟨1, 0, 2⟩ ⟨0, 1, 1⟩ = ⟨1, 0, 2⟩ by decide]; exact fits_lit (by decide) (by decide) (by decide) (by decide)) _).mono ?_
      rintro e w1 ⟨rfl, hb1⟩
      rw [show takeR ⟨1, 0, 2⟩ ⟨0, 1, 1⟩ = ⟨1, 2, 0⟩ by decide]
      have X1 := (X.alloc _).call hb1
      have T1 := (T.alloc _).call hb1
      have C1 := (Blk.new wr #[.int .i64 1, .int .i64 1, .bool true, .int .u16 1, .int .u32 2, .int .u64 0] _).call hb1
      have b1 := Gw.call (Gw.al hb _) hb1
      have hs1 := b1.size
      have hc1 := C1.lt
      have hx1 := X1.lt
      clear hb1
      have m2 := C1.2.1 2 _ rfl
      have m3 := C1.2.1 3 _ rfl
      have m4 := C1.2.1 4 _ rfl
      have m5 := C1.2.1 5 _ rfl
      obtain ⟨e0, e1, e2⟩ := Blk.c3 (show Blk w1 w.heap.size [.int .u16 1, .int .u32 0, .int .u64 2] from X1)
      have ef := X1.2.2
      clear l0 l1 l2 l3 l4 l5 xf c0 c1 c2
      go_wp2_with fail
      go_roundw
      case rel => exact ⟨2, by omega, by go_num, Gw.al (Gw.st (Gw.st (Gw.st b1 (Nat.le_refl _) _) (Nat.le_refl _) _) (Nat.le_refl _) _) _, ((((show Blk w1 w.heap.size [.int .u16 1, .int .u32 0, .int .u64 2] from X1).set 0 (.int .u16 1) (by simp)).set 1 (.int .u32 2) (by simp)).set 2 (.int .u64 0) (by simp)).alloc _, (((T1.far (by omega) _).far (by omega) _).far (by omega) _).alloc _⟩
      case measure => simp [intOf]
    · obtain ⟨c0, c1, c2⟩ := Blk.c3 (show Blk wr w.heap.size [.int .u16 1, .int .u32 2, .int .u64 0] from X)
      have xf := X.2.2
      have l0 : wr.cell? ⟨w.heap.size + 1, 12, none⟩ = some (.int .i64 1) := T.2.1 12 _ rfl
      have l1 : wr.cell? ⟨w.heap.size + 1, 13, none⟩ = some (.int .i64 2) := T.2.1 13 _ rfl
      have l2 : wr.cell? ⟨w.heap.size + 1, 14, none⟩ = some (.bool false) := T.2.1 14 _ rfl
      have l3 : wr.cell? ⟨w.heap.size + 1, 15, none⟩ = some (.int .u16 1) := T.2.1 15 _ rfl
      have l4 : wr.cell? ⟨w.heap.size + 1, 16, none⟩ = some (.int .u32 2) := T.2.1 16 _ rfl
      have l5 : wr.cell? ⟨w.heap.size + 1, 17, none⟩ = some (.int .u64 0) := T.2.1 17 _ rfl
      go_wp2_with fail
      refine (take_no ⟨1, 2, 0⟩ ⟨0, 1, 2⟩ 4 (by simp [Rw.ok]) (by simp [Id.ok]) (by decide) _).mono ?_
      rintro e w1 ⟨rfl, hb1⟩
      have X1 := (X.alloc _).call hb1
      have T1 := (T.alloc _).call hb1
      have C1 := (Blk.new wr #[.int .i64 1, .int .i64 2, .bool false, .int .u16 1, .int .u32 2, .int .u64 0] _).call hb1
      have b1 := Gw.call (Gw.al hb _) hb1
      have hs1 := b1.size
      have hc1 := C1.lt
      have hx1 := X1.lt
      clear hb1
      have m2 := C1.2.1 2 _ rfl
      have m3 := C1.2.1 3 _ rfl
      have m4 := C1.2.1 4 _ rfl
      have m5 := C1.2.1 5 _ rfl
      obtain ⟨e0, e1, e2⟩ := Blk.c3 (show Blk w1 w.heap.size [.int .u16 1, .int .u32 2, .int .u64 0] from X1)
      have ef := X1.2.2
      clear l0 l1 l2 l3 l4 l5 xf c0 c1 c2
      go_wp2_with fail
      go_roundw
      case rel => exact ⟨3, by omega, by go_num, Gw.al (Gw.st (Gw.st (Gw.st b1 (Nat.le_refl _) _) (Nat.le_refl _) _) (Nat.le_refl _) _) _, ((((show Blk w1 w.heap.size [.int .u16 1, .int .u32 2, .int .u64 0] from X1).set 0 (.int .u16 1) (by simp)).set 1 (.int .u32 2) (by simp)).set 2 (.int .u64 0) (by simp)).alloc _, (((T1.far (by omega) _).far (by omega) _).far (by omega) _).alloc _⟩
      case measure => simp [intOf]
    · obtain ⟨c0, c1, c2⟩ := Blk.c3 (show Blk wr w.heap.size [.int .u16 1, .int .u32 2, .int .u64 0] from X)
      have xf := X.2.2
      have l0 : wr.cell? ⟨w.heap.size + 1, 18, none⟩ = some (.int .i64 1) := T.2.1 18 _ rfl
      have l1 : wr.cell? ⟨w.heap.size + 1, 19, none⟩ = some (.int .i64 7) := T.2.1 19 _ rfl
      have l2 : wr.cell? ⟨w.heap.size + 1, 20, none⟩ = some (.bool false) := T.2.1 20 _ rfl
      have l3 : wr.cell? ⟨w.heap.size + 1, 21, none⟩ = some (.int .u16 1) := T.2.1 21 _ rfl
      have l4 : wr.cell? ⟨w.heap.size + 1, 22, none⟩ = some (.int .u32 2) := T.2.1 22 _ rfl
      have l5 : wr.cell? ⟨w.heap.size + 1, 23, none⟩ = some (.int .u64 0) := T.2.1 23 _ rfl
      go_wp2_with fail
      refine (take_no ⟨1, 2, 0⟩ ⟨0, 1, 7⟩ 4 (by simp [Rw.ok]) (by simp [Id.ok]) (by decide) _).mono ?_
      rintro e w1 ⟨rfl, hb1⟩
      have X1 := (X.alloc _).call hb1
      have T1 := (T.alloc _).call hb1
      have C1 := (Blk.new wr #[.int .i64 1, .int .i64 7, .bool false, .int .u16 1, .int .u32 2, .int .u64 0] _).call hb1
      have b1 := Gw.call (Gw.al hb _) hb1
      have hs1 := b1.size
      have hc1 := C1.lt
      have hx1 := X1.lt
      clear hb1
      have m2 := C1.2.1 2 _ rfl
      have m3 := C1.2.1 3 _ rfl
      have m4 := C1.2.1 4 _ rfl
      have m5 := C1.2.1 5 _ rfl
      obtain ⟨e0, e1, e2⟩ := Blk.c3 (show Blk w1 w.heap.size [.int .u16 1, .int .u32 2, .int .u64 0] from X1)
      have ef := X1.2.2
      clear l0 l1 l2 l3 l4 l5 xf c0 c1 c2
      go_wp2_with fail
      go_roundw
      case rel => exact ⟨4, by omega, by go_num, Gw.al (Gw.st (Gw.st (Gw.st b1 (Nat.le_refl _) _) (Nat.le_refl _) _) (Nat.le_refl _) _) _, ((((show Blk w1 w.heap.size [.int .u16 1, .int .u32 2, .int .u64 0] from X1).set 0 (.int .u16 1) (by simp)).set 1 (.int .u32 2) (by simp)).set 2 (.int .u64 0) (by simp)).alloc _, (((T1.far (by omega) _).far (by omega) _).far (by omega) _).alloc _⟩
      case measure => simp [intOf]
    · obtain ⟨c0, c1, c2⟩ := Blk.c3 (show Blk wr w.heap.size [.int .u16 1, .int .u32 2, .int .u64 0] from X)
      have xf := X.2.2
      have l0 : wr.cell? ⟨w.heap.size + 1, 24, none⟩ = some (.int .i64 1) := T.2.1 24 _ rfl
      have l1 : wr.cell? ⟨w.heap.size + 1, 25, none⟩ = some (.int .i64 6) := T.2.1 25 _ rfl
      have l2 : wr.cell? ⟨w.heap.size + 1, 26, none⟩ = some (.bool true) := T.2.1 26 _ rfl
      have l3 : wr.cell? ⟨w.heap.size + 1, 27, none⟩ = some (.int .u16 1) := T.2.1 27 _ rfl
      have l4 : wr.cell? ⟨w.heap.size + 1, 28, none⟩ = some (.int .u32 2) := T.2.1 28 _ rfl
      have l5 : wr.cell? ⟨w.heap.size + 1, 29, none⟩ = some (.int .u64 8) := T.2.1 29 _ rfl
      go_wp2_with fail
      refine (take_yes ⟨1, 2, 0⟩ ⟨0, 1, 6⟩ 4 (by simp [Rw.ok]) (by simp [Id.ok]) (by decide) (by rw [show lim ⟨1, 2, 0⟩ ⟨0, 1, 6⟩ = ⟨1, 2, 0⟩ by decide]; exact fits_lit (by decide) (by decide) (by decide) (by decide)) _).mono ?_
      rintro e w1 ⟨rfl, hb1⟩
      rw [show takeR ⟨1, 2, 0⟩ ⟨0, 1, 6⟩ = ⟨1, 2, 8⟩ by decide]
      have X1 := (X.alloc _).call hb1
      have T1 := (T.alloc _).call hb1
      have C1 := (Blk.new wr #[.int .i64 1, .int .i64 6, .bool true, .int .u16 1, .int .u32 2, .int .u64 8] _).call hb1
      have b1 := Gw.call (Gw.al hb _) hb1
      have hs1 := b1.size
      have hc1 := C1.lt
      have hx1 := X1.lt
      clear hb1
      have m2 := C1.2.1 2 _ rfl
      have m3 := C1.2.1 3 _ rfl
      have m4 := C1.2.1 4 _ rfl
      have m5 := C1.2.1 5 _ rfl
      obtain ⟨e0, e1, e2⟩ := Blk.c3 (show Blk w1 w.heap.size [.int .u16 1, .int .u32 2, .int .u64 0] from X1)
      have ef := X1.2.2
      clear l0 l1 l2 l3 l4 l5 xf c0 c1 c2
      go_wp2_with fail
      go_roundw
      case rel => exact ⟨5, by omega, by go_num, Gw.al (Gw.st (Gw.st (Gw.st b1 (Nat.le_refl _) _) (Nat.le_refl _) _) (Nat.le_refl _) _) _, ((((show Blk w1 w.heap.size [.int .u16 1, .int .u32 2, .int .u64 0] from X1).set 0 (.int .u16 1) (by simp)).set 1 (.int .u32 2) (by simp)).set 2 (.int .u64 8) (by simp)).alloc _, (((T1.far (by omega) _).far (by omega) _).far (by omega) _).alloc _⟩
      case measure => simp [intOf]
    · obtain ⟨c0, c1, c2⟩ := Blk.c3 (show Blk wr w.heap.size [.int .u16 1, .int .u32 2, .int .u64 8] from X)
      have xf := X.2.2
      have l0 : wr.cell? ⟨w.heap.size + 1, 30, none⟩ = some (.int .i64 2) := T.2.1 30 _ rfl
      have l1 : wr.cell? ⟨w.heap.size + 1, 31, none⟩ = some (.int .i64 1) := T.2.1 31 _ rfl
      have l2 : wr.cell? ⟨w.heap.size + 1, 32, none⟩ = some (.bool true) := T.2.1 32 _ rfl
      have l3 : wr.cell? ⟨w.heap.size + 1, 33, none⟩ = some (.int .u16 2) := T.2.1 33 _ rfl
      have l4 : wr.cell? ⟨w.heap.size + 1, 34, none⟩ = some (.int .u32 1) := T.2.1 34 _ rfl
      have l5 : wr.cell? ⟨w.heap.size + 1, 35, none⟩ = some (.int .u64 0) := T.2.1 35 _ rfl
      go_wp2_with fail
      refine (take_yes ⟨1, 2, 8⟩ ⟨0, 2, 1⟩ 4 (by simp [Rw.ok]) (by simp [Id.ok]) (by decide) (by rw [show lim ⟨1, 2, 8⟩ ⟨0, 2, 1⟩ = ⟨2, 0, 0⟩ by decide]; exact fits_lit (by decide) (by decide) (by decide) (by decide)) _).mono ?_
      rintro e w1 ⟨rfl, hb1⟩
      rw [show takeR ⟨1, 2, 8⟩ ⟨0, 2, 1⟩ = ⟨2, 1, 0⟩ by decide]
      have X1 := (X.alloc _).call hb1
      have T1 := (T.alloc _).call hb1
      have C1 := (Blk.new wr #[.int .i64 2, .int .i64 1, .bool true, .int .u16 2, .int .u32 1, .int .u64 0] _).call hb1
      have b1 := Gw.call (Gw.al hb _) hb1
      have hs1 := b1.size
      have hc1 := C1.lt
      have hx1 := X1.lt
      clear hb1
      have m2 := C1.2.1 2 _ rfl
      have m3 := C1.2.1 3 _ rfl
      have m4 := C1.2.1 4 _ rfl
      have m5 := C1.2.1 5 _ rfl
      obtain ⟨e0, e1, e2⟩ := Blk.c3 (show Blk w1 w.heap.size [.int .u16 1, .int .u32 2, .int .u64 8] from X1)
      have ef := X1.2.2
      clear l0 l1 l2 l3 l4 l5 xf c0 c1 c2
      go_wp2_with fail
      go_roundw
      case rel => exact ⟨6, by omega, by go_num, Gw.al (Gw.st (Gw.st (Gw.st b1 (Nat.le_refl _) _) (Nat.le_refl _) _) (Nat.le_refl _) _) _, ((((show Blk w1 w.heap.size [.int .u16 1, .int .u32 2, .int .u64 8] from X1).set 0 (.int .u16 2) (by simp)).set 1 (.int .u32 1) (by simp)).set 2 (.int .u64 0) (by simp)).alloc _, (((T1.far (by omega) _).far (by omega) _).far (by omega) _).alloc _⟩
      case measure => simp [intOf]
    · obtain ⟨c0, c1, c2⟩ := Blk.c3 (show Blk wr w.heap.size [.int .u16 2, .int .u32 1, .int .u64 0] from X)
      have xf := X.2.2
      have l0 : wr.cell? ⟨w.heap.size + 1, 36, none⟩ = some (.int .i64 1) := T.2.1 36 _ rfl
      have l1 : wr.cell? ⟨w.heap.size + 1, 37, none⟩ = some (.int .i64 3) := T.2.1 37 _ rfl
      have l2 : wr.cell? ⟨w.heap.size + 1, 38, none⟩ = some (.bool false) := T.2.1 38 _ rfl
      have l3 : wr.cell? ⟨w.heap.size + 1, 39, none⟩ = some (.int .u16 2) := T.2.1 39 _ rfl
      have l4 : wr.cell? ⟨w.heap.size + 1, 40, none⟩ = some (.int .u32 1) := T.2.1 40 _ rfl
      have l5 : wr.cell? ⟨w.heap.size + 1, 41, none⟩ = some (.int .u64 0) := T.2.1 41 _ rfl
      go_wp2_with fail
      refine (take_no ⟨2, 1, 0⟩ ⟨0, 1, 3⟩ 4 (by simp [Rw.ok]) (by simp [Id.ok]) (by decide) _).mono ?_
      rintro e w1 ⟨rfl, hb1⟩
      have X1 := (X.alloc _).call hb1
      have T1 := (T.alloc _).call hb1
      have C1 := (Blk.new wr #[.int .i64 1, .int .i64 3, .bool false, .int .u16 2, .int .u32 1, .int .u64 0] _).call hb1
      have b1 := Gw.call (Gw.al hb _) hb1
      have hs1 := b1.size
      have hc1 := C1.lt
      have hx1 := X1.lt
      clear hb1
      have m2 := C1.2.1 2 _ rfl
      have m3 := C1.2.1 3 _ rfl
      have m4 := C1.2.1 4 _ rfl
      have m5 := C1.2.1 5 _ rfl
      obtain ⟨e0, e1, e2⟩ := Blk.c3 (show Blk w1 w.heap.size [.int .u16 2, .int .u32 1, .int .u64 0] from X1)
      have ef := X1.2.2
      clear l0 l1 l2 l3 l4 l5 xf c0 c1 c2
      go_wp2_with fail
      go_roundw
      case rel => exact ⟨7, by omega, by go_num, Gw.al (Gw.st (Gw.st (Gw.st b1 (Nat.le_refl _) _) (Nat.le_refl _) _) (Nat.le_refl _) _) _, ((((show Blk w1 w.heap.size [.int .u16 2, .int .u32 1, .int .u64 0] from X1).set 0 (.int .u16 2) (by simp)).set 1 (.int .u32 1) (by simp)).set 2 (.int .u64 0) (by simp)).alloc _, (((T1.far (by omega) _).far (by omega) _).far (by omega) _).alloc _⟩
      case measure => simp [intOf]
    · obtain ⟨c0, c1, c2⟩ := Blk.c3 (show Blk wr w.heap.size [.int .u16 2, .int .u32 1, .int .u64 0] from X)
      go_wp2_with fail
      refine (mark_any ⟨2, 1, 0⟩ 5 _).mono ?_
      rintro e w1 ⟨rfl, hb1⟩
      go_wp2_with fail
      go_ret
      exact ⟨by simp, Gw.call hb hb1⟩
end Go.Proofs.Ytfdppebbpcjhjaa
