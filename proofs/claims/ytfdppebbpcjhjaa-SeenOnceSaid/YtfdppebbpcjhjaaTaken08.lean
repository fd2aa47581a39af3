/-
  SeenAny's closure: numbers taken one by one.
-/
import Derived.Test.YtfdppebbpcjhjaaSeenSets
import Derived.Test.YtfdppebbpcjhjaaInts
namespace Go.Proofs.Ytfdppebbpcjhjaa
open Go.RowKit

theorem Blk.rw3 {w : World} {g : Nat} {r : Rw} (h : Blk w g (rowc r)) : w.cell? ⟨g, 0, none⟩ = some (.int .u16 r.i) ∧ w.cell? ⟨g, 1, none⟩ = some (.int .u32 r.p) ∧ w.cell? ⟨g, 2, none⟩ = some (.int .u64 r.b) := Blk.c3 h
theorem Blk.put3 {w : World} {g : Nat} {r : Rw} (h : Blk w g (rowc r)) (a b c : Value) : Blk (((w.setCell ⟨g, 0, none⟩ a).setCell ⟨g, 1, none⟩ b).setCell ⟨g, 2, none⟩ c) g [a, b, c] :=
  ((h.set 0 a (by simp [rowc])).set 1 b (by simp [rowc])).set 2 c (by simp [rowc])
theorem Gw.st3 {a w : World} (h : Below a.heap.size a w) {g : Nat} (hg : a.heap.size ≤ g) (x y z : Value) : Below a.heap.size a (((w.setCell ⟨g, 0, none⟩ x).setCell ⟨g, 1, none⟩ y).setCell ⟨g, 2, none⟩ z) :=
  Gw.st (Gw.st (Gw.st h hg _) hg _) hg _
theorem Blk.far3 {w : World} {g g' : Nat} {cs : List Value} (h : Blk w g cs) (hne : g ≠ g') (x y z : Value) : Blk (((w.setCell ⟨g', 0, none⟩ x).setCell ⟨g', 1, none⟩ y).setCell ⟨g', 2, none⟩ z) g cs := ((h.far hne _).far hne _).far hne _

set_option maxHeartbeats 2000000 in
theorem taken_any (l : List Int) (A : Option Addr) (cap : Nat) (inc m : Int) (Bi Bm : Nat) (w : World) (hr : Rd (fun z : Int => [Value.int .u32 z]) 1 w.heap.size w A l) (hlen : l.length ≤ 1000000) (ci : w.cell? ⟨Bi, 0, none⟩ = some (.int .u16 inc)) (cm : w.cell? ⟨Bm, 0, none⟩ = some (.int .i64 m))
    (hi : Bi < w.heap.size) (hmB : Bm < w.heap.size) (h0 : 0 < inc) (h1 : inc ≤ 65535) (hm1 : 1 ≤ m) (hm2 : m ≤ 64) (hd : l.Nodup) (hl : ∀ n ∈ l, 1 ≤ n ∧ n ≤ m) :
    Calls Try.prog 10 #[.slice A l.length cap, .pointer (some ⟨Bi, 0, none⟩), .pointer (some ⟨Bm, 0, none⟩)] w fun e w' => e = .returned (.tuple #[rwv (rowOf inc l), .bool true]) ∧ Below w.heap.size w w' := by
  have HD := Lib.hid hd
  have HL := Lib.hid hl
  have CI := Lib.hid ci
  have CM := Lib.hid cm
  clear hd hl ci cm
  go_enter Try.func10, Try.ntmps10
  go_wp2_with fail
  go_loopw [7, 15] (fun t i wr => ∃ k : Nat, k ≤ l.length ∧ i = .int .i64 k ∧ t = .bool true ∧ Below w.heap.size w wr ∧ Blk wr (w.heap.size + 1) (rowc (rowOf inc (l.take k))) ∧ Blk wr w.heap.size (rowc ⟨0, 0, 0⟩)) (fun _ i _ => l.length - (intOf i).toNat)
  case atStart =>
    refine ⟨0, Nat.zero_le _, rfl, rfl, Gw.al (Gw.al (Below.refl _ _) _) _, ?_, (Blk.new w #[.int .u16 0, .int .u32 0, .int .u64 0] _).alloc _⟩
    have := Blk.new (w.alloc (.cells #[.int .u16 0, .int .u32 0, .int .u64 0] 31)) #[.int .u16 0, .int .u32 0, .int .u64 0] 31
    rw [World.size_alloc] at this
    exact this
  case round =>
    obtain ⟨k, hk, rfl, rfl, b, X, Y⟩ := hrel
    have hs := b.size
    have hxl := X.lt
    by_cases hlt : k < l.length
    · obtain ⟨x, hx⟩ : ∃ x, l[k]? = some x := ⟨_, List.getElem?_eq_getElem hlt⟩
      have hG := good_row h0 h1 hm1 hm2 l HD.out HL.out k
      have hM := good_may h0 h1 hm1 hm2 l HD.out HL.out hx
      have hX := HL.out x (List.mem_of_getElem? hx)
      have hR : takeR (rowOf inc (l.take k)) ⟨0, inc, x⟩ = rowOf inc (l.take (k + 1)) := by
        obtain ⟨h3, rfl⟩ := List.getElem?_eq_some_iff.1 hx
        rw [List.take_succ_eq_append_getElem h3, rowOf_snoc]
      generalize rowOf inc (l.take k) = r at *
      obtain ⟨r2, hr2⟩ : ∃ r2, r2 = rowOf inc (l.take (k + 1)) := ⟨_, rfl⟩
      rw [← hr2] at hR
      have HR2 := Lib.hid hr2
      have TK := Lib.hid (take_yes r ⟨0, inc, x⟩ m hG.ok (by simp [Id.ok]; omega) hM (by rw [good_lim hG h0]; exact hG.fit))
      rw [hR] at TK
      have g0 := (b.cell (p := ⟨Bi, 0, none⟩) hi).trans CI.out
      have g1 := (b.cell (p := ⟨Bm, 0, none⟩) hmB).trans CM.out
      obtain ⟨bb, o, rfl, hbb, cx⟩ := (hr.below b).int1 hx
      obtain ⟨x0, x1, x2⟩ := X.rw3
      clear hx hG hM hR hr hr2
      go_wp2_with fail
      refine (TK.out _).mono ?_
      rintro e w1 ⟨rfl, hb1⟩
      have X1 := X.call hb1
      have Y1 := Y.call hb1
      have b1 := Gw.call b hb1
      have hs1 := b1.size
      have hx1 := X1.lt
      obtain ⟨e0, e1, e2⟩ := X1.rw3
      have ef := X1.2.2
      clear hb1 x0 x1 x2 X Y g0 g1 cx
      go_wp2_with fail
      go_roundw
      case rel => exact ⟨k + 1, by omega, by go_num, rfl, Gw.al (Gw.st3 b1 (by omega) _ _ _) _, (by rw [← HR2.out]; exact (X1.put3 _ _ _).alloc _), (Y1.far3 (by omega) _ _ _).alloc _⟩
      case measure => simp [intOf]; omega
    · obtain rfl : k = l.length := by omega
      rw [List.take_length] at X
      obtain ⟨r, hr2⟩ : ∃ r, r = rowOf inc l := ⟨_, rfl⟩
      rw [← hr2] at X
      have HR2 := Lib.hid hr2
      clear hr2
      obtain ⟨x0, x1, x2⟩ := X.rw3
      obtain ⟨y0, y1, y2⟩ := Y.rw3
      have yf := Y.2.2
      have yl := Y.lt
      go_wp2_with fail
      have YF := Y.put3 (.int .u16 r.i) (.int .u32 r.p) (.int .u64 r.b)
      obtain ⟨t0, t1, t2⟩ := YF.c3
      refine bodyPost_ret (v := .tuple #[rwv r, .bool true]) (by simp [results, Try.results10, go_sem, t0, t1, t2]) rfl ⟨by rw [← HR2.out], ?_⟩
      exact Gw.st3 b (Nat.le_refl _) _ _ _
end Go.Proofs.Ytfdppebbpcjhjaa
