/-
  The chapter's examples hold (16).
-/
import Derived.Test.YtbkmfmemcooagaaPick
import Derived.Test.YtbkmfmemcooagaaStep
import Derived.Test.YtbkmfmemcooagaaBytes
namespace Go.Proofs.Ytbkmfmemcooagaa
open Go.RowKit

theorem Rd.litInts (k : IntKind) (w : World) (g : Nat) (hg : g = w.heap.size) (cs : Array Value) (E : TypeId) (l : List Int) (hcs : cs.toList = l.map (Value.int k)) : Rd (fun z : Int => [Value.int k z]) 1 (w.alloc (.cells cs E)).heap.size (w.alloc (.cells cs E)) (some ⟨g, 0, none⟩) l := by
  rw [World.size_alloc]
  exact Rd.lit (enc := fun z : Int => [Value.int k z]) (fun _ => rfl) w g hg cs E l (by rw [hcs, flat_one])
def hopV (h : Int) : Int := if h = 0 then 0 else h - 1
def hopB (h : Int) : Bool := decide (h ≠ 0)
set_option maxHeartbeats 400000 in
theorem hop_zero (w : World) : Calls Try.prog 9 #[.int .u8 0] w fun e w' => e = .returned (.tuple #[.int .u8 0, .bool false]) ∧ w = w' := by
  go_enter Try.func9, Try.ntmps9
  go_wp2
  go_ret2
  exact ⟨rfl, rfl⟩
set_option maxHeartbeats 400000 in
theorem hop_more (h : Int) (h0 : 0 < h) (h1 : h ≤ 255) (w : World) : Calls Try.prog 9 #[.int .u8 h] w fun e w' => e = .returned (.tuple #[.int .u8 (h - 1), .bool true]) ∧ w = w' := by
  have e : (decide (h = 0)) = false := by simp; omega
  go_enter Try.func9, Try.ntmps9
  go_wp2
  go_ret2
  exact ⟨rfl, rfl⟩
theorem u8_lit (l : List Int) (h : (l.all fun x => decide (0 ≤ x ∧ x ≤ 255)) = true) : u8L l := fun x hx => by
  have := List.all_eq_true.1 h x hx; simpa using this
set_option maxHeartbeats 2000000 in
theorem awake_any (w : World) : Calls Try.prog 8 #[] w fun e w' => e = .returned (.bool true) ∧ Below w.heap.size w w' := by
  go_enter Try.func8, Try.ntmps8
  go_wp2_with (first | (go_at_call 9; (with_reducible refine (hop_zero _).mono ?_); rintro e w' ⟨rfl, rfl⟩) | (go_at_call 9; (with_reducible refine (hop_more 3 (by omega) (by omega) _).mono ?_); rintro e w' ⟨rfl, rfl⟩))
  have r1 := (Rd.litInts .u8 w _ rfl #[.int .u8 1, .int .u8 2, .int .u8 3] 5 [1, 2, 3] rfl).allocS (.cells #[.int .u32 4, .int .u32 5] 33)
  have r2 := Rd.litInts .u32 (w.alloc (.cells #[.int .u8 1, .int .u8 2, .int .u8 3] 5)) _ rfl #[.int .u32 4, .int .u32 5] 33 [4, 5] rfl
  have bb := Gw.al (Gw.al (Below.refl w.heap.size w) (.cells #[.int .u8 1, .int .u8 2, .int .u8 3] 5)) (.cells #[.int .u32 4, .int .u32 5] 33)
  simp only [World.size_alloc] at r1 r2
  refine (pick_any [1, 2, 3] [4, 5] (2) _ _ 3 2 _ (by simpa using r1) (by simpa using r2) (by simp) (by simp) (by omega) (by simp)).mono ?_
  rintro e w1 ⟨A1, c1, rfl, o1, hb⟩
  rw [show pickL (2 : Int).toNat [1, 2, 3] [4, 5] = [2, 3] by decide] at o1 ⊢
  have b1 := Gw.call bb hb
  clear hb bb r1 r2 
  go_wp2_with fail
  refine (same01_any [2, 3] [2, 3] A1 _ 2 2 _ _ _ ((o1.rd (int_len .u8)).allocS _) (Rd.litInts .u8 w1 _ rfl #[.int .u8 2, .int .u8 3] 5 [2, 3] rfl) rfl rfl (u8_lit _ (by decide)) (u8_lit _ (by decide))).mono ?_
  rintro e w' ⟨rfl, rfl⟩
  rw [decide_eq_true rfl]
  clear o1
  replace b1 := Gw.al b1 (.cells #[.int .u8 2, .int .u8 3] 5)
  generalize (w1.alloc (.cells #[.int .u8 2, .int .u8 3] 5)) = w2 at *
  go_wp2_with fail
  have r1 := Rd.litInts .u8 w2 _ rfl #[.int .u8 1, .int .u8 2, .int .u8 3] 5 [1, 2, 3] rfl
  have r2 : Rd (fun z : Int => [Value.int .u32 z]) 1 (w2.alloc (.cells #[.int .u8 1, .int .u8 2, .int .u8 3] 5)).heap.size (w2.alloc (.cells #[.int .u8 1, .int .u8 2, .int .u8 3] 5)) none [] := Rd.nil_
  have bb := Gw.al b1 (.cells #[.int .u8 1, .int .u8 2, .int .u8 3] 5)
  simp only [World.size_alloc] at r1 r2
  refine (pick_any [1, 2, 3] [] (9) _ _ 3 0 _ (by simpa using r1) (by simpa using r2) (by simp) (by simp) (by omega) (by simp)).mono ?_
  rintro e w3 ⟨A1, c1, rfl, o1, hb⟩
  rw [show pickL (9 : Int).toNat [1, 2, 3] [] = [1, 2, 3] by decide] at o1 ⊢
  have b3 := Gw.call bb hb
  clear hb bb r1 r2 b1
  go_wp2_with fail
  refine (same01_any [1, 2, 3] [1, 2, 3] A1 _ 3 3 _ _ _ ((o1.rd (int_len .u8)).allocS _) (Rd.litInts .u8 w3 _ rfl #[.int .u8 1, .int .u8 2, .int .u8 3] 5 [1, 2, 3] rfl) rfl rfl (u8_lit _ (by decide)) (u8_lit _ (by decide))).mono ?_
  rintro e w' ⟨rfl, rfl⟩
  rw [decide_eq_true rfl]
  clear o1
  replace b3 := Gw.al b3 (.cells #[.int .u8 1, .int .u8 2, .int .u8 3] 5)
  generalize (w3.alloc (.cells #[.int .u8 1, .int .u8 2, .int .u8 3] 5)) = w4 at *
  go_wp2_with fail
  have r1 := (Rd.litInts .u8 w4 _ rfl #[.int .u8 1, .int .u8 2] 5 [1, 2] rfl).allocS (.cells #[.int .u32 7] 33)
  have r2 := Rd.litInts .u32 (w4.alloc (.cells #[.int .u8 1, .int .u8 2] 5)) _ rfl #[.int .u32 7] 33 [7] rfl
  have bb := Gw.al (Gw.al b3 (.cells #[.int .u8 1, .int .u8 2] 5)) (.cells #[.int .u32 7] 33)
  simp only [World.size_alloc] at r1 r2
  refine (pick_any [1, 2] [7] (-1) _ _ 2 1 _ (by simpa using r1) (by simpa using r2) (by simp) (by simp) (by omega) (by simp)).mono ?_
  rintro e w5 ⟨A1, c1, rfl, o1, hb⟩
  rw [show pickL (-1 : Int).toNat [1, 2] [7] = [] by decide] at o1 ⊢
  have b5 := Gw.call bb hb
  clear hb bb r1 r2 b3
  go_wp2_with fail
  go_ret
  exact ⟨rfl, b5⟩
end Go.Proofs.Ytbkmfmemcooagaa
