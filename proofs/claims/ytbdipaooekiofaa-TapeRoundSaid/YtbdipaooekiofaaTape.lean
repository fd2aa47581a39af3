/-
  tape: settled.
-/
import Derived.Test.YtbdipaooekiofaaClone
import Derived.Test.YtbdipaooekiofaaInts
import Derived.Test.YtbdipaooekiofaaStep
namespace Go.Proofs.Ytbdipaooekiofaa
open Go.RowKit

/-- the place that a tape is at -/
def plc (l : List Int) (p : Int) : Nat := if 0 ≤ p ∧ p < l.length then p.toNat else 0
theorem plc_in {l : List Int} {p : Int} (h0 : 0 ≤ p) (h1 : p < l.length) : (plc l p : Int) = p := by unfold plc; rw [if_pos ⟨h0, h1⟩]; omega
theorem plc_neg {l : List Int} {p : Int} (h : p < 0) : plc l p = 0 := by unfold plc; rw [if_neg (by omega)]
theorem plc_far {l : List Int} {p : Int} (h : (l.length : Int) ≤ p) : plc l p = 0 := by unfold plc; rw [if_neg (by omega)]
theorem plc_lt (l : List Int) (p : Int) (h : 0 < l.length) : plc l p < l.length := by unfold plc; split <;> omega
/-- what a call leaves: the tape with the same numbers, in memory of its own -/
def Told (l : List Int) (w : World) (f : Value → Value) (p : Int) (e : Ending) (w' : World) : Prop :=
  ∃ A c, e = .returned (f (.agg #[.slice A l.length c, .int .i64 p])) ∧ Own (fun z : Int => [Value.int .u32 z]) 1 34 w.heap.size w' (.slice A l.length c) l ∧ Below w.heap.size w w'

set_option maxHeartbeats 1000000 in
theorem settled_any (l : List Int) (A : Option Addr) (cap : Nat) (p : Int) (w : World) (hr : Rd (fun z : Int => [Value.int .u32 z]) 1 w.heap.size w A l) (hlen : l.length ≤ 1000000) :
    Calls Try.prog 15 #[.agg #[.slice A l.length cap, .int .i64 p]] w (Told l w id (plc l p)) := by
  have b0 := Gw.al (Gw.al (Below.refl w.heap.size w) (.cells #[.slice A l.length cap, .int .i64 p] 24)) (.cells #[.slice none 0 0, .int .i64 0] 24)
  have x0 := (Blk.new w #[.slice A l.length cap, .int .i64 p] 24).alloc (.cells #[.slice none 0 0, .int .i64 0] 24)
  have y0 := Blk.new (w.alloc (.cells #[.slice A l.length cap, .int .i64 p] 24)) #[.slice none 0 0, .int .i64 0] 24
  rw [World.size_alloc] at y0
  by_cases h1 : p < 0
  · rw [plc_neg h1]
    go_enter Try.func15, Try.ntmps15
    go_wp2_with (go_at_call 19; (with_reducible refine (cloneU32_any l A cap _ (hr.up b0) hlen).mono ?_); rintro e w1 ⟨A1, c1, rfl, o1, hb⟩; have b1 := Gw.call b0 hb; have x1 := Blk.call x0 hb; have y1 := Blk.call y0 hb; have xl := x1.lt; obtain ⟨c0, cc⟩ := (⟨x1.2.1 0 _ rfl, x1.2.1 1 _ rfl⟩ : _ ∧ _); obtain ⟨d0, dd⟩ := (⟨y1.2.1 0 _ rfl, y1.2.1 1 _ rfl⟩ : _ ∧ _); have xf := x1.2.2; have yf := y1.2.2; clear hb)
    have o2 : Own (fun z : Int => [Value.int .u32 z]) 1 34 (w.heap.size + 1 + 1) w1 (.slice A1 l.length c1) l := by simpa using o1
    have hlo : ∀ j, (Value.slice A1 l.length c1).ownBlock = some j → j ≠ w.heap.size ∧ j ≠ w.heap.size + 1 := fun j hj => by have := Own.lt o2 j hj; omega
    have yF := (((y1.far (g' := w.heap.size) (j := 0) (by omega) (.slice A1 l.length c1)).far (g' := w.heap.size) (j := 1) (by omega) (.int .i64 0)).set 0 (.slice A1 l.length c1) (by simp)).set 1 (.int .i64 0) (by simp)
    have t0 := yF.2.1 0 _ rfl
    have t1 := yF.2.1 1 _ rfl
    refine bodyPost_ret (v := .agg #[.slice A1 l.length c1, .int .i64 0]) (by simp [results, Try.results15, go_sem, t0, t1]) rfl ⟨A1, c1, rfl, ?_, ?_⟩
    · exact (Own.far (Own.far (Own.far (Own.far o2 (fun j hj => (hlo j hj).1) _) (fun j hj => (hlo j hj).1) _) (fun j hj => (hlo j hj).2) _) (fun j hj => (hlo j hj).2) _).base_le (by omega)
    · exact (Gw.st (Gw.st (Gw.st (Gw.st b1 (by show w.heap.size ≤ w.heap.size; omega) _) (by show w.heap.size ≤ w.heap.size; omega) _) (by show w.heap.size ≤ w.heap.size + 1; omega) _) (by show w.heap.size ≤ w.heap.size + 1; omega) _)
  · by_cases h2 : (l.length : Int) ≤ p
    · rw [plc_far h2]
      go_enter Try.func15, Try.ntmps15
      go_wp2_with (go_at_call 19; (with_reducible refine (cloneU32_any l A cap _ (hr.up b0) hlen).mono ?_); rintro e w1 ⟨A1, c1, rfl, o1, hb⟩; have b1 := Gw.call b0 hb; have x1 := Blk.call x0 hb; have y1 := Blk.call y0 hb; have xl := x1.lt; obtain ⟨c0, cc⟩ := (⟨x1.2.1 0 _ rfl, x1.2.1 1 _ rfl⟩ : _ ∧ _); obtain ⟨d0, dd⟩ := (⟨y1.2.1 0 _ rfl, y1.2.1 1 _ rfl⟩ : _ ∧ _); have xf := x1.2.2; have yf := y1.2.2; clear hb)
      have o2 : Own (fun z : Int => [Value.int .u32 z]) 1 34 (w.heap.size + 1 + 1) w1 (.slice A1 l.length c1) l := by simpa using o1
      have hlo : ∀ j, (Value.slice A1 l.length c1).ownBlock = some j → j ≠ w.heap.size ∧ j ≠ w.heap.size + 1 := fun j hj => by have := Own.lt o2 j hj; omega
      have yF := (((y1.far (g' := w.heap.size) (j := 0) (by omega) (.slice A1 l.length c1)).far (g' := w.heap.size) (j := 1) (by omega) (.int .i64 0)).set 0 (.slice A1 l.length c1) (by simp)).set 1 (.int .i64 0) (by simp)
      have t0 := yF.2.1 0 _ rfl
      have t1 := yF.2.1 1 _ rfl
      refine bodyPost_ret (v := .agg #[.slice A1 l.length c1, .int .i64 0]) (by simp [results, Try.results15, go_sem, t0, t1]) rfl ⟨A1, c1, rfl, ?_, ?_⟩
      · exact (Own.far (Own.far (Own.far (Own.far o2 (fun j hj => (hlo j hj).1) _) (fun j hj => (hlo j hj).1) _) (fun j hj => (hlo j hj).2) _) (fun j hj => (hlo j hj).2) _).base_le (by omega)
      · exact (Gw.st (Gw.st (Gw.st (Gw.st b1 (by show w.heap.size ≤ w.heap.size; omega) _) (by show w.heap.size ≤ w.heap.size; omega) _) (by show w.heap.size ≤ w.heap.size + 1; omega) _) (by show w.heap.size ≤ w.heap.size + 1; omega) _)
    · have h2' : p < l.length := by omega
      have h1' : 0 ≤ p := by omega
      rw [plc_in h1' h2']
      go_enter Try.func15, Try.ntmps15
      go_wp2_with (go_at_call 19; (with_reducible refine (cloneU32_any l A cap _ (hr.up b0) hlen).mono ?_); rintro e w1 ⟨A1, c1, rfl, o1, hb⟩; have b1 := Gw.call b0 hb; have x1 := Blk.call x0 hb; have y1 := Blk.call y0 hb; have xl := x1.lt; obtain ⟨c0, cc⟩ := (⟨x1.2.1 0 _ rfl, x1.2.1 1 _ rfl⟩ : _ ∧ _); obtain ⟨d0, dd⟩ := (⟨y1.2.1 0 _ rfl, y1.2.1 1 _ rfl⟩ : _ ∧ _); have xf := x1.2.2; have yf := y1.2.2; clear hb)
      have o2 : Own (fun z : Int => [Value.int .u32 z]) 1 34 (w.heap.size + 1 + 1) w1 (.slice A1 l.length c1) l := by simpa using o1
      have hlo : ∀ j, (Value.slice A1 l.length c1).ownBlock = some j → j ≠ w.heap.size ∧ j ≠ w.heap.size + 1 := fun j hj => by have := Own.lt o2 j hj; omega
      have yF := ((y1.far (g' := w.heap.size) (j := 0) (by omega) (.slice A1 l.length c1)).set 0 (.slice A1 l.length c1) (by simp)).set 1 (.int .i64 p) (by simp)
      have t0 := yF.2.1 0 _ rfl
      have t1 := yF.2.1 1 _ rfl
      refine bodyPost_ret (v := .agg #[.slice A1 l.length c1, .int .i64 p]) (by simp [results, Try.results15, go_sem, t0, t1]) rfl ⟨A1, c1, rfl, ?_, ?_⟩
      · exact (Own.far (Own.far (Own.far o2 (fun j hj => (hlo j hj).1) _) (fun j hj => (hlo j hj).2) _) (fun j hj => (hlo j hj).2) _).base_le (by omega)
      · exact (Gw.st (Gw.st (Gw.st b1 (by show w.heap.size ≤ w.heap.size; omega) _) (by show w.heap.size ≤ w.heap.size + 1; omega) _) (by show w.heap.size ≤ w.heap.size + 1; omega) _)
end Go.Proofs.Ytbdipaooekiofaa
