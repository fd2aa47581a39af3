/-
  DigestTells: the chapter's answers are the document's (17).
-/
import Derived.Test.YthockpallaoelaaRefLacks
import Derived.Test.YthockpallaoelaaAwake17
import Derived.Test.YthockpallaoelaaNewerL
namespace Go.Proofs.Ythockpallaoelaa
open Go.RowKit
set_option maxRecDepth 100000 in
set_option maxHeartbeats 8000000 in
theorem dtells_any (rows : List Rw) (ids : List Id) (m : Int) (x y : Id) (A B : Option Addr) (ca cb : Nat) (w : World) (hr : Rd rowc 3 w.heap.size w A rows) (hi : Rd idc 3 w.heap.size w B ids) (hok : ∀ r ∈ rows, r.ok) (hio : ∀ x ∈ ids, x.ok) (hl : rows.length ≤ 9223372036854775807) (hl2 : ids.length ≤ 9223372036854775807) :
    Calls Try.prog 5 #[.slice A rows.length ca, .slice B ids.length cb, .int .i64 m, idv x, idv y] w fun e w' => e = .returned (.bool true) ∧ Below w.heap.size w w' := by
  have b := Gw.al (Gw.al (Below.refl w.heap.size w) (.cells #[.int .u8 x.n, .int .u16 x.i, .int .u32 x.s] 43)) (.cells #[.int .u8 y.n, .int .u16 y.i, .int .u32 y.s] 43)
  have X := (Blk.new w #[.int .u8 x.n, .int .u16 x.i, .int .u32 x.s] 43).alloc (.cells #[.int .u8 y.n, .int .u16 y.i, .int .u32 y.s] 43)
  have Y := Blk.new (w.alloc (.cells #[.int .u8 x.n, .int .u16 x.i, .int .u32 x.s] 43)) #[.int .u8 y.n, .int .u16 y.i, .int .u32 y.s] 43
  rw [World.size_alloc] at Y
  have r := hr.up b
  have ri := hi.up b
  have HR := Lib.hid hok
  have HI := Lib.hid hio
  clear hr hi hok hio
  go_enter Try.func5, Try.ntmps5
  go_wp2_with fail
  refine (right17_any rows A ca m 30 _ r HR.out hl).mono ?_
  rintro e w1 ⟨rfl, hb⟩
  replace b := Gw.call b hb
  replace X := X.call hb
  replace Y := Y.call hb
  replace r := r.up hb
  replace ri := ri.up hb
  clear hb
  obtain ⟨q0X, q1X, q2X⟩ := Blk.c3 X; have qsX := Blk.lt X; obtain ⟨q0Y, q1Y, q2Y⟩ := Blk.c3 Y; have qsY := Blk.lt Y
  cases hq : right17 rows m 30
  · clear hq
    skip
    go_wp2_with fail
    refine (awake_any _).mono ?_
    rintro e w2 ⟨rfl, hb⟩
    replace b := Gw.call b hb
    clear hb
    go_wp2_with fail
    go_ret
    exact ⟨rfl, b⟩
  · have h30 : rows.length ≤ 30 := by
      unfold right17 at hq; rw [decide_eq_true_iff] at hq; have := hq.2.1; omega
    clear hq
    by_cases h100 : 100 < ids.length
    · have t1 : decide ((100 : Int) < (ids.length : Int)) = true := by simp; omega
      go_wp2_with fail
      refine (awake_any _).mono ?_
      rintro e w2 ⟨rfl, hb⟩
      replace b := Gw.call b hb
      clear hb
      go_wp2_with fail
      go_ret
      exact ⟨rfl, b⟩
    · have t1 : decide ((100 : Int) < (ids.length : Int)) = false := by simp; omega
      have hml : (marksL rows).length ≤ 140737488355328 := by have := marks_len rows; omega
      have hll : (lacksL ids rows m).length ≤ 140737488355328 := by have := dd_len (p := lackOk rows m) ids; unfold lacksL; omega
      have C1 := Lib.hid (fun W => newer_any x y W)
      have C2 := Lib.hid (fun W => refnewer_any x y W)
      clear hl hl2 t1
      go_upto_region 3 with fail
      try simp only [List.append_eq, List.cons_append, List.nil_append]
      go_region_held3 (fun W => W.cell? ⟨w.heap.size, 0, none⟩ = some (.int .u8 x.n) ∧ W.cell? ⟨w.heap.size, 1, none⟩ = some (.int .u16 x.i) ∧ W.cell? ⟨w.heap.size, 2, none⟩ = some (.int .u32 x.s) ∧ W.cell? ⟨w.heap.size + 1, 0, none⟩ = some (.int .u8 y.n) ∧ W.cell? ⟨w.heap.size + 1, 1, none⟩ = some (.int .u16 y.i) ∧ W.cell? ⟨w.heap.size + 1, 2, none⟩ = some (.int .u32 y.s)) (first | exact ⟨q0X, q1X, q2X, q0Y, q1Y, q2Y⟩) (first
        | ((with_reducible show Calls _ _ _ _ _); go_at_call 19; (with_reducible refine (dmarks_any rows A ca _ (Rd.drewS r) (by omega)).mono ?_); rintro e w' ⟨A1, c1, rfl, O1, hb⟩; replace b := (by first | exact Gw.call b hb | exact Gw.call (Gw.al b _) hb | exact Gw.call (Gw.al (Gw.al b _) _) hb | exact Gw.call (Below.drew b) hb | exact Gw.call (Gw.drewN b _) hb); replace X := (by first | exact Blk.call X hb | exact Blk.call (Blk.alloc X _) hb | exact Blk.call (Blk.alloc (Blk.alloc X _) _) hb | exact Blk.call (Blk.drew X) hb | exact Blk.call (Blk.drewN X _) hb); replace Y := (by first | exact Blk.call Y hb | exact Blk.call (Blk.alloc Y _) hb | exact Blk.call (Blk.alloc (Blk.alloc Y _) _) hb | exact Blk.call (Blk.drew Y) hb | exact Blk.call (Blk.drewN Y _) hb); replace r := (by first | exact Rd.up r hb | exact Rd.up (Rd.drew r) hb | exact Rd.up (Rd.up r (Below.alloc (Below.refl _ _) (Nat.le_refl _) _)) hb); replace ri := (by first | exact Rd.up ri hb | exact Rd.up (Rd.drew ri) hb | exact Rd.up (Rd.up ri (Below.alloc (Below.refl _ _) (Nat.le_refl _) _)) hb); clear hb; clear q0X q1X q2X qsX; clear q0Y q1Y q2Y qsY; obtain ⟨q0X, q1X, q2X⟩ := Blk.c3 X; have qsX := Blk.lt X; obtain ⟨q0Y, q1Y, q2Y⟩ := Blk.c3 Y; have qsY := Blk.lt Y)
        | ((with_reducible show Calls _ _ _ _ _); go_at_call 20; (with_reducible refine (refmarks_any rows A ca _ r (by omega)).mono ?_); rintro e w' ⟨A2, c2, rfl, O2, hb⟩; replace b := (by first | exact Gw.call b hb | exact Gw.call (Gw.al b _) hb | exact Gw.call (Gw.al (Gw.al b _) _) hb | exact Gw.call (Below.drew b) hb | exact Gw.call (Gw.drewN b _) hb); replace X := (by first | exact Blk.call X hb | exact Blk.call (Blk.alloc X _) hb | exact Blk.call (Blk.alloc (Blk.alloc X _) _) hb | exact Blk.call (Blk.drew X) hb | exact Blk.call (Blk.drewN X _) hb); replace Y := (by first | exact Blk.call Y hb | exact Blk.call (Blk.alloc Y _) hb | exact Blk.call (Blk.alloc (Blk.alloc Y _) _) hb | exact Blk.call (Blk.drew Y) hb | exact Blk.call (Blk.drewN Y _) hb); replace r := (by first | exact Rd.up r hb | exact Rd.up (Rd.drew r) hb | exact Rd.up (Rd.up r (Below.alloc (Below.refl _ _) (Nat.le_refl _) _)) hb); replace ri := (by first | exact Rd.up ri hb | exact Rd.up (Rd.drew ri) hb | exact Rd.up (Rd.up ri (Below.alloc (Below.refl _ _) (Nat.le_refl _) _)) hb); have hb0 := hb; clear hb; clear q0X q1X q2X qsX; clear q0Y q1Y q2Y qsY; obtain ⟨q0X, q1X, q2X⟩ := Blk.c3 X; have qsX := Blk.lt X; obtain ⟨q0Y, q1Y, q2Y⟩ := Blk.c3 Y; have qsY := Blk.lt Y; replace O1 := Own.below O1 hb0)
        | ((with_reducible show Calls _ _ _ _ _); go_at_call 18; (with_reducible refine (msame_any (marksL rows) (marksL rows) A1 A2 c1 c2 _ (O1.rd idc_len) (O2.rd idc_len) hml hml).mono ?_); rintro e w' ⟨rfl, hb⟩; replace b := (by first | exact Gw.call b hb | exact Gw.call (Gw.al b _) hb | exact Gw.call (Gw.al (Gw.al b _) _) hb | exact Gw.call (Below.drew b) hb | exact Gw.call (Gw.drewN b _) hb); replace X := (by first | exact Blk.call X hb | exact Blk.call (Blk.alloc X _) hb | exact Blk.call (Blk.alloc (Blk.alloc X _) _) hb | exact Blk.call (Blk.drew X) hb | exact Blk.call (Blk.drewN X _) hb); replace Y := (by first | exact Blk.call Y hb | exact Blk.call (Blk.alloc Y _) hb | exact Blk.call (Blk.alloc (Blk.alloc Y _) _) hb | exact Blk.call (Blk.drew Y) hb | exact Blk.call (Blk.drewN Y _) hb); replace r := (by first | exact Rd.up r hb | exact Rd.up (Rd.drew r) hb | exact Rd.up (Rd.up r (Below.alloc (Below.refl _ _) (Nat.le_refl _) _)) hb); replace ri := (by first | exact Rd.up ri hb | exact Rd.up (Rd.drew ri) hb | exact Rd.up (Rd.up ri (Below.alloc (Below.refl _ _) (Nat.le_refl _) _)) hb); clear hb; clear q0X q1X q2X qsX; clear q0Y q1Y q2Y qsY; obtain ⟨q0X, q1X, q2X⟩ := Blk.c3 X; have qsX := Blk.lt X; obtain ⟨q0Y, q1Y, q2Y⟩ := Blk.c3 Y; have qsY := Blk.lt Y; rw [decide_eq_true rfl]; clear O1 O2)
        | ((with_reducible show Calls _ _ _ _ _); go_at_call 10; (with_reducible refine (lacks_any ids rows m B A cb ca _ ri r HI.out HR.out (by omega) (by omega)).mono ?_); rintro e w' ⟨A3, c3, rfl, O3, hb⟩; replace b := (by first | exact Gw.call b hb | exact Gw.call (Gw.al b _) hb | exact Gw.call (Gw.al (Gw.al b _) _) hb | exact Gw.call (Below.drew b) hb | exact Gw.call (Gw.drewN b _) hb); replace X := (by first | exact Blk.call X hb | exact Blk.call (Blk.alloc X _) hb | exact Blk.call (Blk.alloc (Blk.alloc X _) _) hb | exact Blk.call (Blk.drew X) hb | exact Blk.call (Blk.drewN X _) hb); replace Y := (by first | exact Blk.call Y hb | exact Blk.call (Blk.alloc Y _) hb | exact Blk.call (Blk.alloc (Blk.alloc Y _) _) hb | exact Blk.call (Blk.drew Y) hb | exact Blk.call (Blk.drewN Y _) hb); replace r := (by first | exact Rd.up r hb | exact Rd.up (Rd.drew r) hb | exact Rd.up (Rd.up r (Below.alloc (Below.refl _ _) (Nat.le_refl _) _)) hb); replace ri := (by first | exact Rd.up ri hb | exact Rd.up (Rd.drew ri) hb | exact Rd.up (Rd.up ri (Below.alloc (Below.refl _ _) (Nat.le_refl _) _)) hb); clear hb; clear q0X q1X q2X qsX; clear q0Y q1Y q2Y qsY; obtain ⟨q0X, q1X, q2X⟩ := Blk.c3 X; have qsX := Blk.lt X; obtain ⟨q0Y, q1Y, q2Y⟩ := Blk.c3 Y; have qsY := Blk.lt Y)
        | ((with_reducible show Calls _ _ _ _ _); go_at_call 21; (with_reducible refine (reflacks_any ids rows m B A cb ca _ ri r HI.out HR.out (by omega) (by omega)).mono ?_); rintro e w' ⟨A4, c4, rfl, O4, hb⟩; replace b := (by first | exact Gw.call b hb | exact Gw.call (Gw.al b _) hb | exact Gw.call (Gw.al (Gw.al b _) _) hb | exact Gw.call (Below.drew b) hb | exact Gw.call (Gw.drewN b _) hb); replace X := (by first | exact Blk.call X hb | exact Blk.call (Blk.alloc X _) hb | exact Blk.call (Blk.alloc (Blk.alloc X _) _) hb | exact Blk.call (Blk.drew X) hb | exact Blk.call (Blk.drewN X _) hb); replace Y := (by first | exact Blk.call Y hb | exact Blk.call (Blk.alloc Y _) hb | exact Blk.call (Blk.alloc (Blk.alloc Y _) _) hb | exact Blk.call (Blk.drew Y) hb | exact Blk.call (Blk.drewN Y _) hb); replace r := (by first | exact Rd.up r hb | exact Rd.up (Rd.drew r) hb | exact Rd.up (Rd.up r (Below.alloc (Below.refl _ _) (Nat.le_refl _) _)) hb); replace ri := (by first | exact Rd.up ri hb | exact Rd.up (Rd.drew ri) hb | exact Rd.up (Rd.up ri (Below.alloc (Below.refl _ _) (Nat.le_refl _) _)) hb); have hb0 := hb; clear hb; clear q0X q1X q2X qsX; clear q0Y q1Y q2Y qsY; obtain ⟨q0X, q1X, q2X⟩ := Blk.c3 X; have qsX := Blk.lt X; obtain ⟨q0Y, q1Y, q2Y⟩ := Blk.c3 Y; have qsY := Blk.lt Y; replace O3 := Own.below O3 hb0)
        | ((with_reducible show Calls _ _ _ _ _); go_at_call 17; (with_reducible refine (same_any (lacksL ids rows m) (lacksL ids rows m) A3 A4 c3 c4 _ (O3.rd idc_len) (O4.rd idc_len) hll hll).mono ?_); rintro e w' ⟨rfl, hb⟩; replace b := (by first | exact Gw.call b hb | exact Gw.call (Gw.al b _) hb | exact Gw.call (Gw.al (Gw.al b _) _) hb | exact Gw.call (Below.drew b) hb | exact Gw.call (Gw.drewN b _) hb); replace X := (by first | exact Blk.call X hb | exact Blk.call (Blk.alloc X _) hb | exact Blk.call (Blk.alloc (Blk.alloc X _) _) hb | exact Blk.call (Blk.drew X) hb | exact Blk.call (Blk.drewN X _) hb); replace Y := (by first | exact Blk.call Y hb | exact Blk.call (Blk.alloc Y _) hb | exact Blk.call (Blk.alloc (Blk.alloc Y _) _) hb | exact Blk.call (Blk.drew Y) hb | exact Blk.call (Blk.drewN Y _) hb); replace r := (by first | exact Rd.up r hb | exact Rd.up (Rd.drew r) hb | exact Rd.up (Rd.up r (Below.alloc (Below.refl _ _) (Nat.le_refl _) _)) hb); replace ri := (by first | exact Rd.up ri hb | exact Rd.up (Rd.drew ri) hb | exact Rd.up (Rd.up ri (Below.alloc (Below.refl _ _) (Nat.le_refl _) _)) hb); clear hb; clear q0X q1X q2X qsX; clear q0Y q1Y q2Y qsY; obtain ⟨q0X, q1X, q2X⟩ := Blk.c3 X; have qsX := Blk.lt X; obtain ⟨q0Y, q1Y, q2Y⟩ := Blk.c3 Y; have qsY := Blk.lt Y; rw [decide_eq_true rfl]; clear O3 O4)
        | ((with_reducible show Calls _ _ _ _ _); go_at_call 22; (with_reducible refine (C1.out _).mono ?_); rintro e w' ⟨rfl, hb⟩; replace b := (by first | exact Gw.call b hb | exact Gw.call (Gw.al b _) hb | exact Gw.call (Gw.al (Gw.al b _) _) hb | exact Gw.call (Below.drew b) hb | exact Gw.call (Gw.drewN b _) hb); replace X := (by first | exact Blk.call X hb | exact Blk.call (Blk.alloc X _) hb | exact Blk.call (Blk.alloc (Blk.alloc X _) _) hb | exact Blk.call (Blk.drew X) hb | exact Blk.call (Blk.drewN X _) hb); replace Y := (by first | exact Blk.call Y hb | exact Blk.call (Blk.alloc Y _) hb | exact Blk.call (Blk.alloc (Blk.alloc Y _) _) hb | exact Blk.call (Blk.drew Y) hb | exact Blk.call (Blk.drewN Y _) hb); replace r := (by first | exact Rd.up r hb | exact Rd.up (Rd.drew r) hb | exact Rd.up (Rd.up r (Below.alloc (Below.refl _ _) (Nat.le_refl _) _)) hb); replace ri := (by first | exact Rd.up ri hb | exact Rd.up (Rd.drew ri) hb | exact Rd.up (Rd.up ri (Below.alloc (Below.refl _ _) (Nat.le_refl _) _)) hb); clear hb; clear q0X q1X q2X qsX; clear q0Y q1Y q2Y qsY; obtain ⟨q0X, q1X, q2X⟩ := Blk.c3 X; have qsX := Blk.lt X; obtain ⟨q0Y, q1Y, q2Y⟩ := Blk.c3 Y; have qsY := Blk.lt Y)
        | ((with_reducible show Calls _ _ _ _ _); go_at_call 23; (with_reducible refine (C2.out _).mono ?_); rintro e w' ⟨rfl, hb⟩; replace b := (by first | exact Gw.call b hb | exact Gw.call (Gw.al b _) hb | exact Gw.call (Gw.al (Gw.al b _) _) hb | exact Gw.call (Below.drew b) hb | exact Gw.call (Gw.drewN b _) hb); replace X := (by first | exact Blk.call X hb | exact Blk.call (Blk.alloc X _) hb | exact Blk.call (Blk.alloc (Blk.alloc X _) _) hb | exact Blk.call (Blk.drew X) hb | exact Blk.call (Blk.drewN X _) hb); replace Y := (by first | exact Blk.call Y hb | exact Blk.call (Blk.alloc Y _) hb | exact Blk.call (Blk.alloc (Blk.alloc Y _) _) hb | exact Blk.call (Blk.drew Y) hb | exact Blk.call (Blk.drewN Y _) hb); replace r := (by first | exact Rd.up r hb | exact Rd.up (Rd.drew r) hb | exact Rd.up (Rd.up r (Below.alloc (Below.refl _ _) (Nat.le_refl _) _)) hb); replace ri := (by first | exact Rd.up ri hb | exact Rd.up (Rd.drew ri) hb | exact Rd.up (Rd.up ri (Below.alloc (Below.refl _ _) (Nat.le_refl _) _)) hb); clear hb; clear q0X q1X q2X qsX; clear q0Y q1Y q2Y qsY; obtain ⟨q0X, q1X, q2X⟩ := Blk.c3 X; have qsX := Blk.lt X; obtain ⟨q0Y, q1Y, q2Y⟩ := Blk.c3 Y; have qsY := Blk.lt Y)
        | ((with_reducible show Calls _ _ _ _ _); go_at_call 9; (with_reducible refine (awake_any _).mono ?_); rintro e w' ⟨rfl, hb⟩; replace b := (by first | exact Gw.call b hb | exact Gw.call (Gw.al b _) hb | exact Gw.call (Gw.al (Gw.al b _) _) hb | exact Gw.call (Below.drew b) hb | exact Gw.call (Gw.drewN b _) hb); replace X := (by first | exact Blk.call X hb | exact Blk.call (Blk.alloc X _) hb | exact Blk.call (Blk.alloc (Blk.alloc X _) _) hb | exact Blk.call (Blk.drew X) hb | exact Blk.call (Blk.drewN X _) hb); replace Y := (by first | exact Blk.call Y hb | exact Blk.call (Blk.alloc Y _) hb | exact Blk.call (Blk.alloc (Blk.alloc Y _) _) hb | exact Blk.call (Blk.drew Y) hb | exact Blk.call (Blk.drewN Y _) hb); replace r := (by first | exact Rd.up r hb | exact Rd.up (Rd.drew r) hb | exact Rd.up (Rd.up r (Below.alloc (Below.refl _ _) (Nat.le_refl _) _)) hb); replace ri := (by first | exact Rd.up ri hb | exact Rd.up (Rd.drew ri) hb | exact Rd.up (Rd.up ri (Below.alloc (Below.refl _ _) (Nat.le_refl _) _)) hb); clear hb; clear q0X q1X q2X qsX; clear q0Y q1Y q2Y qsY; obtain ⟨q0X, q1X, q2X⟩ := Blk.c3 X; have qsX := Blk.lt X; obtain ⟨q0Y, q1Y, q2Y⟩ := Blk.c3 Y; have qsY := Blk.lt Y)
        | fail)
      go_wp2
      go_ret
      exact ⟨by simp, b⟩
end Go.Proofs.Ythockpallaoelaa
