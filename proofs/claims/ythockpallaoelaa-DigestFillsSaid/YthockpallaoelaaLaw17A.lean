/-
  DigestNewer: the walk.
-/
import Derived.Test.YthockpallaoelaaNewerL
import Derived.Test.YthockpallaoelaaObj
import Derived.Test.YthockpallaoelaaStep
import Derived.Deep.DeepCutAuto
namespace Go.Proofs.Ythockpallaoelaa
open Go.RowKit
theorem eql_mark (x y : Id) (w : World) : (binOp .eql 43 (idv x) (idv y)).run Try.prog w = .ok (.bool (decide (x = y))) w := by
  go_simp
  by_cases h0 : x.n = y.n <;> by_cases h1 : x.i = y.i <;> by_cases h2 : x.s = y.s <;> simp [id_ext, h0, h1, h2]
/-- what one call of Newer says -/
abbrev Says (a b c d e f : Int) (r : Bool) : Prop := ∀ W, Calls Try.prog 22 #[.agg #[.int .u8 a, .int .u16 b, .int .u32 c], .agg #[.int .u8 d, .int .u16 e, .int .u32 f]] W fun e w' => e = .returned (.bool r) ∧ Below W.heap.size W w'
theorem says (x y : Id) (r : Bool) (h : newerB x y = r) : Says x.n x.i x.s y.n y.i y.s r := fun W => h ▸ newer_any x y W
set_option maxRecDepth 100000 in
set_option maxHeartbeats 4000000 in
theorem dnewer_walk (haw : ∀ w : World, Calls Try.prog 9 #[] w fun e w' => e = .returned (.bool true) ∧ Below w.heap.size w w') (aN aI aS bN bI bS cN cI cS : Int) (u v e p q : Bool) (w : World)
    (S1 : Hid (Says aN aI aS aN bI bS u)) (S2 : Hid (Says aN bI bS aN aI aS v)) (S3 : Hid (Says aN bI bS aN cI cS p)) (S4 : Hid (Says aN aI aS aN cI cS q))
    (S5 : Hid (¬ cN = aN → Says aN aI aS cN cI cS false ∧ Says cN cI cS aN aI aS false))
    (hq : ∀ W, (binOp .eql 43 (.agg #[.int .u8 aN, .int .u16 aI, .int .u32 aS]) (.agg #[.int .u8 aN, .int .u16 bI, .int .u32 bS])).run Try.prog W = .ok (.bool e) W)
    (huv : (u && v) = false) (he : (!u && !v) = e) (hp : (u && p && !q) = false) :
    Calls Try.prog 6 #[.agg #[.int .u8 aN, .int .u16 aI, .int .u32 aS], .agg #[.int .u8 bN, .int .u16 bI, .int .u32 bS], .agg #[.int .u8 cN, .int .u16 cI, .int .u32 cS]] w fun e w' => e = .returned (.bool true) ∧ Below w.heap.size w w' := by
  have A := ((Ob.new w #[.int .u8 aN, .int .u16 aI, .int .u32 aS] 43).alloc (.cells #[.int .u8 aN, .int .u16 bI, .int .u32 bS] 43)).alloc (.cells #[.int .u8 cN, .int .u16 cI, .int .u32 cS] 43)
  have B := (Ob.new (w.alloc (.cells #[.int .u8 aN, .int .u16 aI, .int .u32 aS] 43)) #[.int .u8 aN, .int .u16 bI, .int .u32 bS] 43).alloc (.cells #[.int .u8 cN, .int .u16 cI, .int .u32 cS] 43)
  have C := Ob.new ((w.alloc (.cells #[.int .u8 aN, .int .u16 aI, .int .u32 aS] 43)).alloc (.cells #[.int .u8 aN, .int .u16 bI, .int .u32 bS] 43)) #[.int .u8 cN, .int .u16 cI, .int .u32 cS] 43
  have b0 := Gw.al (Gw.al (Gw.al (Below.refl w.heap.size w) (.cells #[.int .u8 aN, .int .u16 aI, .int .u32 aS] 43)) (.cells #[.int .u8 aN, .int .u16 bI, .int .u32 bS] 43)) (.cells #[.int .u8 cN, .int .u16 cI, .int .u32 cS] 43)
  simp only [World.size_alloc] at B C
  go_enter Try.func6, Try.ntmps6
  go_upto_region 2 with fail
  generalize ((w.alloc (.cells #[.int .u8 aN, .int .u16 aI, .int .u32 aS] 43)).alloc (.cells #[.int .u8 aN, .int .u16 bI, .int .u32 bS] 43)).alloc (.cells #[.int .u8 cN, .int .u16 cI, .int .u32 cS] 43) = W0 at A B C b0 ⊢
  have HB : Hid (∀ W, Below W0.heap.size W0 W → W.cell? ⟨w.heap.size, 0, none⟩ = some (.int .u8 aN) ∧ W.cell? ⟨w.heap.size, 1, none⟩ = some (.int .u16 aI) ∧ W.cell? ⟨w.heap.size, 2, none⟩ = some (.int .u32 aS) ∧ W.cell? ⟨w.heap.size + 1, 0, none⟩ = some (.int .u8 aN) ∧ W.cell? ⟨w.heap.size + 1, 1, none⟩ = some (.int .u16 bI) ∧ W.cell? ⟨w.heap.size + 1, 2, none⟩ = some (.int .u32 bS)) := Lib.hid fun W hb =>
    ⟨(A.call hb).blk.2.1 0 _ rfl, (A.call hb).blk.2.1 1 _ rfl, (A.call hb).blk.2.1 2 _ rfl, (B.call hb).blk.2.1 0 _ rfl, (B.call hb).blk.2.1 1 _ rfl, (B.call hb).blk.2.1 2 _ rfl⟩
  have b := Below.refl W0.heap.size W0
  obtain ⟨g1, g2, g3, g4, g5, g6⟩ := HB.out _ b
  go_region_held3 (fun W => W.cell? ⟨w.heap.size, 0, none⟩ = some (.int .u8 aN) ∧ W.cell? ⟨w.heap.size, 1, none⟩ = some (.int .u16 aI) ∧ W.cell? ⟨w.heap.size, 2, none⟩ = some (.int .u32 aS) ∧ W.cell? ⟨w.heap.size + 1, 0, none⟩ = some (.int .u8 aN) ∧ W.cell? ⟨w.heap.size + 1, 1, none⟩ = some (.int .u16 bI) ∧ W.cell? ⟨w.heap.size + 1, 2, none⟩ = some (.int .u32 bS)) (first | exact HB.out _ b | exact HB.out _ (Below.drew b)) (first
    | ((with_reducible show Calls _ _ _ _ _); go_at_call 22; (with_reducible refine (S1.out _).mono ?_); rintro e w1 ⟨rfl, hb⟩; replace b := (by first | exact Gw.call b hb | exact Gw.call (Below.drew b) hb); clear hb)
    | ((with_reducible show Calls _ _ _ _ _); go_at_call 22; (with_reducible refine (S2.out _).mono ?_); rintro e w2 ⟨rfl, hb⟩; replace b := (by first | exact Gw.call b hb | exact Gw.call (Below.drew b) hb); clear hb)
    | fail)
  clear g1 g2 g3 g4 g5 g6
  replace A := A.call b
  replace B := B.call b
  replace C := C.call b
  have b2 := Gw.call b0 b
  clear b b0 HB
  have c0A := A.blk.2.1 0 _ rfl
  have c1A := A.blk.2.1 1 _ rfl
  have c2A := A.blk.2.1 2 _ rfl
  have lA := A.lt
  have c0B := B.blk.2.1 0 _ rfl
  have c1B := B.blk.2.1 1 _ rfl
  have c2B := B.blk.2.1 2 _ rfl
  have lB := B.lt
  have c0C := C.blk.2.1 0 _ rfl
  have c1C := C.blk.2.1 1 _ rfl
  have c2C := C.blk.2.1 2 _ rfl
  have lC := C.lt
  cases u <;> cases v <;> cases e <;> simp at huv he
  · skip
    by_cases hc : cN = aN
    · replace hc := hc.symm
      subst hc
      go_wp2_with fail
      clear c0A c1A c2A c0B c1B c2B c0C c1C c2C lA lB lC
      replace A := A.alloc (.cells #[.int .u8 aN, .int .u16 cI, .int .u32 cS] 43)
      replace B := B.alloc (.cells #[.int .u8 aN, .int .u16 cI, .int .u32 cS] 43)
      replace C := C.alloc (.cells #[.int .u8 aN, .int .u16 cI, .int .u32 cS] 43)
      have D := Ob.new w2 #[.int .u8 aN, .int .u16 cI, .int .u32 cS] 43
      replace b2 := Gw.al b2 (.cells #[.int .u8 aN, .int .u16 cI, .int .u32 cS] 43)
      refine (haw _).mono ?_
      rintro e x9 ⟨rfl, hb⟩
      replace A := A.call hb
      replace B := B.call hb
      replace C := C.call hb
      replace D := D.call hb
      replace b2 := Gw.call b2 hb
      clear hb
      have c0A := A.blk.2.1 0 _ rfl
      have c1A := A.blk.2.1 1 _ rfl
      have c2A := A.blk.2.1 2 _ rfl
      have lA := A.lt
      have c0B := B.blk.2.1 0 _ rfl
      have c1B := B.blk.2.1 1 _ rfl
      have c2B := B.blk.2.1 2 _ rfl
      have lB := B.lt
      have c0C := C.blk.2.1 0 _ rfl
      have c1C := C.blk.2.1 1 _ rfl
      have c2C := C.blk.2.1 2 _ rfl
      have lC := C.lt
      have c0D := D.blk.2.1 0 _ rfl
      have c1D := D.blk.2.1 1 _ rfl
      have c2D := D.blk.2.1 2 _ rfl
      have lD := D.lt
      go_wp2_with fail
      go_ret
      exact ⟨rfl, b2⟩
    · have ht : (cN == aN) = false := by rw [beq_eq_false_iff_ne]; exact hc
      obtain ⟨Y1, Y2⟩ := S5.out hc
      replace Y1 := Lib.hid Y1
      replace Y2 := Lib.hid Y2
      clear hc S5
      go_wp2_with fail
      clear c0A c1A c2A c0B c1B c2B c0C c1C c2C lA lB lC
      replace A := A.alloc (.cells #[.int .u8 aN, .int .u16 cI, .int .u32 cS] 43)
      replace B := B.alloc (.cells #[.int .u8 aN, .int .u16 cI, .int .u32 cS] 43)
      replace C := C.alloc (.cells #[.int .u8 aN, .int .u16 cI, .int .u32 cS] 43)
      have D := Ob.new w2 #[.int .u8 aN, .int .u16 cI, .int .u32 cS] 43
      replace b2 := Gw.al b2 (.cells #[.int .u8 aN, .int .u16 cI, .int .u32 cS] 43)
      refine (Y1.out _).mono ?_
      rintro e x7 ⟨rfl, hb⟩
      replace A := A.call hb
      replace B := B.call hb
      replace C := C.call hb
      replace D := D.call hb
      replace b2 := Gw.call b2 hb
      clear hb
      have c0A := A.blk.2.1 0 _ rfl
      have c1A := A.blk.2.1 1 _ rfl
      have c2A := A.blk.2.1 2 _ rfl
      have lA := A.lt
      have c0B := B.blk.2.1 0 _ rfl
      have c1B := B.blk.2.1 1 _ rfl
      have c2B := B.blk.2.1 2 _ rfl
      have lB := B.lt
      have c0C := C.blk.2.1 0 _ rfl
      have c1C := C.blk.2.1 1 _ rfl
      have c2C := C.blk.2.1 2 _ rfl
      have lC := C.lt
      have c0D := D.blk.2.1 0 _ rfl
      have c1D := D.blk.2.1 1 _ rfl
      have c2D := D.blk.2.1 2 _ rfl
      have lD := D.lt
      go_wp2_with fail
      clear c0A c1A c2A c0B c1B c2B c0C c1C c2C c0D c1D c2D lA lB lC lD
      refine (Y2.out _).mono ?_
      rintro e x8 ⟨rfl, hb⟩
      replace A := A.call hb
      replace B := B.call hb
      replace C := C.call hb
      replace D := D.call hb
      replace b2 := Gw.call b2 hb
      clear hb
      have c0A := A.blk.2.1 0 _ rfl
      have c1A := A.blk.2.1 1 _ rfl
      have c2A := A.blk.2.1 2 _ rfl
      have lA := A.lt
      have c0B := B.blk.2.1 0 _ rfl
      have c1B := B.blk.2.1 1 _ rfl
      have c2B := B.blk.2.1 2 _ rfl
      have lB := B.lt
      have c0C := C.blk.2.1 0 _ rfl
      have c1C := C.blk.2.1 1 _ rfl
      have c2C := C.blk.2.1 2 _ rfl
      have lC := C.lt
      have c0D := D.blk.2.1 0 _ rfl
      have c1D := D.blk.2.1 1 _ rfl
      have c2D := D.blk.2.1 2 _ rfl
      have lD := D.lt
      go_wp2_with fail
      clear c0A c1A c2A c0B c1B c2B c0C c1C c2C c0D c1D c2D lA lB lC lD
      refine (haw _).mono ?_
      rintro e x9 ⟨rfl, hb⟩
      replace A := A.call hb
      replace B := B.call hb
      replace C := C.call hb
      replace D := D.call hb
      replace b2 := Gw.call b2 hb
      clear hb
      have c0A := A.blk.2.1 0 _ rfl
      have c1A := A.blk.2.1 1 _ rfl
      have c2A := A.blk.2.1 2 _ rfl
      have lA := A.lt
      have c0B := B.blk.2.1 0 _ rfl
      have c1B := B.blk.2.1 1 _ rfl
      have c2B := B.blk.2.1 2 _ rfl
      have lB := B.lt
      have c0C := C.blk.2.1 0 _ rfl
      have c1C := C.blk.2.1 1 _ rfl
      have c2C := C.blk.2.1 2 _ rfl
      have lC := C.lt
      have c0D := D.blk.2.1 0 _ rfl
      have c1D := D.blk.2.1 1 _ rfl
      have c2D := D.blk.2.1 2 _ rfl
      have lD := D.lt
      go_wp2_with fail
      go_ret
      exact ⟨rfl, b2⟩
  · skip
    by_cases hc : cN = aN
    · replace hc := hc.symm
      subst hc
      go_wp2_with fail
      clear c0A c1A c2A c0B c1B c2B c0C c1C c2C lA lB lC
      replace A := A.alloc (.cells #[.int .u8 aN, .int .u16 cI, .int .u32 cS] 43)
      replace B := B.alloc (.cells #[.int .u8 aN, .int .u16 cI, .int .u32 cS] 43)
      replace C := C.alloc (.cells #[.int .u8 aN, .int .u16 cI, .int .u32 cS] 43)
      have D := Ob.new w2 #[.int .u8 aN, .int .u16 cI, .int .u32 cS] 43
      replace b2 := Gw.al b2 (.cells #[.int .u8 aN, .int .u16 cI, .int .u32 cS] 43)
      refine (haw _).mono ?_
      rintro e x9 ⟨rfl, hb⟩
      replace A := A.call hb
      replace B := B.call hb
      replace C := C.call hb
      replace D := D.call hb
      replace b2 := Gw.call b2 hb
      clear hb
      have c0A := A.blk.2.1 0 _ rfl
      have c1A := A.blk.2.1 1 _ rfl
      have c2A := A.blk.2.1 2 _ rfl
      have lA := A.lt
      have c0B := B.blk.2.1 0 _ rfl
      have c1B := B.blk.2.1 1 _ rfl
      have c2B := B.blk.2.1 2 _ rfl
      have lB := B.lt
      have c0C := C.blk.2.1 0 _ rfl
      have c1C := C.blk.2.1 1 _ rfl
      have c2C := C.blk.2.1 2 _ rfl
      have lC := C.lt
      have c0D := D.blk.2.1 0 _ rfl
      have c1D := D.blk.2.1 1 _ rfl
      have c2D := D.blk.2.1 2 _ rfl
      have lD := D.lt
      go_wp2_with fail
      go_ret
      exact ⟨rfl, b2⟩
    · have ht : (cN == aN) = false := by rw [beq_eq_false_iff_ne]; exact hc
      obtain ⟨Y1, Y2⟩ := S5.out hc
      replace Y1 := Lib.hid Y1
      replace Y2 := Lib.hid Y2
      clear hc S5
      go_wp2_with fail
      clear c0A c1A c2A c0B c1B c2B c0C c1C c2C lA lB lC
      replace A := A.alloc (.cells #[.int .u8 aN, .int .u16 cI, .int .u32 cS] 43)
      replace B := B.alloc (.cells #[.int .u8 aN, .int .u16 cI, .int .u32 cS] 43)
      replace C := C.alloc (.cells #[.int .u8 aN, .int .u16 cI, .int .u32 cS] 43)
      have D := Ob.new w2 #[.int .u8 aN, .int .u16 cI, .int .u32 cS] 43
      replace b2 := Gw.al b2 (.cells #[.int .u8 aN, .int .u16 cI, .int .u32 cS] 43)
      refine (Y1.out _).mono ?_
      rintro e x7 ⟨rfl, hb⟩
      replace A := A.call hb
      replace B := B.call hb
      replace C := C.call hb
      replace D := D.call hb
      replace b2 := Gw.call b2 hb
      clear hb
      have c0A := A.blk.2.1 0 _ rfl
      have c1A := A.blk.2.1 1 _ rfl
      have c2A := A.blk.2.1 2 _ rfl
      have lA := A.lt
      have c0B := B.blk.2.1 0 _ rfl
      have c1B := B.blk.2.1 1 _ rfl
      have c2B := B.blk.2.1 2 _ rfl
      have lB := B.lt
      have c0C := C.blk.2.1 0 _ rfl
      have c1C := C.blk.2.1 1 _ rfl
      have c2C := C.blk.2.1 2 _ rfl
      have lC := C.lt
      have c0D := D.blk.2.1 0 _ rfl
      have c1D := D.blk.2.1 1 _ rfl
      have c2D := D.blk.2.1 2 _ rfl
      have lD := D.lt
      go_wp2_with fail
      clear c0A c1A c2A c0B c1B c2B c0C c1C c2C c0D c1D c2D lA lB lC lD
      refine (Y2.out _).mono ?_
      rintro e x8 ⟨rfl, hb⟩
      replace A := A.call hb
      replace B := B.call hb
      replace C := C.call hb
      replace D := D.call hb
      replace b2 := Gw.call b2 hb
      clear hb
      have c0A := A.blk.2.1 0 _ rfl
      have c1A := A.blk.2.1 1 _ rfl
      have c2A := A.blk.2.1 2 _ rfl
      have lA := A.lt
      have c0B := B.blk.2.1 0 _ rfl
      have c1B := B.blk.2.1 1 _ rfl
      have c2B := B.blk.2.1 2 _ rfl
      have lB := B.lt
      have c0C := C.blk.2.1 0 _ rfl
      have c1C := C.blk.2.1 1 _ rfl
      have c2C := C.blk.2.1 2 _ rfl
      have lC := C.lt
      have c0D := D.blk.2.1 0 _ rfl
      have c1D := D.blk.2.1 1 _ rfl
      have c2D := D.blk.2.1 2 _ rfl
      have lD := D.lt
      go_wp2_with fail
      clear c0A c1A c2A c0B c1B c2B c0C c1C c2C c0D c1D c2D lA lB lC lD
      refine (haw _).mono ?_
      rintro e x9 ⟨rfl, hb⟩
      replace A := A.call hb
      replace B := B.call hb
      replace C := C.call hb
      replace D := D.call hb
      replace b2 := Gw.call b2 hb
      clear hb
      have c0A := A.blk.2.1 0 _ rfl
      have c1A := A.blk.2.1 1 _ rfl
      have c2A := A.blk.2.1 2 _ rfl
      have lA := A.lt
      have c0B := B.blk.2.1 0 _ rfl
      have c1B := B.blk.2.1 1 _ rfl
      have c2B := B.blk.2.1 2 _ rfl
      have lB := B.lt
      have c0C := C.blk.2.1 0 _ rfl
      have c1C := C.blk.2.1 1 _ rfl
      have c2C := C.blk.2.1 2 _ rfl
      have lC := C.lt
      have c0D := D.blk.2.1 0 _ rfl
      have c1D := D.blk.2.1 1 _ rfl
      have c2D := D.blk.2.1 2 _ rfl
      have lD := D.lt
      go_wp2_with fail
      go_ret
      exact ⟨rfl, b2⟩
  · skip
    go_wp2_with fail
    clear c0A c1A c2A c0B c1B c2B c0C c1C c2C lA lB lC
    replace A := A.alloc (.cells #[.int .u8 aN, .int .u16 cI, .int .u32 cS] 43)
    replace B := B.alloc (.cells #[.int .u8 aN, .int .u16 cI, .int .u32 cS] 43)
    replace C := C.alloc (.cells #[.int .u8 aN, .int .u16 cI, .int .u32 cS] 43)
    have D := Ob.new w2 #[.int .u8 aN, .int .u16 cI, .int .u32 cS] 43
    replace b2 := Gw.al b2 (.cells #[.int .u8 aN, .int .u16 cI, .int .u32 cS] 43)
    refine (S3.out _).mono ?_
    rintro e x3 ⟨rfl, hb⟩
    replace A := A.call hb
    replace B := B.call hb
    replace C := C.call hb
    replace D := D.call hb
    replace b2 := Gw.call b2 hb
    clear hb
    have c0A := A.blk.2.1 0 _ rfl
    have c1A := A.blk.2.1 1 _ rfl
    have c2A := A.blk.2.1 2 _ rfl
    have lA := A.lt
    have c0B := B.blk.2.1 0 _ rfl
    have c1B := B.blk.2.1 1 _ rfl
    have c2B := B.blk.2.1 2 _ rfl
    have lB := B.lt
    have c0C := C.blk.2.1 0 _ rfl
    have c1C := C.blk.2.1 1 _ rfl
    have c2C := C.blk.2.1 2 _ rfl
    have lC := C.lt
    have c0D := D.blk.2.1 0 _ rfl
    have c1D := D.blk.2.1 1 _ rfl
    have c2D := D.blk.2.1 2 _ rfl
    have lD := D.lt
    cases p
    · skip
      by_cases hc : cN = aN
      · replace hc := hc.symm
        subst hc
        go_wp2_with fail
        clear c0A c1A c2A c0B c1B c2B c0C c1C c2C c0D c1D c2D lA lB lC lD
        refine (haw _).mono ?_
        rintro e x9 ⟨rfl, hb⟩
        replace A := A.call hb
        replace B := B.call hb
        replace C := C.call hb
        replace D := D.call hb
        replace b2 := Gw.call b2 hb
        clear hb
        have c0A := A.blk.2.1 0 _ rfl
        have c1A := A.blk.2.1 1 _ rfl
        have c2A := A.blk.2.1 2 _ rfl
        have lA := A.lt
        have c0B := B.blk.2.1 0 _ rfl
        have c1B := B.blk.2.1 1 _ rfl
        have c2B := B.blk.2.1 2 _ rfl
        have lB := B.lt
        have c0C := C.blk.2.1 0 _ rfl
        have c1C := C.blk.2.1 1 _ rfl
        have c2C := C.blk.2.1 2 _ rfl
        have lC := C.lt
        have c0D := D.blk.2.1 0 _ rfl
        have c1D := D.blk.2.1 1 _ rfl
        have c2D := D.blk.2.1 2 _ rfl
        have lD := D.lt
        go_wp2_with fail
        go_ret
        exact ⟨rfl, b2⟩
      · have ht : (cN == aN) = false := by rw [beq_eq_false_iff_ne]; exact hc
        obtain ⟨Y1, Y2⟩ := S5.out hc
        replace Y1 := Lib.hid Y1
        replace Y2 := Lib.hid Y2
        clear hc S5
        go_wp2_with fail
        clear c0A c1A c2A c0B c1B c2B c0C c1C c2C c0D c1D c2D lA lB lC lD
        refine (Y1.out _).mono ?_
        rintro e x7 ⟨rfl, hb⟩
        replace A := A.call hb
        replace B := B.call hb
        replace C := C.call hb
        replace D := D.call hb
        replace b2 := Gw.call b2 hb
        clear hb
        have c0A := A.blk.2.1 0 _ rfl
        have c1A := A.blk.2.1 1 _ rfl
        have c2A := A.blk.2.1 2 _ rfl
        have lA := A.lt
        have c0B := B.blk.2.1 0 _ rfl
        have c1B := B.blk.2.1 1 _ rfl
        have c2B := B.blk.2.1 2 _ rfl
        have lB := B.lt
        have c0C := C.blk.2.1 0 _ rfl
        have c1C := C.blk.2.1 1 _ rfl
        have c2C := C.blk.2.1 2 _ rfl
        have lC := C.lt
        have c0D := D.blk.2.1 0 _ rfl
        have c1D := D.blk.2.1 1 _ rfl
        have c2D := D.blk.2.1 2 _ rfl
        have lD := D.lt
        go_wp2_with fail
        clear c0A c1A c2A c0B c1B c2B c0C c1C c2C c0D c1D c2D lA lB lC lD
        refine (Y2.out _).mono ?_
        rintro e x8 ⟨rfl, hb⟩
        replace A := A.call hb
        replace B := B.call hb
        replace C := C.call hb
        replace D := D.call hb
        replace b2 := Gw.call b2 hb
        clear hb
        have c0A := A.blk.2.1 0 _ rfl
        have c1A := A.blk.2.1 1 _ rfl
        have c2A := A.blk.2.1 2 _ rfl
        have lA := A.lt
        have c0B := B.blk.2.1 0 _ rfl
        have c1B := B.blk.2.1 1 _ rfl
        have c2B := B.blk.2.1 2 _ rfl
        have lB := B.lt
        have c0C := C.blk.2.1 0 _ rfl
        have c1C := C.blk.2.1 1 _ rfl
        have c2C := C.blk.2.1 2 _ rfl
        have lC := C.lt
        have c0D := D.blk.2.1 0 _ rfl
        have c1D := D.blk.2.1 1 _ rfl
        have c2D := D.blk.2.1 2 _ rfl
        have lD := D.lt
        go_wp2_with fail
        clear c0A c1A c2A c0B c1B c2B c0C c1C c2C c0D c1D c2D lA lB lC lD
        refine (haw _).mono ?_
        rintro e x9 ⟨rfl, hb⟩
        replace A := A.call hb
        replace B := B.call hb
        replace C := C.call hb
        replace D := D.call hb
        replace b2 := Gw.call b2 hb
        clear hb
        have c0A := A.blk.2.1 0 _ rfl
        have c1A := A.blk.2.1 1 _ rfl
        have c2A := A.blk.2.1 2 _ rfl
        have lA := A.lt
        have c0B := B.blk.2.1 0 _ rfl
        have c1B := B.blk.2.1 1 _ rfl
        have c2B := B.blk.2.1 2 _ rfl
        have lB := B.lt
        have c0C := C.blk.2.1 0 _ rfl
        have c1C := C.blk.2.1 1 _ rfl
        have c2C := C.blk.2.1 2 _ rfl
        have lC := C.lt
        have c0D := D.blk.2.1 0 _ rfl
        have c1D := D.blk.2.1 1 _ rfl
        have c2D := D.blk.2.1 2 _ rfl
        have lD := D.lt
        go_wp2_with fail
        go_ret
        exact ⟨rfl, b2⟩
    · obtain rfl : q = true := by simpa using hp
      go_wp2_with fail
      clear c0A c1A c2A c0B c1B c2B c0C c1C c2C c0D c1D c2D lA lB lC lD
      refine (S4.out _).mono ?_
      rintro e x4 ⟨rfl, hb⟩
      replace A := A.call hb
      replace B := B.call hb
      replace C := C.call hb
      replace D := D.call hb
      replace b2 := Gw.call b2 hb
      clear hb
      have c0A := A.blk.2.1 0 _ rfl
      have c1A := A.blk.2.1 1 _ rfl
      have c2A := A.blk.2.1 2 _ rfl
      have lA := A.lt
      have c0B := B.blk.2.1 0 _ rfl
      have c1B := B.blk.2.1 1 _ rfl
      have c2B := B.blk.2.1 2 _ rfl
      have lB := B.lt
      have c0C := C.blk.2.1 0 _ rfl
      have c1C := C.blk.2.1 1 _ rfl
      have c2C := C.blk.2.1 2 _ rfl
      have lC := C.lt
      have c0D := D.blk.2.1 0 _ rfl
      have c1D := D.blk.2.1 1 _ rfl
      have c2D := D.blk.2.1 2 _ rfl
      have lD := D.lt
      by_cases hc : cN = aN
      · replace hc := hc.symm
        subst hc
        go_wp2_with fail
        clear c0A c1A c2A c0B c1B c2B c0C c1C c2C c0D c1D c2D lA lB lC lD
        refine (haw _).mono ?_
        rintro e x9 ⟨rfl, hb⟩
        replace A := A.call hb
        replace B := B.call hb
        replace C := C.call hb
        replace D := D.call hb
        replace b2 := Gw.call b2 hb
        clear hb
        have c0A := A.blk.2.1 0 _ rfl
        have c1A := A.blk.2.1 1 _ rfl
        have c2A := A.blk.2.1 2 _ rfl
        have lA := A.lt
        have c0B := B.blk.2.1 0 _ rfl
        have c1B := B.blk.2.1 1 _ rfl
        have c2B := B.blk.2.1 2 _ rfl
        have lB := B.lt
        have c0C := C.blk.2.1 0 _ rfl
        have c1C := C.blk.2.1 1 _ rfl
        have c2C := C.blk.2.1 2 _ rfl
        have lC := C.lt
        have c0D := D.blk.2.1 0 _ rfl
        have c1D := D.blk.2.1 1 _ rfl
        have c2D := D.blk.2.1 2 _ rfl
        have lD := D.lt
        go_wp2_with fail
        go_ret
        exact ⟨rfl, b2⟩
      · have ht : (cN == aN) = false := by rw [beq_eq_false_iff_ne]; exact hc
        obtain ⟨Y1, Y2⟩ := S5.out hc
        replace Y1 := Lib.hid Y1
        replace Y2 := Lib.hid Y2
        clear hc S5
        go_wp2_with fail
        clear c0A c1A c2A c0B c1B c2B c0C c1C c2C c0D c1D c2D lA lB lC lD
        refine (Y1.out _).mono ?_
        rintro e x7 ⟨rfl, hb⟩
        replace A := A.call hb
        replace B := B.call hb
        replace C := C.call hb
        replace D := D.call hb
        replace b2 := Gw.call b2 hb
        clear hb
        have c0A := A.blk.2.1 0 _ rfl
        have c1A := A.blk.2.1 1 _ rfl
        have c2A := A.blk.2.1 2 _ rfl
        have lA := A.lt
        have c0B := B.blk.2.1 0 _ rfl
        have c1B := B.blk.2.1 1 _ rfl
        have c2B := B.blk.2.1 2 _ rfl
        have lB := B.lt
        have c0C := C.blk.2.1 0 _ rfl
        have c1C := C.blk.2.1 1 _ rfl
        have c2C := C.blk.2.1 2 _ rfl
        have lC := C.lt
        have c0D := D.blk.2.1 0 _ rfl
        have c1D := D.blk.2.1 1 _ rfl
        have c2D := D.blk.2.1 2 _ rfl
        have lD := D.lt
        go_wp2_with fail
        clear c0A c1A c2A c0B c1B c2B c0C c1C c2C c0D c1D c2D lA lB lC lD
        refine (Y2.out _).mono ?_
        rintro e x8 ⟨rfl, hb⟩
        replace A := A.call hb
        replace B := B.call hb
        replace C := C.call hb
        replace D := D.call hb
        replace b2 := Gw.call b2 hb
        clear hb
        have c0A := A.blk.2.1 0 _ rfl
        have c1A := A.blk.2.1 1 _ rfl
        have c2A := A.blk.2.1 2 _ rfl
        have lA := A.lt
        have c0B := B.blk.2.1 0 _ rfl
        have c1B := B.blk.2.1 1 _ rfl
        have c2B := B.blk.2.1 2 _ rfl
        have lB := B.lt
        have c0C := C.blk.2.1 0 _ rfl
        have c1C := C.blk.2.1 1 _ rfl
        have c2C := C.blk.2.1 2 _ rfl
        have lC := C.lt
        have c0D := D.blk.2.1 0 _ rfl
        have c1D := D.blk.2.1 1 _ rfl
        have c2D := D.blk.2.1 2 _ rfl
        have lD := D.lt
        go_wp2_with fail
        clear c0A c1A c2A c0B c1B c2B c0C c1C c2C c0D c1D c2D lA lB lC lD
        refine (haw _).mono ?_
        rintro e x9 ⟨rfl, hb⟩
        replace A := A.call hb
        replace B := B.call hb
        replace C := C.call hb
        replace D := D.call hb
        replace b2 := Gw.call b2 hb
        clear hb
        have c0A := A.blk.2.1 0 _ rfl
        have c1A := A.blk.2.1 1 _ rfl
        have c2A := A.blk.2.1 2 _ rfl
        have lA := A.lt
        have c0B := B.blk.2.1 0 _ rfl
        have c1B := B.blk.2.1 1 _ rfl
        have c2B := B.blk.2.1 2 _ rfl
        have lB := B.lt
        have c0C := C.blk.2.1 0 _ rfl
        have c1C := C.blk.2.1 1 _ rfl
        have c2C := C.blk.2.1 2 _ rfl
        have lC := C.lt
        have c0D := D.blk.2.1 0 _ rfl
        have c1D := D.blk.2.1 1 _ rfl
        have c2D := D.blk.2.1 2 _ rfl
        have lD := D.lt
        go_wp2_with fail
        go_ret
        exact ⟨rfl, b2⟩
theorem dnewer_any (haw : ∀ w : World, Calls Try.prog 9 #[] w fun e w' => e = .returned (.bool true) ∧ Below w.heap.size w w') (a b c : Id) (w : World) :
    Calls Try.prog 6 #[idv a, idv b, idv c] w fun e w' => e = .returned (.bool true) ∧ Below w.heap.size w w' := by
  refine dnewer_walk haw a.n a.i a.s b.n b.i b.s c.n c.i c.s _ _ _ _ _ w (Lib.hid (says a ⟨a.n, b.i, b.s⟩ _ rfl)) (Lib.hid (says ⟨a.n, b.i, b.s⟩ a _ rfl)) (Lib.hid (says ⟨a.n, b.i, b.s⟩ ⟨a.n, c.i, c.s⟩ _ rfl)) (Lib.hid (says a ⟨a.n, c.i, c.s⟩ _ rfl))
    (Lib.hid fun h => ⟨says a c _ (newer_unlike a c h).1, says c a _ (newer_unlike a c h).2⟩) (fun W => eql_mark a ⟨a.n, b.i, b.s⟩ W) (newer_anti _ _) (newer_same _ _ rfl) ?_
  rw [Bool.eq_false_iff]
  intro h
  simp only [Bool.and_eq_true, Bool.not_eq_true'] at h
  have := newer_trans _ _ _ h.1.1 h.1.2
  rw [h.2] at this
  cases this
end Go.Proofs.Ythockpallaoelaa
