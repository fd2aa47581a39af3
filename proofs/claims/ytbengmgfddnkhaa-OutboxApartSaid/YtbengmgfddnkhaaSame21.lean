/-
  Same and Boxes: of those that tell the same (21).
-/
import Derived.Test.YtbengmgfddnkhaaCmp21
namespace Go.Proofs.Ytbengmgfddnkhaa
open Go.RowKit
theorem ms_abs {x y : MsV} (h : x.abs = y.abs) : y.k = x.k ∧ y.f = x.f ∧ y.i = x.i ∧ y.t = x.t ∧ x.L.map DsV.abs = y.L.map DsV.abs ∧ y.T = x.T ∧ y.e = x.e ∧ y.V = x.V ∧ y.D = x.D ∧ y.h = x.h ∧ y.o = x.o ∧ y.M = x.M ∧ y.I = x.I := by
  unfold MsV.abs at h
  injection h with h1 h2 h3 h4 h5 h6 h7 h8 h9 h10 h11 h12 h13
  exact ⟨h1.symm, h2.symm, h3.symm, h4.symm, h5, h6.symm, h7.symm, h8.symm, h9.symm, h10.symm, h11.symm, h12.symm, h13.symm⟩
set_option maxRecDepth 100000 in
set_option maxHeartbeats 4000000 in
theorem same_yes (x y : MsV) (w : World) (hx : x.rd w.heap.size w) (hy : y.rd w.heap.size w) (hxy : x.abs = y.abs) (hf : x.few) :
    Calls Try.prog 14 #[msv x, msv y] w fun e w' => e = .returned (.bool true) ∧ Below w.heap.size w w' := by
  obtain ⟨yk, yf, yi, yt, yL, yT, ye, yV, yD, yh, yo, yM, yI⟩ := ms_abs hxy
  have yLl : y.L.length = x.L.length := by have := congrArg List.length yL; simpa using this.symm
  obtain ⟨f1, f2, f3, f4, f5, f6, f7⟩ := id hf
  have b0 := Gw.al (Gw.al (Below.refl w.heap.size w) (.cells (msA x) 39)) (.cells (msA y) 39)
  have G := (Ob.new w (msA x) 39).alloc (.cells (msA y) 39)
  have H := Ob.new (w.alloc (.cells (msA x) 39)) (msA y) 39
  rw [World.size_alloc] at H
  have tnn : ((x.T.length : Int) != (x.T.length : Int)) = false := by simp
  have g5 : ((w.alloc (.cells (msA x) 39)).alloc (.cells (msA y) 39)).cell? ⟨w.heap.size, 5, none⟩ = some (.slice x.TA x.T.length x.Tc) := G.blk.2.1 5 _ rfl
  have h5 : ((w.alloc (.cells (msA x) 39)).alloc (.cells (msA y) 39)).cell? ⟨w.heap.size + 1, 5, none⟩ = some (.slice y.TA x.T.length y.Tc) := by rw [← yT]; exact H.blk.2.1 5 _ rfl
  have hxT := hx.T
  have hyT : Rd memc 3 w.heap.size w y.TA x.T := yT ▸ hy.T
  go_enter Try.func14, Try.ntmps14
  go_wp2_with fail
  generalize (w.alloc (.cells (msA x) 39)).alloc (.cells (msA y) 39) = w1 at *
  clear g5 h5
  go_loopw [16] (fun i wr => ∃ k : Nat, k ≤ x.T.length ∧ i = .int .i64 k ∧ Below w1.heap.size w1 wr) (fun i _ => x.T.length - (intOf i).toNat)
  case atStart => exact ⟨0, Nat.zero_le _, rfl, Below.refl _ _⟩
  case round =>
    obtain ⟨k, hk, rfl, bl⟩ := hrel
    have G1 := G.call bl
    have H1 := H.call bl
    by_cases hlt : k < x.T.length
    · obtain ⟨z, hz⟩ : ∃ z, x.T[k]? = some z := ⟨_, List.getElem?_eq_getElem hlt⟩
      obtain ⟨b1, o1, hA1, _, d0, d1, d2⟩ := (hxT.up (Gw.call b0 bl)).mem3 hz
      obtain ⟨b2, o2, hA2, _, e0, e1, e2⟩ := (hyT.up (Gw.call b0 bl)).mem3 hz
      have g5 : wr.cell? ⟨w.heap.size, 5, none⟩ = some (.slice (some ⟨b1, o1, none⟩) x.T.length x.Tc) := by rw [← hA1]; exact G1.blk.2.1 5 _ rfl
      have h5 : wr.cell? ⟨w.heap.size + 1, 5, none⟩ = some (.slice (some ⟨b2, o2, none⟩) x.T.length y.Tc) := by rw [← hA2, ← yT]; exact H1.blk.2.1 5 _ rfl
      have ki : (k : Int) < (x.T.length : Int) := by omega
      have hnm := neq_mb z z
      rw [show decide (z ≠ z) = false by simp] at hnm
      clear hz hA1 hA2 yk yf yi yt yL yT ye yV yD yh yo yM yI yLl G1 H1
      go_wp2_with fail
      go_quiet (fail)
      go_wp2
      go_roundw
      case rel => exact ⟨k + 1, hlt, by go_num, Gw.drewN bl _⟩
      case measure => simp [intOf]; omega
    · have hk2 : k = x.T.length := by omega
      have g0 : wr.cell? ⟨w.heap.size, 0, none⟩ = some (.int .u8 x.k) := G1.blk.2.1 0 _ rfl
      have g1 : wr.cell? ⟨w.heap.size, 1, none⟩ = some (.int .u8 x.f) := G1.blk.2.1 1 _ rfl
      have g2 : wr.cell? ⟨w.heap.size, 2, none⟩ = some (.int .u16 x.i) := G1.blk.2.1 2 _ rfl
      have g3 : wr.cell? ⟨w.heap.size, 3, none⟩ = some (.int .u8 x.t) := G1.blk.2.1 3 _ rfl
      have g4 : wr.cell? ⟨w.heap.size, 4, none⟩ = some (.slice x.LA x.L.length x.Lc) := G1.blk.2.1 4 _ rfl
      have h0 : wr.cell? ⟨w.heap.size + 1, 0, none⟩ = some (.int .u8 x.k) := by rw [← yk]; exact H1.blk.2.1 0 _ rfl
      have h1 : wr.cell? ⟨w.heap.size + 1, 1, none⟩ = some (.int .u8 x.f) := by rw [← yf]; exact H1.blk.2.1 1 _ rfl
      have h2 : wr.cell? ⟨w.heap.size + 1, 2, none⟩ = some (.int .u16 x.i) := by rw [← yi]; exact H1.blk.2.1 2 _ rfl
      have h3 : wr.cell? ⟨w.heap.size + 1, 3, none⟩ = some (.int .u8 x.t) := by rw [← yt]; exact H1.blk.2.1 3 _ rfl
      have h4 : wr.cell? ⟨w.heap.size + 1, 4, none⟩ = some (.slice y.LA x.L.length y.Lc) := by rw [← yLl]; exact H1.blk.2.1 4 _ rfl
      have b1 := Gw.call b0 bl
      have CD := Lib.hid (fun W a1 a2 a3 a4 => descs_yes x.L y.L x.LA y.LA x.Lc y.Lc x.L.length W a1 a2 a3 a4 yL rfl (by omega) (fun d hd => Nat.le_trans (f2 d hd) (by omega)))
      have HxL := Lib.hid hx.L
      have HyL := Lib.hid hy.L
      have HxF := Lib.hid hx.F
      have HyF := Lib.hid hy.F
      have CE := Lib.hid (fun W a1 a2 a3 a4 => event_yes x.e x.V x.D x.VA y.VA x.DA y.DA x.V.length x.D.length x.Vc y.Vc x.Dc y.Dc W a1 a2 a3 a4 rfl rfl (by omega))
      have xV := Lib.hid hx.V
      have yV2 : Hid (Rd i32c 1 w.heap.size w y.VA x.V) := Lib.hid (yV ▸ hy.V)
      have xD := Lib.hid hx.D
      have yD2 : Hid (Rd u8c 1 w.heap.size w y.DA x.D) := Lib.hid (yD ▸ hy.D)
      have CM := Lib.hid (fun W a1 a2 => (show decide (x.M = x.M) = true by simp) ▸ msame_any x.M x.M x.MA y.MA x.Mc y.Mc W a1 a2 (by omega) (by omega))
      have xM := Lib.hid hx.M
      have yM2 : Hid (Rd idc 3 w.heap.size w y.MA x.M) := Lib.hid (yM ▸ hy.M)
      have CI := Lib.hid (fun W a1 a2 => (show decide (x.I = x.I) = true by simp) ▸ same_any x.I x.I x.IA y.IA x.Ic y.Ic W a1 a2 (by omega) (by omega))
      have xI := Lib.hid hx.I
      have yI2 : Hid (Rd idc 3 w.heap.size w y.IA x.I) := Lib.hid (yI ▸ hy.I)
      have YE := Lib.hid (And.intro ye (And.intro yV (And.intro yD (And.intro yh (And.intro yo (And.intro yM yI))))))
      have t0 : (x.k == x.k) = true := by simp
      have t1 : (x.f == x.f) = true := by simp
      have t2 : (x.i == x.i) = true := by simp
      have t3 : (x.t == x.t) = true := by simp
      clear yk yf yi yt yL yT ye yV yD yh yo yM yI yLl hxT hyT hx hy f1 f2 f3 f4 f5 f6 f7 hxy hf
      subst hk2
      go_wp2_with fail
      refine (CD.out _ (HxL.out.up b1) (HyL.out.up b1) (fun d hd => (HxF.out d hd).up b1) (fun d hd => (HyF.out d hd).up b1)).mono ?_
      rintro e w2 ⟨rfl, hb⟩
      replace b1 := Gw.call b1 hb
      replace G1 := G1.call hb
      replace H1 := H1.call hb
      clear hb g0 g1 g2 g3 g4 h0 h1 h2 h3 h4 CD
      have g6 : w2.cell? ⟨w.heap.size, 6, none⟩ = some (.int .u8 x.e.n) := G1.blk.2.1 6 _ rfl
      have g7 : w2.cell? ⟨w.heap.size, 7, none⟩ = some (.int .u16 x.e.i) := G1.blk.2.1 7 _ rfl
      have g8 : w2.cell? ⟨w.heap.size, 8, none⟩ = some (.int .u32 x.e.s) := G1.blk.2.1 8 _ rfl
      have g9 : w2.cell? ⟨w.heap.size, 9, none⟩ = some (.slice x.VA x.V.length x.Vc) := G1.blk.2.1 9 _ rfl
      have g10 : w2.cell? ⟨w.heap.size, 10, none⟩ = some (.slice x.DA x.D.length x.Dc) := G1.blk.2.1 10 _ rfl
      have h6 : w2.cell? ⟨w.heap.size + 1, 6, none⟩ = some (.int .u8 x.e.n) := by rw [← YE.out.1]; exact H1.blk.2.1 6 _ rfl
      have h7 : w2.cell? ⟨w.heap.size + 1, 7, none⟩ = some (.int .u16 x.e.i) := by rw [← YE.out.1]; exact H1.blk.2.1 7 _ rfl
      have h8 : w2.cell? ⟨w.heap.size + 1, 8, none⟩ = some (.int .u32 x.e.s) := by rw [← YE.out.1]; exact H1.blk.2.1 8 _ rfl
      have h9 : w2.cell? ⟨w.heap.size + 1, 9, none⟩ = some (.slice y.VA x.V.length y.Vc) := by rw [← YE.out.2.1]; exact H1.blk.2.1 9 _ rfl
      have h10 : w2.cell? ⟨w.heap.size + 1, 10, none⟩ = some (.slice y.DA x.D.length y.Dc) := by rw [← YE.out.2.2.1]; exact H1.blk.2.1 10 _ rfl
      go_wp2_with fail
      refine (CE.out _ (xV.out.up b1) (yV2.out.up b1) (xD.out.up b1) (yD2.out.up b1)).mono ?_
      rintro e w3 ⟨rfl, hb⟩
      replace b1 := Gw.call b1 hb
      replace G1 := G1.call hb
      replace H1 := H1.call hb
      clear hb g6 g7 g8 g9 g10 h6 h7 h8 h9 h10 CE
      have g11 : w3.cell? ⟨w.heap.size, 11, none⟩ = some (.int .u8 x.h) := G1.blk.2.1 11 _ rfl
      have h11 : w3.cell? ⟨w.heap.size + 1, 11, none⟩ = some (.int .u8 x.h) := by rw [← YE.out.2.2.2.1]; exact H1.blk.2.1 11 _ rfl
      have g12 : w3.cell? ⟨w.heap.size, 12, none⟩ = some (.int .u8 x.o.n) := G1.blk.2.1 12 _ rfl
      have g13 : w3.cell? ⟨w.heap.size, 13, none⟩ = some (.int .u16 x.o.i) := G1.blk.2.1 13 _ rfl
      have g14 : w3.cell? ⟨w.heap.size, 14, none⟩ = some (.int .u32 x.o.s) := G1.blk.2.1 14 _ rfl
      have h12 : w3.cell? ⟨w.heap.size + 1, 12, none⟩ = some (.int .u8 x.o.n) := by rw [← YE.out.2.2.2.2.1]; exact H1.blk.2.1 12 _ rfl
      have h13 : w3.cell? ⟨w.heap.size + 1, 13, none⟩ = some (.int .u16 x.o.i) := by rw [← YE.out.2.2.2.2.1]; exact H1.blk.2.1 13 _ rfl
      have h14 : w3.cell? ⟨w.heap.size + 1, 14, none⟩ = some (.int .u32 x.o.s) := by rw [← YE.out.2.2.2.2.1]; exact H1.blk.2.1 14 _ rfl
      have g15 : w3.cell? ⟨w.heap.size, 15, none⟩ = some (.slice x.MA x.M.length x.Mc) := G1.blk.2.1 15 _ rfl
      have h15 : w3.cell? ⟨w.heap.size + 1, 15, none⟩ = some (.slice y.MA x.M.length y.Mc) := by rw [← YE.out.2.2.2.2.2.1]; exact H1.blk.2.1 15 _ rfl
      have t4 : (x.h == x.h) = true := by simp
      have heo := eql_mk21 x.o x.o
      rw [show decide (x.o = x.o) = true by simp] at heo
      go_wp2_with fail
      refine (CM.out _ (xM.out.up b1) (yM2.out.up b1)).mono ?_
      rintro e w4 ⟨rfl, hb⟩
      replace b1 := Gw.call b1 hb
      replace G1 := G1.call hb
      replace H1 := H1.call hb
      clear hb g11 g12 g13 g14 g15 h11 h12 h13 h14 h15 CM heo
      have g16 : w4.cell? ⟨w.heap.size, 16, none⟩ = some (.slice x.IA x.I.length x.Ic) := G1.blk.2.1 16 _ rfl
      have h16 : w4.cell? ⟨w.heap.size + 1, 16, none⟩ = some (.slice y.IA x.I.length y.Ic) := by rw [← YE.out.2.2.2.2.2.2]; exact H1.blk.2.1 16 _ rfl
      go_wp2_with fail
      refine (CI.out _ (xI.out.up b1) (yI2.out.up b1)).mono ?_
      rintro e w5 ⟨rfl, hb⟩
      go_wp2_with fail
      go_ret
      exact ⟨rfl, Gw.call b1 hb⟩
end Go.Proofs.Ytbengmgfddnkhaa
