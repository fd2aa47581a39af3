/-
  outbox.each of descriptors, outbox.message and outbox.each of messages (21).
-/
import Derived.Test.YtbengmgfddnkhaaDescr
namespace Go.Proofs.Ytbengmgfddnkhaa
open Go.RowKit
set_option maxRecDepth 100000 in
set_option maxHeartbeats 4000000 in
theorem eachDs (l : List DsV) (A : Option Addr) (cap : Nat) (w : World) (hr : Rd dsc 4 w.heap.size w A l) (hd : ∀ d ∈ l, d.rd w.heap.size w) (hf : ∀ d ∈ l, d.l.length ≤ 1000) (hlen : l.length ≤ 100000) :
    Calls Try.prog 25 #[.slice A l.length cap, .func (.func 26) #[] #[]] w fun e w' => ∃ A' c' ds, e = .returned (.slice A' l.length c') ∧ ds.map DsV.abs = l.map DsV.abs ∧ DsX w.heap.size w' (.slice A' l.length c') ds ∧ Below w.heap.size w w' := by
  obtain ⟨i0, hi0, hz0, hz1, hz2⟩ := info_parts Try.info21Ds
  have HD := Lib.hid hd
  have HF := Lib.hid hf
  clear hd hf
  go_enter Try.func25, Try.ntmps25
  go_wp2_with (first | (at_make; refine wpList_make_own _ rfl _ _ 26 rfl w.heap.size 55 i0 _ 4 Try.underlying26 hi0 hz0 hz1 _ _ _ l.length rfl rfl rfl (by rw [hz2]; omega) (by unfold maxLen; omega) (Nat.le_refl _) ?_; intro w3 hown3 hg3) | fail)
  have o3 : DsX w.heap.size w3 (.slice (some ⟨w.heap.size, 0, none⟩) 0 l.length) [] := ⟨hown3, (fun d hd => by cases hd)⟩
  have b3 := Gw.none_ hg3
  clear hown3 hg3
  go_loopw [5, 13] (fun v i wr => ∃ (k : Nat) (A' : Option Addr) (c' : Nat) (ds : List DsV), k ≤ l.length ∧ i = .int .i64 k ∧ v = .slice A' k c' ∧ Hid (ds.map DsV.abs = (l.take k).map DsV.abs) ∧ DsX w.heap.size wr (.slice A' k c') ds ∧ Below w.heap.size w wr) (fun _ i _ => l.length - (intOf i).toNat)
  case atStart => exact ⟨0, _, _, [], Nat.zero_le _, rfl, rfl, Lib.hid rfl, o3, b3⟩
  case round =>
    clear o3 b3
    obtain ⟨k, A1, c1, ds, hk, rfl, rfl, HA, own, bl⟩ := hrel
    by_cases hlt : k < l.length
    · obtain ⟨x, hx⟩ : ∃ x, l[k]? = some x := ⟨_, List.getElem?_eq_getElem hlt⟩
      obtain ⟨b, o, rfl, hb, hc⟩ := (hr.below bl).at_ hx
      have d0 : wr.cell? ⟨b, o + k * 4, none⟩ = some (.int .u8 x.n) := hc 0 _ rfl
      have d1 : wr.cell? ⟨b, o + k * 4 + 1, none⟩ = some (.int .u16 x.i) := hc 1 _ rfl
      have d2 : wr.cell? ⟨b, o + k * 4 + 2, none⟩ = some (.int .u8 x.a) := hc 2 _ rfl
      have d3 : wr.cell? ⟨b, o + k * 4 + 3, none⟩ = some (.slice x.A x.l.length x.c) := hc 3 _ rfl
      have ki : (k : Int) < (l.length : Int) := by omega
      have SN : Hid (∀ y : DsV, y.abs = x.abs → (ds ++ [y]).map DsV.abs = (l.take (k + 1)).map DsV.abs) := Lib.hid fun y hy => by
        rw [List.take_add_one, hx, List.map_append, List.map_append, HA.out, Option.toList_some]
        show _ = _ ++ [x.abs]
        rw [← hy]; rfl
      have HKL : Hid (k = ds.length) := Lib.hid (by
        have := congrArg List.length HA.out
        rw [List.length_map, List.length_map, List.length_take] at this
        omega)
      have hxr := HD.out x (List.mem_of_getElem? hx)
      have hxf := HF.out x (List.mem_of_getElem? hx)
      have CX := Lib.hid (fun W h => descr_any x W h hxf)
      have b1 := Gw.al bl (.cells #[.int .u8 x.n, .int .u16 x.i, .int .u8 x.a, .slice x.A x.l.length x.c] 55)
      have o1 := own.below (Below.alloc (Below.refl _ _) (Nat.le_refl _) (.cells #[.int .u8 x.n, .int .u16 x.i, .int .u8 x.a, .slice x.A x.l.length x.c] 55))
      clear hx own bl hc
      go_wp2_with fail
      refine (CX.out _ (hxr.up b1)).mono ?_
      rintro e w4 ⟨y, rfl, hya, hyo, hb4⟩
      have b2 := Gw.call b1 hb4
      have o2 := o1.below hb4
      have hyo2 := hyo.base_le b1.size
      have HY := Lib.hid hya
      clear b1 o1 hb4 hya hyo CX hxr hxf
      have LT : Rd dsc 4 (w4.alloc (.cells #[.int .u8 y.n, .int .u16 y.i, .int .u8 y.a, .slice y.A y.l.length y.c] 55)).heap.size (w4.alloc (.cells #[.int .u8 y.n, .int .u16 y.i, .int .u8 y.a, .slice y.A y.l.length y.c] 55)) (some ⟨w4.heap.size, 0, none⟩) [y] := by
        rw [World.size_alloc]; exact Rd.lit dsc_len w4 _ rfl _ _ _ rfl
      have b4 := Gw.al b2 (.cells #[.int .u8 y.n, .int .u16 y.i, .int .u8 y.a, .slice y.A y.l.length y.c] 55)
      have al4 := Below.alloc (Below.refl w4.heap.size w4) (Nat.le_refl _) (.cells #[.int .u8 y.n, .int .u16 y.i, .int .u8 y.a, .slice y.A y.l.length y.c] 55)
      have o4 := o2.below al4
      have hyo4 := hyo2.below al4
      clear b2 o2 al4 hyo2
      go_wp2_with (first | (at_builtin; refine wpList_app _ rfl _ _ 26 rfl w.heap.size 55 i0 _ 32 Try.underlying26 hi0 hz0 hz1 hz2 rfl (by omega) dsc_len dsc_one (.slice A1 k c1) ds rfl o4.out k HKL.out _ _ 1 1 [y] rfl rfl LT (by omega) (by omega) b4.size ?_; intro A5 c5 w5 o5 hg) | fail)
      have b5 := Gw.gr b4 hg o4.out.lt
      have o6 := o4.snoc hg o5 hyo4
      go_roundw
      case rel => exact ⟨k + 1, A5, c5, ds ++ [y], hlt, by go_num, rfl, Lib.hid (SN.out y HY.out), o6, b5⟩
      case measure => simp [intOf]; omega
    · obtain rfl : k = l.length := by omega
      rw [List.take_length] at HA
      go_wp2_with fail
      go_ret
      exact ⟨A1, c1, ds, rfl, HA.out, own, bl⟩
set_option maxRecDepth 100000 in
set_option maxHeartbeats 8000000 in
theorem message_any (m : MsV) (w : World) (hr : m.rd w.heap.size w) (hf : m.few) :
    Calls Try.prog 18 #[msv m] w fun e w' => ∃ m' : MsV, e = .returned (msv m') ∧ m'.abs = m.abs ∧ m'.own w.heap.size w' ∧ Below w.heap.size w w' := by
  obtain ⟨zM, hzM⟩ : ∃ z, z = msA nilM := ⟨_, rfl⟩
  have b0 := Gw.al (Gw.al (Below.refl w.heap.size w) (.cells (msA m) 39)) (.cells #[.int .u8 0, .int .u8 0, .int .u16 0, .int .u8 0, .slice none 0 0, .slice none 0 0, .int .u8 0, .int .u16 0, .int .u32 0, .slice none 0 0, .slice none 0 0, .int .u8 0, .int .u8 0, .int .u16 0, .int .u32 0, .slice none 0 0, .slice none 0 0] 39)
  have G := (Ob.new w (msA m) 39).alloc (.cells #[.int .u8 0, .int .u8 0, .int .u16 0, .int .u8 0, .slice none 0 0, .slice none 0 0, .int .u8 0, .int .u16 0, .int .u32 0, .slice none 0 0, .slice none 0 0, .int .u8 0, .int .u8 0, .int .u16 0, .int .u32 0, .slice none 0 0, .slice none 0 0] 39)
  have Z := Ob.new (w.alloc (.cells (msA m) 39)) #[.int .u8 0, .int .u8 0, .int .u16 0, .int .u8 0, .slice none 0 0, .slice none 0 0, .int .u8 0, .int .u16 0, .int .u32 0, .slice none 0 0, .slice none 0 0, .int .u8 0, .int .u8 0, .int .u16 0, .int .u32 0, .slice none 0 0, .slice none 0 0] 39
  rw [World.size_alloc] at Z
  have hn1 : w.heap.size + 1 ≠ w.heap.size := by omega
  have s0 : w.heap.size + 2 ≤ ((w.alloc (.cells (msA m) 39)).alloc (.cells #[.int .u8 0, .int .u8 0, .int .u16 0, .int .u8 0, .slice none 0 0, .slice none 0 0, .int .u8 0, .int .u16 0, .int .u32 0, .slice none 0 0, .slice none 0 0, .int .u8 0, .int .u8 0, .int .u16 0, .int .u32 0, .slice none 0 0, .slice none 0 0] 39)).heap.size := by simp only [World.size_alloc]; omega
  obtain ⟨f1, f2, f3, f4, f5, f6, f7⟩ := id hf
  have k0 : ((w.alloc (.cells (msA m) 39)).alloc (.cells #[.int .u8 0, .int .u8 0, .int .u16 0, .int .u8 0, .slice none 0 0, .slice none 0 0, .int .u8 0, .int .u16 0, .int .u32 0, .slice none 0 0, .slice none 0 0, .int .u8 0, .int .u8 0, .int .u16 0, .int .u32 0, .slice none 0 0, .slice none 0 0] 39)).cell? ⟨w.heap.size, 4, none⟩ = some (.slice m.LA m.L.length m.Lc) := G.blk.2.1 4 _ rfl
  clear hzM
  go_enter Try.func18, Try.ntmps18
  go_wp2_with fail
  refine (eachDs m.L m.LA m.Lc _ (hr.L.up b0) (fun d hd => (hr.F d hd).up b0) f2 (by omega)).mono ?_
  rintro e w1 ⟨A0, c0, ds, rfl, hds, o0, hb⟩
  have HDS := Lib.hid hds
  clear hds
  clear k0
  have s1 := Nat.le_trans s0 hb.size
  replace b0 := Gw.call b0 hb
  replace G := G.call hb
  replace Z := Z.call hb
  clear hb
  have gf := G.blk.2.2
  have k1 : w1.cell? ⟨w.heap.size, 4, none⟩ = some (.slice m.LA m.L.length m.Lc) := G.blk.2.1 4 _ rfl
  have HG : w1.grownBy (w1.setCell ⟨w.heap.size, 4, none⟩ (.slice A0 m.L.length c0)) (some w.heap.size) := grown_set w1 ⟨w.heap.size, 4, none⟩ (.slice A0 m.L.length c0)
  replace G := G.set 4 (.slice A0 m.L.length c0)
  replace Z := Z.far (p := w.heap.size) (j := 4) hn1 (.slice A0 m.L.length c0)
  replace b0 := Gw.hop b0 HG (Nat.le_refl _)
  replace o0 := DsX.hop o0 HG (by omega)
  clear HG
  have sz0 : (w1.setCell ⟨w.heap.size, 4, none⟩ (.slice A0 m.L.length c0)).heap.size = w1.heap.size := Gw.setSize _ _ _
  rw [← sz0] at s1
  clear sz0
  have k0 : (w1.setCell ⟨w.heap.size, 4, none⟩ (.slice A0 m.L.length c0)).cell? ⟨w.heap.size, 5, none⟩ = some (.slice m.TA m.T.length m.Tc) := G.blk.2.1 5 _ rfl
  go_wp2_with fail
  refine (eachMb m.T m.TA m.Tc _ (hr.T.up b0) (by omega)).mono ?_
  rintro e w2 ⟨A1, c1, rfl, o1, hb⟩
  clear k0 k1 gf
  have s2 := Nat.le_trans s1 hb.size
  replace o0 := DsX.below o0 hb
  replace b0 := Gw.call b0 hb
  replace G := G.call hb
  replace Z := Z.call hb
  clear hb
  have gf := G.blk.2.2
  have k1 : w2.cell? ⟨w.heap.size, 5, none⟩ = some (.slice m.TA m.T.length m.Tc) := G.blk.2.1 5 _ rfl
  have HG : w2.grownBy (w2.setCell ⟨w.heap.size, 5, none⟩ (.slice A1 m.T.length c1)) (some w.heap.size) := grown_set w2 ⟨w.heap.size, 5, none⟩ (.slice A1 m.T.length c1)
  replace G := G.set 5 (.slice A1 m.T.length c1)
  replace Z := Z.far (p := w.heap.size) (j := 5) hn1 (.slice A1 m.T.length c1)
  replace b0 := Gw.hop b0 HG (Nat.le_refl _)
  replace o0 := DsX.hop o0 HG (by omega)
  replace o1 := Own.hop o1 HG (by omega)
  clear HG
  have sz1 : (w2.setCell ⟨w.heap.size, 5, none⟩ (.slice A1 m.T.length c1)).heap.size = w2.heap.size := Gw.setSize _ _ _
  rw [← sz1] at s2
  clear sz1
  have k0 : (w2.setCell ⟨w.heap.size, 5, none⟩ (.slice A1 m.T.length c1)).cell? ⟨w.heap.size, 9, none⟩ = some (.slice m.VA m.V.length m.Vc) := G.blk.2.1 9 _ rfl
  go_wp2_with fail
  refine (eachI32 m.V m.VA m.Vc _ (hr.V.up b0) (by omega)).mono ?_
  rintro e w3 ⟨A2, c2, rfl, o2, hb⟩
  clear k0 k1 gf
  have s3 := Nat.le_trans s2 hb.size
  replace o0 := DsX.below o0 hb
  replace o1 := Own.below o1 hb
  replace b0 := Gw.call b0 hb
  replace G := G.call hb
  replace Z := Z.call hb
  clear hb
  have gf := G.blk.2.2
  have k1 : w3.cell? ⟨w.heap.size, 9, none⟩ = some (.slice m.VA m.V.length m.Vc) := G.blk.2.1 9 _ rfl
  have HG : w3.grownBy (w3.setCell ⟨w.heap.size, 9, none⟩ (.slice A2 m.V.length c2)) (some w.heap.size) := grown_set w3 ⟨w.heap.size, 9, none⟩ (.slice A2 m.V.length c2)
  replace G := G.set 9 (.slice A2 m.V.length c2)
  replace Z := Z.far (p := w.heap.size) (j := 9) hn1 (.slice A2 m.V.length c2)
  replace b0 := Gw.hop b0 HG (Nat.le_refl _)
  replace o0 := DsX.hop o0 HG (by omega)
  replace o1 := Own.hop o1 HG (by omega)
  replace o2 := Own.hop o2 HG (by omega)
  clear HG
  have sz2 : (w3.setCell ⟨w.heap.size, 9, none⟩ (.slice A2 m.V.length c2)).heap.size = w3.heap.size := Gw.setSize _ _ _
  rw [← sz2] at s3
  clear sz2
  have k0 : (w3.setCell ⟨w.heap.size, 9, none⟩ (.slice A2 m.V.length c2)).cell? ⟨w.heap.size, 10, none⟩ = some (.slice m.DA m.D.length m.Dc) := G.blk.2.1 10 _ rfl
  go_wp2_with fail
  refine (eachU8 m.D m.DA m.Dc _ (hr.D.up b0) (by omega)).mono ?_
  rintro e w4 ⟨A3, c3, rfl, o3, hb⟩
  clear k0 k1 gf
  have s4 := Nat.le_trans s3 hb.size
  replace o0 := DsX.below o0 hb
  replace o1 := Own.below o1 hb
  replace o2 := Own.below o2 hb
  replace b0 := Gw.call b0 hb
  replace G := G.call hb
  replace Z := Z.call hb
  clear hb
  have gf := G.blk.2.2
  have k1 : w4.cell? ⟨w.heap.size, 10, none⟩ = some (.slice m.DA m.D.length m.Dc) := G.blk.2.1 10 _ rfl
  have HG : w4.grownBy (w4.setCell ⟨w.heap.size, 10, none⟩ (.slice A3 m.D.length c3)) (some w.heap.size) := grown_set w4 ⟨w.heap.size, 10, none⟩ (.slice A3 m.D.length c3)
  replace G := G.set 10 (.slice A3 m.D.length c3)
  replace Z := Z.far (p := w.heap.size) (j := 10) hn1 (.slice A3 m.D.length c3)
  replace b0 := Gw.hop b0 HG (Nat.le_refl _)
  replace o0 := DsX.hop o0 HG (by omega)
  replace o1 := Own.hop o1 HG (by omega)
  replace o2 := Own.hop o2 HG (by omega)
  replace o3 := Own.hop o3 HG (by omega)
  clear HG
  have sz3 : (w4.setCell ⟨w.heap.size, 10, none⟩ (.slice A3 m.D.length c3)).heap.size = w4.heap.size := Gw.setSize _ _ _
  rw [← sz3] at s4
  clear sz3
  have k0 : (w4.setCell ⟨w.heap.size, 10, none⟩ (.slice A3 m.D.length c3)).cell? ⟨w.heap.size, 15, none⟩ = some (.slice m.MA m.M.length m.Mc) := G.blk.2.1 15 _ rfl
  go_wp2_with fail
  refine (eachMk m.M m.MA m.Mc _ (hr.M.up b0) (by omega)).mono ?_
  rintro e w5 ⟨A4, c4, rfl, o4, hb⟩
  clear k0 k1 gf
  have s5 := Nat.le_trans s4 hb.size
  replace o0 := DsX.below o0 hb
  replace o1 := Own.below o1 hb
  replace o2 := Own.below o2 hb
  replace o3 := Own.below o3 hb
  replace b0 := Gw.call b0 hb
  replace G := G.call hb
  replace Z := Z.call hb
  clear hb
  have gf := G.blk.2.2
  have k1 : w5.cell? ⟨w.heap.size, 15, none⟩ = some (.slice m.MA m.M.length m.Mc) := G.blk.2.1 15 _ rfl
  have HG : w5.grownBy (w5.setCell ⟨w.heap.size, 15, none⟩ (.slice A4 m.M.length c4)) (some w.heap.size) := grown_set w5 ⟨w.heap.size, 15, none⟩ (.slice A4 m.M.length c4)
  replace G := G.set 15 (.slice A4 m.M.length c4)
  replace Z := Z.far (p := w.heap.size) (j := 15) hn1 (.slice A4 m.M.length c4)
  replace b0 := Gw.hop b0 HG (Nat.le_refl _)
  replace o0 := DsX.hop o0 HG (by omega)
  replace o1 := Own.hop o1 HG (by omega)
  replace o2 := Own.hop o2 HG (by omega)
  replace o3 := Own.hop o3 HG (by omega)
  replace o4 := Own.hop o4 HG (by omega)
  clear HG
  have sz4 : (w5.setCell ⟨w.heap.size, 15, none⟩ (.slice A4 m.M.length c4)).heap.size = w5.heap.size := Gw.setSize _ _ _
  rw [← sz4] at s5
  clear sz4
  have k0 : (w5.setCell ⟨w.heap.size, 15, none⟩ (.slice A4 m.M.length c4)).cell? ⟨w.heap.size, 16, none⟩ = some (.slice m.IA m.I.length m.Ic) := G.blk.2.1 16 _ rfl
  go_wp2_with fail
  refine (eachId m.I m.IA m.Ic _ (hr.I.up b0) (by omega)).mono ?_
  rintro e w6 ⟨A5, c5, rfl, o5, hb⟩
  clear k0 k1 gf
  have s6 := Nat.le_trans s5 hb.size
  replace o0 := DsX.below o0 hb
  replace o1 := Own.below o1 hb
  replace o2 := Own.below o2 hb
  replace o3 := Own.below o3 hb
  replace o4 := Own.below o4 hb
  replace b0 := Gw.call b0 hb
  replace G := G.call hb
  replace Z := Z.call hb
  clear hb
  have gf := G.blk.2.2
  have k1 : w6.cell? ⟨w.heap.size, 16, none⟩ = some (.slice m.IA m.I.length m.Ic) := G.blk.2.1 16 _ rfl
  have HG : w6.grownBy (w6.setCell ⟨w.heap.size, 16, none⟩ (.slice A5 m.I.length c5)) (some w.heap.size) := grown_set w6 ⟨w.heap.size, 16, none⟩ (.slice A5 m.I.length c5)
  replace G := G.set 16 (.slice A5 m.I.length c5)
  replace Z := Z.far (p := w.heap.size) (j := 16) hn1 (.slice A5 m.I.length c5)
  replace b0 := Gw.hop b0 HG (Nat.le_refl _)
  replace o0 := DsX.hop o0 HG (by omega)
  replace o1 := Own.hop o1 HG (by omega)
  replace o2 := Own.hop o2 HG (by omega)
  replace o3 := Own.hop o3 HG (by omega)
  replace o4 := Own.hop o4 HG (by omega)
  replace o5 := Own.hop o5 HG (by omega)
  clear HG
  have sz5 : (w6.setCell ⟨w.heap.size, 16, none⟩ (.slice A5 m.I.length c5)).heap.size = w6.heap.size := Gw.setSize _ _ _
  rw [← sz5] at s6
  clear sz5
  have dl : ds.length = m.L.length := by have := congrArg List.length HDS.out; simpa using this
  obtain ⟨m', hm'⟩ : ∃ m' : MsV, m' = ⟨m.k, m.f, m.i, m.t, A0, ds, c0, A1, m.T, c1, m.e, A2, m.V, c2, A3, m.D, c3, m.h, m.o, A4, m.M, c4, A5, m.I, c5⟩ := ⟨_, rfl⟩
  have hA : (((((((msA m).setIfInBounds 4 (.slice A0 m.L.length c0)).setIfInBounds 5 (.slice A1 m.T.length c1)).setIfInBounds 9 (.slice A2 m.V.length c2)).setIfInBounds 10 (.slice A3 m.D.length c3)).setIfInBounds 15 (.slice A4 m.M.length c4)).setIfInBounds 16 (.slice A5 m.I.length c5)) = msA m' := by rw [hm']; show _ = msA _; unfold msA; rw [dl]; rfl
  rw [hA] at G
  have hown : m'.own (w.heap.size + 2) (w6.setCell ⟨w.heap.size, 16, none⟩ (.slice A5 m.I.length c5)) := by
    rw [hm']
    exact ⟨by show Own dsc 4 _ _ _ (.slice A0 ds.length c0) ds; rw [dl]; exact o0.out.base_le (by omega), fun d hd => (o0.row d hd).base_le (by omega), o1.base_le (by omega), o2.base_le (by omega), o3.base_le (by omega), o4.base_le (by omega), o5.base_le (by omega)⟩
  have habs : m'.abs = m.abs := by rw [hm']; unfold MsV.abs; rw [HDS.out]
  clear o0 o1 o2 o3 o4 o5 hA hm' dl HDS hr hf f1 f2 f3 f4 f5 f6 f7 s0 s1 s2 s3 s4 s5 s6
  have HAB := Lib.hid habs
  clear habs
  go_wp2_with (first | (with_reducible refine ldM m' _ 0 (obM G) rfl _ rfl rfl ?_) | (with_reducible refine stM_row m' _ _ Z rfl rfl _ _ rfl rfl rfl ?_) | fail)
  (try simp only [Exit.inBlock, Exit.then])
  have Z2 := Z.setRow (msA m')
  have hop := setRow_grown (w6.setCell ⟨w.heap.size, 16, none⟩ (.slice A5 m.I.length c5)) (w.heap.size + 1) (msA m')
  refine bodyPost_ret (v := msv m') (results_cell_row rfl _ _ (w.heap.size + 1) 39 (msA m') (0, 0) _ rfl Z2 Try.underlying39 rfl Try.size21Ms) rfl ⟨m', rfl, HAB.out, (hown.hop hop (by omega)).base_le (by omega), Gw.hop b0 hop (by omega)⟩
end Go.Proofs.Ytbengmgfddnkhaa
