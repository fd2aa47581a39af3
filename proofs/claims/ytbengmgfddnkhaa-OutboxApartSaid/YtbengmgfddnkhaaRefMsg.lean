/-
  The document's own Message (21).
-/
import Derived.Test.YtbengmgfddnkhaaUse21
namespace Go.Proofs.Ytbengmgfddnkhaa
open Go.RowKit
theorem stM_newg {ops : Array Oper} {rest : List Oper} {op : Oper} {a : Act} {w : World} {Q : Exit → Act → World → Prop} (m : MsV) (z : Array Value) (g : Nat) (hgd : op.guard = none) (x y : Operand) (ho : op.op = .store 39 x y) (hx : a.eval x = .pointer (some ⟨g, 0, none⟩)) (hg : g = w.heap.size) (hy : a.eval y = .agg (msA m)) (hz : z.size = 17)
    (h : wpList Try.prog ops Q rest (a.put op.dst undef) (w.alloc (.cells (msA m) 39))) : wpList Try.prog ops Q (op :: rest) a (w.alloc (.cells z 39)) := by
  subst hg
  exact stM_new m z hgd x y ho hx hy hz h
/-- a message without its lists, and then with one -/
def clrM (m : MsV) (A : Option Addr) (ds : List DsV) (c : Nat) : MsV := ⟨m.k, m.f, m.i, m.t, A, ds, c, none, [], 0, m.e, none, [], 0, none, [], 0, m.h, m.o, none, [], 0, none, [], 0⟩
theorem clr_put (m : MsV) (A A2 : Option Addr) (ds d2 : List DsV) (c c2 n : Nat) (h : d2.length = n) : (msA (clrM m A ds c)).setIfInBounds 4 (.slice A2 n c2) = msA (clrM m A2 d2 c2) := by subst h; rfl
theorem clr9 (m : MsV) : ((((((((((msA m).setIfInBounds 4 (.slice none 0 0)).setIfInBounds 5 (.slice none 0 0)).setIfInBounds 15 (.slice none 0 0)).setIfInBounds 16 (.slice none 0 0)).setIfInBounds 6 (.int .u8 m.e.n)).setIfInBounds 7 (.int .u16 m.e.i)).setIfInBounds 8 (.int .u32 m.e.s)).setIfInBounds 9 (.slice none 0 0)).setIfInBounds 10 (.slice none 0 0)) = msA (clrM m none [] 0) := by simp [msA, clrM]
set_option maxRecDepth 100000 in
set_option maxHeartbeats 8000000 in
theorem refmsg_any (m : MsV) (w : World) (hr : m.rd w.heap.size w) (hf : m.few) :
    Calls Try.prog 15 #[msv m] w fun e w' => ∃ m' : MsV, e = .returned (msv m') ∧ m'.abs = m.abs ∧ m'.own w.heap.size w' ∧ Below w.heap.size w w' := by
  obtain ⟨i0, hi0, hz0, hz1, hz2⟩ := info_parts Try.info21Ds
  obtain ⟨i1, hi1, hy0, hy1, hy2⟩ := info_parts Try.info21Sp
  obtain ⟨f1, f2, f3, f4, f5, f6, f7⟩ := id hf
  have b0 := Gw.al (Gw.al (Gw.al (Below.refl w.heap.size w) (.cells (msA m) 39)) (.cells #[.int .u8 0, .int .u8 0, .int .u16 0, .int .u8 0, .slice none 0 0, .slice none 0 0, .int .u8 0, .int .u16 0, .int .u32 0, .slice none 0 0, .slice none 0 0, .int .u8 0, .int .u8 0, .int .u16 0, .int .u32 0, .slice none 0 0, .slice none 0 0] 39)) (.cells (msA m) 39)
  have G := ((Ob.new w (msA m) 39).alloc (.cells #[.int .u8 0, .int .u8 0, .int .u16 0, .int .u8 0, .slice none 0 0, .slice none 0 0, .int .u8 0, .int .u16 0, .int .u32 0, .slice none 0 0, .slice none 0 0, .int .u8 0, .int .u8 0, .int .u16 0, .int .u32 0, .slice none 0 0, .slice none 0 0] 39)).alloc (.cells (msA m) 39)
  have Z := (Ob.new (w.alloc (.cells (msA m) 39)) #[.int .u8 0, .int .u8 0, .int .u16 0, .int .u8 0, .slice none 0 0, .slice none 0 0, .int .u8 0, .int .u16 0, .int .u32 0, .slice none 0 0, .slice none 0 0, .int .u8 0, .int .u8 0, .int .u16 0, .int .u32 0, .slice none 0 0, .slice none 0 0] 39).alloc (.cells (msA m) 39)
  have H := Ob.new ((w.alloc (.cells (msA m) 39)).alloc (.cells #[.int .u8 0, .int .u8 0, .int .u16 0, .int .u8 0, .slice none 0 0, .slice none 0 0, .int .u8 0, .int .u16 0, .int .u32 0, .slice none 0 0, .slice none 0 0, .int .u8 0, .int .u8 0, .int .u16 0, .int .u32 0, .slice none 0 0, .slice none 0 0] 39)) (msA m) 39
  simp only [World.size_alloc] at Z H
  have M0 := Ob.new w (msA m) 39
  have M1 := M0.alloc (.cells #[.int .u8 0, .int .u8 0, .int .u16 0, .int .u8 0, .slice none 0 0, .slice none 0 0, .int .u8 0, .int .u16 0, .int .u32 0, .slice none 0 0, .slice none 0 0, .int .u8 0, .int .u8 0, .int .u16 0, .int .u32 0, .slice none 0 0, .slice none 0 0] 39)
  have n1 : w.heap.size ≠ w.heap.size + 1 + 1 := by omega
  have n2 : w.heap.size + 1 ≠ w.heap.size + 1 + 1 := by omega
  have hsz : w.heap.size + 3 ≤ (((w.alloc (.cells (msA m) 39)).alloc (.cells #[.int .u8 0, .int .u8 0, .int .u16 0, .int .u8 0, .slice none 0 0, .slice none 0 0, .int .u8 0, .int .u16 0, .int .u32 0, .slice none 0 0, .slice none 0 0, .int .u8 0, .int .u8 0, .int .u16 0, .int .u32 0, .slice none 0 0, .slice none 0 0] 39)).alloc (.cells (msA m) 39)).heap.size := by simp only [World.size_alloc]; omega
  go_enter Try.func15, Try.ntmps15
  go_upto_region 2 with (first | (with_reducible refine ldM m _ 0 (obM M1) rfl _ rfl rfl ?_) | (with_reducible refine stM_newg m _ _ rfl _ _ rfl rfl (by simp only [World.size_alloc]) rfl rfl ?_) | fail)
  generalize ((w.alloc (.cells (msA m) 39)).alloc (.cells #[.int .u8 0, .int .u8 0, .int .u16 0, .int .u8 0, .slice none 0 0, .slice none 0 0, .int .u8 0, .int .u16 0, .int .u32 0, .slice none 0 0, .slice none 0 0, .int .u8 0, .int .u8 0, .int .u16 0, .int .u32 0, .slice none 0 0, .slice none 0 0] 39)).alloc (.cells (msA m) 39) = w1 at *
  clear M0 M1
  have h4 : w1.cell? ⟨w.heap.size + 1 + 1, 4, none⟩ = some (.slice m.LA m.L.length m.Lc) := H.blk.2.1 4 _ rfl
  have h5 : w1.cell? ⟨w.heap.size + 1 + 1, 5, none⟩ = some (.slice m.TA m.T.length m.Tc) := H.blk.2.1 5 _ rfl
  have h15 : w1.cell? ⟨w.heap.size + 1 + 1, 15, none⟩ = some (.slice m.MA m.M.length m.Mc) := H.blk.2.1 15 _ rfl
  have h16 : w1.cell? ⟨w.heap.size + 1 + 1, 16, none⟩ = some (.slice m.IA m.I.length m.Ic) := H.blk.2.1 16 _ rfl
  have h6 : w1.cell? ⟨w.heap.size + 1 + 1, 6, none⟩ = some (.int .u8 m.e.n) := H.blk.2.1 6 _ rfl
  have h7 : w1.cell? ⟨w.heap.size + 1 + 1, 7, none⟩ = some (.int .u16 m.e.i) := H.blk.2.1 7 _ rfl
  have h8 : w1.cell? ⟨w.heap.size + 1 + 1, 8, none⟩ = some (.int .u32 m.e.s) := H.blk.2.1 8 _ rfl
  have h9 : w1.cell? ⟨w.heap.size + 1 + 1, 9, none⟩ = some (.slice m.VA m.V.length m.Vc) := H.blk.2.1 9 _ rfl
  have h10 : w1.cell? ⟨w.heap.size + 1 + 1, 10, none⟩ = some (.slice m.DA m.D.length m.Dc) := H.blk.2.1 10 _ rfl
  have e6 : w1.cell? ⟨w.heap.size, 6, none⟩ = some (.int .u8 m.e.n) := G.blk.2.1 6 _ rfl
  have e7 : w1.cell? ⟨w.heap.size, 7, none⟩ = some (.int .u16 m.e.i) := G.blk.2.1 7 _ rfl
  have e8 : w1.cell? ⟨w.heap.size, 8, none⟩ = some (.int .u32 m.e.s) := G.blk.2.1 8 _ rfl
  have hfz := H.blk.2.2
  have H2 := (((((((((H.set 4 (.slice none 0 0)).set 5 (.slice none 0 0)).set 15 (.slice none 0 0)).set 16 (.slice none 0 0)).set 6 (.int .u8 m.e.n)).set 7 (.int .u16 m.e.i)).set 8 (.int .u32 m.e.s)).set 9 (.slice none 0 0)).set 10 (.slice none 0 0))
  rw [clr9] at H2
  have G2 := (((((((((G.far (p := w.heap.size + 1 + 1) (j := 4) n1 (.slice none 0 0)).far (p := w.heap.size + 1 + 1) (j := 5) n1 (.slice none 0 0)).far (p := w.heap.size + 1 + 1) (j := 15) n1 (.slice none 0 0)).far (p := w.heap.size + 1 + 1) (j := 16) n1 (.slice none 0 0)).far (p := w.heap.size + 1 + 1) (j := 6) n1 (.int .u8 m.e.n)).far (p := w.heap.size + 1 + 1) (j := 7) n1 (.int .u16 m.e.i)).far (p := w.heap.size + 1 + 1) (j := 8) n1 (.int .u32 m.e.s)).far (p := w.heap.size + 1 + 1) (j := 9) n1 (.slice none 0 0)).far (p := w.heap.size + 1 + 1) (j := 10) n1 (.slice none 0 0))
  have Z2 := (((((((((Z.far (p := w.heap.size + 1 + 1) (j := 4) n2 (.slice none 0 0)).far (p := w.heap.size + 1 + 1) (j := 5) n2 (.slice none 0 0)).far (p := w.heap.size + 1 + 1) (j := 15) n2 (.slice none 0 0)).far (p := w.heap.size + 1 + 1) (j := 16) n2 (.slice none 0 0)).far (p := w.heap.size + 1 + 1) (j := 6) n2 (.int .u8 m.e.n)).far (p := w.heap.size + 1 + 1) (j := 7) n2 (.int .u16 m.e.i)).far (p := w.heap.size + 1 + 1) (j := 8) n2 (.int .u32 m.e.s)).far (p := w.heap.size + 1 + 1) (j := 9) n2 (.slice none 0 0)).far (p := w.heap.size + 1 + 1) (j := 10) n2 (.slice none 0 0))
  have b2 := (Gw.st (Gw.st (Gw.st (Gw.st (Gw.st (Gw.st (Gw.st (Gw.st (Gw.st b0 (p := ⟨w.heap.size + 1 + 1, 4, none⟩) (by show w.heap.size ≤ w.heap.size + 1 + 1; omega) (.slice none 0 0)) (p := ⟨w.heap.size + 1 + 1, 5, none⟩) (by show w.heap.size ≤ w.heap.size + 1 + 1; omega) (.slice none 0 0)) (p := ⟨w.heap.size + 1 + 1, 15, none⟩) (by show w.heap.size ≤ w.heap.size + 1 + 1; omega) (.slice none 0 0)) (p := ⟨w.heap.size + 1 + 1, 16, none⟩) (by show w.heap.size ≤ w.heap.size + 1 + 1; omega) (.slice none 0 0)) (p := ⟨w.heap.size + 1 + 1, 6, none⟩) (by show w.heap.size ≤ w.heap.size + 1 + 1; omega) (.int .u8 m.e.n)) (p := ⟨w.heap.size + 1 + 1, 7, none⟩) (by show w.heap.size ≤ w.heap.size + 1 + 1; omega) (.int .u16 m.e.i)) (p := ⟨w.heap.size + 1 + 1, 8, none⟩) (by show w.heap.size ≤ w.heap.size + 1 + 1; omega) (.int .u32 m.e.s)) (p := ⟨w.heap.size + 1 + 1, 9, none⟩) (by show w.heap.size ≤ w.heap.size + 1 + 1; omega) (.slice none 0 0)) (p := ⟨w.heap.size + 1 + 1, 10, none⟩) (by show w.heap.size ≤ w.heap.size + 1 + 1; omega) (.slice none 0 0))
  have hs2 : w.heap.size + 3 ≤ (((((((((w1.setCell ⟨w.heap.size + 1 + 1, 4, none⟩ (.slice none 0 0)).setCell ⟨w.heap.size + 1 + 1, 5, none⟩ (.slice none 0 0)).setCell ⟨w.heap.size + 1 + 1, 15, none⟩ (.slice none 0 0)).setCell ⟨w.heap.size + 1 + 1, 16, none⟩ (.slice none 0 0)).setCell ⟨w.heap.size + 1 + 1, 6, none⟩ (.int .u8 m.e.n)).setCell ⟨w.heap.size + 1 + 1, 7, none⟩ (.int .u16 m.e.i)).setCell ⟨w.heap.size + 1 + 1, 8, none⟩ (.int .u32 m.e.s)).setCell ⟨w.heap.size + 1 + 1, 9, none⟩ (.slice none 0 0)).setCell ⟨w.heap.size + 1 + 1, 10, none⟩ (.slice none 0 0)).heap.size := by simp only [Gw.setSize]; exact hsz
  go_upto_region 4 with fail
  generalize (((((((((w1.setCell ⟨w.heap.size + 1 + 1, 4, none⟩ (.slice none 0 0)).setCell ⟨w.heap.size + 1 + 1, 5, none⟩ (.slice none 0 0)).setCell ⟨w.heap.size + 1 + 1, 15, none⟩ (.slice none 0 0)).setCell ⟨w.heap.size + 1 + 1, 16, none⟩ (.slice none 0 0)).setCell ⟨w.heap.size + 1 + 1, 6, none⟩ (.int .u8 m.e.n)).setCell ⟨w.heap.size + 1 + 1, 7, none⟩ (.int .u16 m.e.i)).setCell ⟨w.heap.size + 1 + 1, 8, none⟩ (.int .u32 m.e.s)).setCell ⟨w.heap.size + 1 + 1, 9, none⟩ (.slice none 0 0)).setCell ⟨w.heap.size + 1 + 1, 10, none⟩ (.slice none 0 0)) = w2 at *
  clear h4 h5 h15 h16 h6 h7 h8 h9 h10 e6 e7 e8 hfz H G Z b0 hsz
  go_wp2_with fail
  go_loopw [4] (fun i wr => ∃ (k : Nat) (A : Option Addr) (ds : List DsV) (c : Nat), k ≤ m.L.length ∧ i = .int .i64 k ∧ Hid (ds.map DsV.abs = (m.L.take k).map DsV.abs) ∧ Hid (ds.length = k) ∧ Ob wr w.heap.size (msA m) 39 ∧ Ob wr (w.heap.size + 1) #[.int .u8 0, .int .u8 0, .int .u16 0, .int .u8 0, .slice none 0 0, .slice none 0 0, .int .u8 0, .int .u16 0, .int .u32 0, .slice none 0 0, .slice none 0 0, .int .u8 0, .int .u8 0, .int .u16 0, .int .u32 0, .slice none 0 0, .slice none 0 0] 39 ∧ Ob wr (w.heap.size + 1 + 1) (msA (clrM m A ds c)) 39 ∧ DsX (w.heap.size + 3) wr (.slice A k c) ds ∧ w.heap.size + 3 ≤ wr.heap.size ∧ Below w.heap.size w wr) (fun i _ => m.L.length - (intOf i).toNat)
  case atStart => exact ⟨0, none, [], 0, Nat.zero_le _, rfl, Lib.hid rfl, Lib.hid rfl, G2, Z2, H2, ⟨Own.nil_, (fun d hd => by cases hd)⟩, hs2, b2⟩
  case round =>
    clear G2 Z2 H2 hs2 b2
    obtain ⟨k, A, ds, c, hk, rfl, HA, HL, G, Z, H, ox, hs, bl⟩ := hrel
    have e4 : wr.cell? ⟨w.heap.size, 4, none⟩ = some (.slice m.LA m.L.length m.Lc) := G.blk.2.1 4 _ rfl
    by_cases hkl : k < m.L.length
    · obtain ⟨x, hx⟩ : ∃ x, m.L[k]? = some x := ⟨_, List.getElem?_eq_getElem hkl⟩
      obtain ⟨b1, o1, hA1, hb1, hc1⟩ := (hr.L.below bl).at_ hx
      have hxr := hr.F x (List.mem_of_getElem? hx)
      have hxl := f2 x (List.mem_of_getElem? hx)
      have d0 : wr.cell? ⟨b1, o1 + k * 4, none⟩ = some (.int .u8 x.n) := hc1 0 _ rfl
      have d1 : wr.cell? ⟨b1, o1 + k * 4 + 1, none⟩ = some (.int .u16 x.i) := hc1 1 _ rfl
      have d2 : wr.cell? ⟨b1, o1 + k * 4 + 2, none⟩ = some (.int .u8 x.a) := hc1 2 _ rfl
      have d3 : wr.cell? ⟨b1, o1 + k * 4 + 3, none⟩ = some (.slice x.A x.l.length x.c) := hc1 3 _ rfl
      have D3 := Lib.hid d3
      have SN : Hid (∀ y : DsV, y.abs = x.abs → (ds ++ [y]).map DsV.abs = (m.L.take (k + 1)).map DsV.abs) := Lib.hid fun y hy => by
        rw [List.take_add_one, hx, List.map_append, List.map_append, HA.out, Option.toList_some]
        show _ = _ ++ [x.abs]
        rw [← hy]; rfl
      have ki : (k : Int) < (m.L.length : Int) := by omega
      have HA1 := Lib.hid hA1
      rw [hA1] at e4
      clear hx hc1 hA1
      have X := Ob.new wr #[.int .u8 x.n, .int .u16 x.i, .int .u8 x.a, .slice none 0 0] 55
      have bx := Gw.al (Below.refl wr.heap.size wr) (.cells #[.int .u8 x.n, .int .u16 x.i, .int .u8 x.a, .slice none 0 0] 55)
      go_upto_region 9 with fail
      generalize hw3 : wr.alloc (.cells #[.int .u8 x.n, .int .u16 x.i, .int .u8 x.a, .slice none 0 0] 55) = w3 at *
      have hgd : wr.heap.size < w3.heap.size := X.lt
      clear hw3 d0 d1 d2 d3
      have e4' : w3.cell? ⟨w.heap.size, 4, none⟩ = some (.slice (some ⟨b1, o1, none⟩) m.L.length m.Lc) := by rw [← HA1.out]; exact (G.call bx).blk.2.1 4 _ rfl
      have d3' : w3.cell? ⟨b1, o1 + k * 4 + 3, none⟩ = some (.slice x.A x.l.length x.c) := (bx.cell (p := ⟨b1, o1 + k * 4 + 3, none⟩) (Nat.lt_of_lt_of_le hb1 bl.size)).trans D3.out
      have hw0 : w.heap.size < w3.heap.size := by omega
      have hb3 : b1 < w3.heap.size := by have := bl.size; omega
      have HB : Hid (∀ W, Below w3.heap.size w3 W → (fun W : World => W.cell? ⟨w.heap.size, 4, none⟩ = some (.slice (some ⟨b1, o1, none⟩) m.L.length m.Lc) ∧ W.cell? ⟨b1, o1 + k * 4 + 3, none⟩ = some (.slice x.A x.l.length x.c)) W) := Lib.hid fun W hb => ⟨(hb.cell (p := ⟨w.heap.size, 4, none⟩) hw0).trans e4', (hb.cell (p := ⟨b1, o1 + k * 4 + 3, none⟩) hb3).trans d3'⟩
      have bq := Below.refl w3.heap.size w3
      have X3 := X.blk.2.1 3 _ rfl
      have hxr3 : Rd spc 2 w3.heap.size w3 x.A x.l := Rd.up hxr (Gw.call bl bx)
      have hne4 : w.heap.size ≠ wr.heap.size := by omega
      have hneb : b1 ≠ wr.heap.size := by have := bl.size; omega
      refine wp_region_held_drew (S := fun W : World => W.cell? ⟨w.heap.size, 4, none⟩ = some (.slice (some ⟨b1, o1, none⟩) m.L.length m.Lc) ∧ W.cell? ⟨b1, o1 + k * 4 + 3, none⟩ = some (.slice x.A x.l.length x.c)) (by kernel_rfl) (HB.out _ (Below.drew bq)) (fun hHeld => ?_)
      refine take_d (i := 0) (oi := _) (v := ?_) (d := some 29) rfl (by kernel_rfl) (by as_aux_lemma => kernel_rfl) (by as_aux_lemma => kernel_rfl) (by as_aux_lemma => kernel_rfl) (fun _ _ _ h => h) (Or.inl ⟨by kernel_rfl, ?_⟩) hHeld ?_
      rotate_left
      · intro w hSw; (try dsimp only at hSw); go_simp; (try with_reducible rfl)
      try simp only [Act.put, List.setIfInBounds_toArray, List.set_cons_zero, List.set_cons_succ]
      refine take_d (i := 2) (oi := _) (v := ?_) (d := some 31) rfl (by kernel_rfl) (by as_aux_lemma => kernel_rfl) (by as_aux_lemma => kernel_rfl) (by as_aux_lemma => kernel_rfl) (fun _ _ _ h => h) (Or.inl ⟨by kernel_rfl, ?_⟩) hHeld ?_
      rotate_left
      · intro w hSw; (try dsimp only at hSw); go_simp; (try with_reducible rfl)
      try simp only [Act.put, List.setIfInBounds_toArray, List.set_cons_zero, List.set_cons_succ]
      refine take_d (i := 3) (oi := _) (v := ?_) (d := some 32) rfl (by kernel_rfl) (by as_aux_lemma => kernel_rfl) (by as_aux_lemma => kernel_rfl) (by as_aux_lemma => kernel_rfl) (fun _ _ _ h => h) (Or.inl ⟨by kernel_rfl, ?_⟩) hHeld ?_
      rotate_left
      · intro w hSw; (try dsimp only at hSw); go_simp; (try with_reducible rfl)
      try simp only [Act.put, List.setIfInBounds_toArray, List.set_cons_zero, List.set_cons_succ]
      refine take_d (i := 4) (oi := _) (v := ?_) (d := some 33) rfl (by kernel_rfl) (by as_aux_lemma => kernel_rfl) (by as_aux_lemma => kernel_rfl) (by as_aux_lemma => kernel_rfl) (fun _ _ _ h => h) (Or.inl ⟨by kernel_rfl, ?_⟩) hHeld ?_
      rotate_left
      · intro w hSw; (try dsimp only at hSw); go_simp; (try with_reducible rfl)
      try simp only [Act.put, List.setIfInBounds_toArray, List.set_cons_zero, List.set_cons_succ]
      refine take_d (i := 5) (oi := _) (v := ?_) (d := some 34) rfl (by kernel_rfl) (by as_aux_lemma => kernel_rfl) (by as_aux_lemma => kernel_rfl) (by as_aux_lemma => kernel_rfl) (fun _ _ _ h => h) (Or.inl ⟨by kernel_rfl, ?_⟩) hHeld ?_
      rotate_left
      · intro w hSw; (try dsimp only at hSw); go_simp; (try with_reducible rfl)
      try simp only [Act.put, List.setIfInBounds_toArray, List.set_cons_zero, List.set_cons_succ]
      refine take_d (i := 6) (oi := _) (v := ?_) (d := some 35) rfl (by kernel_rfl) (by as_aux_lemma => kernel_rfl) (by as_aux_lemma => kernel_rfl) (by as_aux_lemma => kernel_rfl) (fun _ _ _ h => h) (Or.inl ⟨by kernel_rfl, ?_⟩) hHeld ?_
      rotate_left
      · intro w hSw; (try dsimp only at hSw); go_simp; (try with_reducible rfl)
      try simp only [Act.put, List.setIfInBounds_toArray, List.set_cons_zero, List.set_cons_succ]
      refine take_d (i := 7) (oi := _) (v := ?_) (d := some 36) rfl (by kernel_rfl) (by as_aux_lemma => kernel_rfl) (by as_aux_lemma => kernel_rfl) (by as_aux_lemma => kernel_rfl) (fun _ _ _ h => h) (Or.inl ⟨by kernel_rfl, ?_⟩) hHeld ?_
      rotate_left
      · intro w hSw; (try dsimp only at hSw); go_simp; (try with_reducible rfl)
      try simp only [Act.put, List.setIfInBounds_toArray, List.set_cons_zero, List.set_cons_succ]
      refine wpAnyH_ready (rs := [1]) (by kernel_rfl) (by simp) ?_
      refine AllReadyH.cons rfl (fun K hK => ?_) AllReadyH.nil
      have kk : w3.drew.cell? ⟨wr.heap.size, 3, none⟩ = some (.slice none 0 0) := X3
      go_simp
      clear kk
      refine hK.out _ _ (HB.out _ (Below.drew bq)) (fun hHeld => ?_)
      clear hK K
      try simp only [Act.put, List.setIfInBounds_toArray, List.set_cons_zero, List.set_cons_succ]
      refine wpAnyH_ready (rs := [8]) (by kernel_rfl) (by simp) ?_
      refine AllReadyH.cons rfl (fun K hK => ?_) AllReadyH.nil
      refine step_app rfl _ _ _ _ rfl w3.heap.size 51 i1 _ 8 Try.underlying53 hi1 hy0 hy1 hy2 rfl (by omega) spc_len spc_one (.slice none 0 0) [] rfl Own.nil_ 0 rfl _ _ x.l.length _ x.l rfl rfl (Rd.up hxr3 (Below.drew bq)) (by omega) (by omega) (Nat.le_refl _) ?_
      intro A5 c5 w5 o5 hg
      rw [List.nil_append, Nat.zero_add] at o5
      have b5 : Below w3.heap.size w3 w5 := Gw.call (Below.drew bq) (Gw.none_ hg)
      have X5 := X.call b5
      clear hg
      refine hK.out _ _ (HB.out _ b5) (fun hHeld => ?_)
      clear hK K
      try simp only [Act.put, List.setIfInBounds_toArray, List.set_cons_zero, List.set_cons_succ]
      refine take_d (i := 9) (oi := _) (v := ?_) (d := some 38) rfl (by kernel_rfl) (by as_aux_lemma => kernel_rfl) (by as_aux_lemma => kernel_rfl) (by as_aux_lemma => kernel_rfl) (fun _ _ _ h => h) (Or.inl ⟨by kernel_rfl, ?_⟩) hHeld ?_
      rotate_left
      · intro w hSw; (try dsimp only at hSw); go_simp; (try with_reducible rfl)
      try simp only [Act.put, List.setIfInBounds_toArray, List.set_cons_zero, List.set_cons_succ]
      refine wpAnyH_ready (rs := [10]) (by kernel_rfl) (by simp) ?_
      refine AllReadyH.cons rfl (fun K hK => ?_) AllReadyH.nil
      have k5 := X5.blk.2.1 3 _ rfl
      have f5 := X5.blk.2.2
      go_simp
      clear k5 f5
      refine hK.out _ _ (⟨(World.cell?_setCell_other _ _ _ _ (by intro e; injection e with e _ _; exact hne4 e.symm)).trans (HB.out _ b5).1, (World.cell?_setCell_other _ _ _ _ (by intro e; injection e with e _ _; exact hneb e.symm)).trans (HB.out _ b5).2⟩) (fun hHeld => ?_)
      clear hK K
      try simp only [Act.put, List.setIfInBounds_toArray, List.set_cons_zero, List.set_cons_succ]
      refine wpAnyH_done (by kernel_rfl) ?_ _
      have X6 : Ob (w5.setCell ⟨wr.heap.size, 3, none⟩ (.slice A5 x.l.length c5)) wr.heap.size #[.int .u8 x.n, .int .u16 x.i, .int .u8 x.a, .slice A5 x.l.length c5] 55 := X5.set 3 (.slice A5 x.l.length c5)
      have o6 := Own.hop o5 (grown_set w5 ⟨wr.heap.size, 3, none⟩ (.slice A5 x.l.length c5)) hgd
      have b6 : Below wr.heap.size wr (w5.setCell ⟨wr.heap.size, 3, none⟩ (.slice A5 x.l.length c5)) := Gw.st (Gw.call bx b5) (Nat.le_refl _) _
      clear hHeld HB X3 X5 o5 b5 bq bx X e4' d3'
      generalize w5.setCell ⟨wr.heap.size, 3, none⟩ (.slice A5 x.l.length c5) = w6 at *
      have hyo : (⟨x.n, x.i, x.a, A5, x.l, c5⟩ : DsV).own (w.heap.size + 3) w6 := Own.base_le o6 (by omega)
      have H6 := H.call b6
      have G6 := G.call b6
      have Z6 := Z.call b6
      have ox6 := ox.below b6
      have bl6 := Gw.call bl b6
      have hs6 := Nat.le_trans hs b6.size
      have x0 := X6.blk.2.1 0 _ rfl
      have x1 := X6.blk.2.1 1 _ rfl
      have x2 := X6.blk.2.1 2 _ rfl
      have x3 := X6.blk.2.1 3 _ rfl
      have h4 : w6.cell? ⟨w.heap.size + 1 + 1, 4, none⟩ = some (.slice A k c) := by have h := H6.blk.2.1 4 (.slice A ds.length c) rfl; rwa [HL.out] at h
      have al7 := Below.alloc (Below.refl w6.heap.size w6) (Nat.le_refl _) (.cells #[.int .u8 x.n, .int .u16 x.i, .int .u8 x.a, .slice A5 x.l.length c5] 55)
      have H7 := H6.call al7
      have G7 := G6.call al7
      have Z7 := Z6.call al7
      have ox7 := ox6.below al7
      have hyo7 := DsV.own.below hyo al7
      have bl7 := Gw.call bl6 al7
      have LT : Rd dsc 4 (w6.alloc (.cells #[.int .u8 x.n, .int .u16 x.i, .int .u8 x.a, .slice A5 x.l.length c5] 55)).heap.size (w6.alloc (.cells #[.int .u8 x.n, .int .u16 x.i, .int .u8 x.a, .slice A5 x.l.length c5] 55)) (some ⟨w6.heap.size, 0, none⟩) [(⟨x.n, x.i, x.a, A5, x.l, c5⟩ : DsV)] := by rw [World.size_alloc]; exact Rd.lit dsc_len w6 _ rfl _ _ _ rfl
      have HKL : Hid (k = ds.length) := Lib.hid HL.out.symm
      clear o6 hyo H6 G6 Z6 ox6 bl6 al7 ox bl H G Z b6 hgd e4
      go_wp2_with (first | (at_builtin; refine wpList_app _ rfl _ _ 26 rfl (w.heap.size + 3) 55 i0 _ 32 Try.underlying26 hi0 hz0 hz1 hz2 rfl (by omega) dsc_len dsc_one (.slice A k c) ds rfl ox7.out k HKL.out _ _ 1 1 [(⟨x.n, x.i, x.a, A5, x.l, c5⟩ : DsV)] rfl rfl LT (by omega) (by omega) (by rw [World.size_alloc]; omega) ?_; intro A8 c8 w8 o8 hg; have H8 := H7.hopO ox7.out hg (by omega); have G8 := G7.hopO ox7.out hg (by omega); have Z8 := Z7.hopO ox7.out hg (by omega); have k8 := H8.blk.2.1 4 _ rfl; have f8 := H8.blk.2.2) | fail)
      have ox8 := ox7.snoc hg o8 hyo7
      have bl8 := Gw.gr bl7 hg (fun q hq => by have := Own.lt ox7.out q hq; omega)
      have hs8 : w.heap.size + 3 ≤ w8.heap.size := Nat.le_trans hs6 (Nat.le_trans (by rw [World.size_alloc]; omega) hg.size)
      have HG : w8.grownBy (w8.setCell ⟨w.heap.size + 1 + 1, 4, none⟩ (.slice A8 (k + 1) c8)) (some (w.heap.size + 1 + 1)) := grown_set w8 ⟨w.heap.size + 1 + 1, 4, none⟩ (.slice A8 (k + 1) c8)
      have H9 := H8.set 4 (.slice A8 (k + 1) c8)
      have HL2 : Hid ((ds ++ [(⟨x.n, x.i, x.a, A5, x.l, c5⟩ : DsV)]).length = k + 1) := Lib.hid (by rw [List.length_append, HL.out]; rfl)
      rw [clr_put m A A8 ds (ds ++ [(⟨x.n, x.i, x.a, A5, x.l, c5⟩ : DsV)]) c c8 (k + 1) HL2.out] at H9
      have G9 := G8.far (p := w.heap.size + 1 + 1) (j := 4) n1 (.slice A8 (k + 1) c8)
      have Z9 := Z8.far (p := w.heap.size + 1 + 1) (j := 4) n2 (.slice A8 (k + 1) c8)
      have ox9 := ox8.hop HG (by omega)
      have bl9 := Gw.hop bl8 HG (by omega)
      have hs9 : w.heap.size + 3 ≤ (w8.setCell ⟨w.heap.size + 1 + 1, 4, none⟩ (.slice A8 (k + 1) c8)).heap.size := by rw [Gw.setSize]; exact hs8
      clear H8 G8 Z8 ox8 bl8 hs8 HG k8 f8 hg H7 G7 Z7 ox7 bl7 LT x0 x1 x2 x3 h4 X6
      go_wp2_with fail
      go_roundw
      case rel => exact ⟨k + 1, A8, ds ++ [⟨x.n, x.i, x.a, A5, x.l, c5⟩], c8, hkl, by go_num, Lib.hid (SN.out _ rfl), HL2, G9, Z9, H9, ox9, hs9, bl9⟩
      case measure => simp [intOf]; omega
    · obtain rfl : k = m.L.length := by omega
      rw [List.take_length] at HA
      obtain ⟨j0, hj0, hjz0, hjs0, hjb0⟩ := info_parts Try.info21Mb
      have gk : wr.cell? ⟨w.heap.size, 5, none⟩ = some (.slice m.TA m.T.length m.Tc) := G.blk.2.1 5 _ rfl
      have hk0 : wr.cell? ⟨w.heap.size + 1 + 1, 5, none⟩ = some (.slice none 0 0) := H.blk.2.1 5 _ (by rfl)
      have LT := hr.T.up bl
      have fle : m.T.length ≤ 1000 := by omega
      go_upto_region 12 with (first | (at_builtin; refine wpList_app _ rfl _ _ 27 rfl (w.heap.size + 3) 57 j0 _ 4 Try.underlying27 hj0 hjz0 hjs0 hjb0 rfl (by omega) memc_len memc_one (.slice none 0 0) [] rfl Own.nil_ 0 rfl _ _ m.T.length _ m.T rfl rfl LT (by omega) (by omega) hs ?_; intro B0 d0 u0 p0 hg; have kk := (H.call (Gw.none_ hg)).blk.2.1 5 (.slice none 0 0) (by rfl); have ff := (H.call (Gw.none_ hg)).blk.2.2) | fail)
      rw [List.nil_append, Nat.zero_add] at p0
      have hb := Gw.none_ hg
      have HG : u0.grownBy (u0.setCell ⟨w.heap.size + 1 + 1, 5, none⟩ (.slice B0 m.T.length d0)) (some (w.heap.size + 1 + 1)) := grown_set u0 ⟨w.heap.size + 1 + 1, 5, none⟩ (.slice B0 m.T.length d0)
      replace H := (H.call hb).set 5 (.slice B0 m.T.length d0)
      replace G := (G.call hb).far (p := w.heap.size + 1 + 1) (j := 5) n1 (.slice B0 m.T.length d0)
      replace Z := (Z.call hb).far (p := w.heap.size + 1 + 1) (j := 5) n2 (.slice B0 m.T.length d0)
      replace p0 := Own.hop p0 HG (by omega)
      replace ox := (ox.below hb).hop HG (by omega)
      replace bl := Gw.hop (Gw.call bl hb) HG (by omega)
      replace hs : w.heap.size + 3 ≤ (u0.setCell ⟨w.heap.size + 1 + 1, 5, none⟩ (.slice B0 m.T.length d0)).heap.size := by rw [Gw.setSize]; exact Nat.le_trans hs hb.size
      clear hb HG hg kk ff gk hk0 LT fle
      generalize u0.setCell ⟨w.heap.size + 1 + 1, 5, none⟩ (.slice B0 m.T.length d0) = v0 at *
      obtain ⟨j1, hj1, hjz1, hjs1, hjb1⟩ := info_parts Try.info21I32
      have gk : v0.cell? ⟨w.heap.size, 9, none⟩ = some (.slice m.VA m.V.length m.Vc) := G.blk.2.1 9 _ rfl
      have hk1 : v0.cell? ⟨w.heap.size + 1 + 1, 9, none⟩ = some (.slice none 0 0) := H.blk.2.1 9 _ (by rfl)
      have LT := hr.V.up bl
      have fle : m.V.length ≤ 1000 := by omega
      go_upto_region 13 with (first | (at_builtin; refine wpList_app _ rfl _ _ 31 rfl (w.heap.size + 3) 21 j1 _ 4 Try.underlying31 hj1 hjz1 hjs1 hjb1 rfl (by omega) (int_len .i32) (int_one .i32) (.slice none 0 0) [] rfl Own.nil_ 0 rfl _ _ m.V.length _ m.V rfl rfl LT (by omega) (by omega) hs ?_; intro B1 d1 u1 p1 hg; have kk := (H.call (Gw.none_ hg)).blk.2.1 9 (.slice none 0 0) (by rfl); have ff := (H.call (Gw.none_ hg)).blk.2.2) | fail)
      rw [List.nil_append, Nat.zero_add] at p1
      have hb := Gw.none_ hg
      have HG : u1.grownBy (u1.setCell ⟨w.heap.size + 1 + 1, 9, none⟩ (.slice B1 m.V.length d1)) (some (w.heap.size + 1 + 1)) := grown_set u1 ⟨w.heap.size + 1 + 1, 9, none⟩ (.slice B1 m.V.length d1)
      replace H := (H.call hb).set 9 (.slice B1 m.V.length d1)
      replace G := (G.call hb).far (p := w.heap.size + 1 + 1) (j := 9) n1 (.slice B1 m.V.length d1)
      replace Z := (Z.call hb).far (p := w.heap.size + 1 + 1) (j := 9) n2 (.slice B1 m.V.length d1)
      replace p1 := Own.hop p1 HG (by omega)
      replace ox := (ox.below hb).hop HG (by omega)
      replace p0 := Own.hop (Own.below p0 hb) HG (by omega)
      replace bl := Gw.hop (Gw.call bl hb) HG (by omega)
      replace hs : w.heap.size + 3 ≤ (u1.setCell ⟨w.heap.size + 1 + 1, 9, none⟩ (.slice B1 m.V.length d1)).heap.size := by rw [Gw.setSize]; exact Nat.le_trans hs hb.size
      clear hb HG hg kk ff gk hk1 LT fle
      generalize u1.setCell ⟨w.heap.size + 1 + 1, 9, none⟩ (.slice B1 m.V.length d1) = v1 at *
      obtain ⟨j2, hj2, hjz2, hjs2, hjb2⟩ := info_parts Try.info21U8
      have gk : v1.cell? ⟨w.heap.size, 10, none⟩ = some (.slice m.DA m.D.length m.Dc) := G.blk.2.1 10 _ rfl
      have hk2 : v1.cell? ⟨w.heap.size + 1 + 1, 10, none⟩ = some (.slice none 0 0) := H.blk.2.1 10 _ (by rfl)
      have LT := hr.D.up bl
      have fle : m.D.length ≤ 1000 := by omega
      go_upto_region 14 with (first | (at_builtin; refine wpList_app _ rfl _ _ 32 rfl (w.heap.size + 3) 5 j2 _ 1 Try.underlying32 hj2 hjz2 hjs2 hjb2 rfl (by omega) (int_len .u8) (int_one .u8) (.slice none 0 0) [] rfl Own.nil_ 0 rfl _ _ m.D.length _ m.D rfl rfl LT (by omega) (by omega) hs ?_; intro B2 d2 u2 p2 hg; have kk := (H.call (Gw.none_ hg)).blk.2.1 10 (.slice none 0 0) (by rfl); have ff := (H.call (Gw.none_ hg)).blk.2.2) | fail)
      rw [List.nil_append, Nat.zero_add] at p2
      have hb := Gw.none_ hg
      have HG : u2.grownBy (u2.setCell ⟨w.heap.size + 1 + 1, 10, none⟩ (.slice B2 m.D.length d2)) (some (w.heap.size + 1 + 1)) := grown_set u2 ⟨w.heap.size + 1 + 1, 10, none⟩ (.slice B2 m.D.length d2)
      replace H := (H.call hb).set 10 (.slice B2 m.D.length d2)
      replace G := (G.call hb).far (p := w.heap.size + 1 + 1) (j := 10) n1 (.slice B2 m.D.length d2)
      replace Z := (Z.call hb).far (p := w.heap.size + 1 + 1) (j := 10) n2 (.slice B2 m.D.length d2)
      replace p2 := Own.hop p2 HG (by omega)
      replace ox := (ox.below hb).hop HG (by omega)
      replace p0 := Own.hop (Own.below p0 hb) HG (by omega)
      replace p1 := Own.hop (Own.below p1 hb) HG (by omega)
      replace bl := Gw.hop (Gw.call bl hb) HG (by omega)
      replace hs : w.heap.size + 3 ≤ (u2.setCell ⟨w.heap.size + 1 + 1, 10, none⟩ (.slice B2 m.D.length d2)).heap.size := by rw [Gw.setSize]; exact Nat.le_trans hs hb.size
      clear hb HG hg kk ff gk hk2 LT fle
      generalize u2.setCell ⟨w.heap.size + 1 + 1, 10, none⟩ (.slice B2 m.D.length d2) = v2 at *
      obtain ⟨j3, hj3, hjz3, hjs3, hjb3⟩ := info_parts Try.info21Mk
      have gk : v2.cell? ⟨w.heap.size, 15, none⟩ = some (.slice m.MA m.M.length m.Mc) := G.blk.2.1 15 _ rfl
      have hk3 : v2.cell? ⟨w.heap.size + 1 + 1, 15, none⟩ = some (.slice none 0 0) := H.blk.2.1 15 _ (by rfl)
      have LT := hr.M.up bl
      have fle : m.M.length ≤ 1000 := by omega
      go_upto_region 15 with (first | (at_builtin; refine wpList_app _ rfl _ _ 36 rfl (w.heap.size + 3) 35 j3 _ 8 Try.underlying36 hj3 hjz3 hjs3 hjb3 rfl (by omega) idc_len idc_one (.slice none 0 0) [] rfl Own.nil_ 0 rfl _ _ m.M.length _ m.M rfl rfl LT (by omega) (by omega) hs ?_; intro B3 d3 u3 p3 hg; have kk := (H.call (Gw.none_ hg)).blk.2.1 15 (.slice none 0 0) (by rfl); have ff := (H.call (Gw.none_ hg)).blk.2.2) | fail)
      rw [List.nil_append, Nat.zero_add] at p3
      have hb := Gw.none_ hg
      have HG : u3.grownBy (u3.setCell ⟨w.heap.size + 1 + 1, 15, none⟩ (.slice B3 m.M.length d3)) (some (w.heap.size + 1 + 1)) := grown_set u3 ⟨w.heap.size + 1 + 1, 15, none⟩ (.slice B3 m.M.length d3)
      replace H := (H.call hb).set 15 (.slice B3 m.M.length d3)
      replace G := (G.call hb).far (p := w.heap.size + 1 + 1) (j := 15) n1 (.slice B3 m.M.length d3)
      replace Z := (Z.call hb).far (p := w.heap.size + 1 + 1) (j := 15) n2 (.slice B3 m.M.length d3)
      replace p3 := Own.hop p3 HG (by omega)
      replace ox := (ox.below hb).hop HG (by omega)
      replace p0 := Own.hop (Own.below p0 hb) HG (by omega)
      replace p1 := Own.hop (Own.below p1 hb) HG (by omega)
      replace p2 := Own.hop (Own.below p2 hb) HG (by omega)
      replace bl := Gw.hop (Gw.call bl hb) HG (by omega)
      replace hs : w.heap.size + 3 ≤ (u3.setCell ⟨w.heap.size + 1 + 1, 15, none⟩ (.slice B3 m.M.length d3)).heap.size := by rw [Gw.setSize]; exact Nat.le_trans hs hb.size
      clear hb HG hg kk ff gk hk3 LT fle
      generalize u3.setCell ⟨w.heap.size + 1 + 1, 15, none⟩ (.slice B3 m.M.length d3) = v3 at *
      obtain ⟨j4, hj4, hjz4, hjs4, hjb4⟩ := info_parts Try.info21Id
      have gk : v3.cell? ⟨w.heap.size, 16, none⟩ = some (.slice m.IA m.I.length m.Ic) := G.blk.2.1 16 _ rfl
      have hk4 : v3.cell? ⟨w.heap.size + 1 + 1, 16, none⟩ = some (.slice none 0 0) := H.blk.2.1 16 _ (by rfl)
      have LT := hr.I.up bl
      have fle : m.I.length ≤ 1000 := by omega
      go_upto_region 16 with (first | (at_builtin; refine wpList_app _ rfl _ _ 37 rfl (w.heap.size + 3) 30 j4 _ 8 Try.underlying37 hj4 hjz4 hjs4 hjb4 rfl (by omega) idc_len idc_one (.slice none 0 0) [] rfl Own.nil_ 0 rfl _ _ m.I.length _ m.I rfl rfl LT (by omega) (by omega) hs ?_; intro B4 d4 u4 p4 hg; have kk := (H.call (Gw.none_ hg)).blk.2.1 16 (.slice none 0 0) (by rfl); have ff := (H.call (Gw.none_ hg)).blk.2.2) | fail)
      rw [List.nil_append, Nat.zero_add] at p4
      have hb := Gw.none_ hg
      have HG : u4.grownBy (u4.setCell ⟨w.heap.size + 1 + 1, 16, none⟩ (.slice B4 m.I.length d4)) (some (w.heap.size + 1 + 1)) := grown_set u4 ⟨w.heap.size + 1 + 1, 16, none⟩ (.slice B4 m.I.length d4)
      replace H := (H.call hb).set 16 (.slice B4 m.I.length d4)
      replace G := (G.call hb).far (p := w.heap.size + 1 + 1) (j := 16) n1 (.slice B4 m.I.length d4)
      replace Z := (Z.call hb).far (p := w.heap.size + 1 + 1) (j := 16) n2 (.slice B4 m.I.length d4)
      replace p4 := Own.hop p4 HG (by omega)
      replace ox := (ox.below hb).hop HG (by omega)
      replace p0 := Own.hop (Own.below p0 hb) HG (by omega)
      replace p1 := Own.hop (Own.below p1 hb) HG (by omega)
      replace p2 := Own.hop (Own.below p2 hb) HG (by omega)
      replace p3 := Own.hop (Own.below p3 hb) HG (by omega)
      replace bl := Gw.hop (Gw.call bl hb) HG (by omega)
      replace hs : w.heap.size + 3 ≤ (u4.setCell ⟨w.heap.size + 1 + 1, 16, none⟩ (.slice B4 m.I.length d4)).heap.size := by rw [Gw.setSize]; exact Nat.le_trans hs hb.size
      clear hb HG hg kk ff gk hk4 LT fle
      generalize u4.setCell ⟨w.heap.size + 1 + 1, 16, none⟩ (.slice B4 m.I.length d4) = v4 at *
      obtain ⟨m', hm'⟩ : ∃ m' : MsV, m' = ⟨m.k, m.f, m.i, m.t, A, ds, c, B0, m.T, d0, m.e, B1, m.V, d1, B2, m.D, d2, m.h, m.o, B3, m.M, d3, B4, m.I, d4⟩ := ⟨_, rfl⟩
      have hA : ((((((msA (clrM m A ds c)).setIfInBounds 5 (.slice B0 m.T.length d0)).setIfInBounds 9 (.slice B1 m.V.length d1)).setIfInBounds 10 (.slice B2 m.D.length d2)).setIfInBounds 15 (.slice B3 m.M.length d3)).setIfInBounds 16 (.slice B4 m.I.length d4)) = msA m' := by rw [hm']; simp [msA, clrM]
      rw [hA] at H
      have hown : m'.own (w.heap.size + 3) v4 := by
        rw [hm']
        exact ⟨by show Own dsc 4 _ _ _ (.slice A ds.length c) ds; rw [HL.out]; exact ox.out, ox.row, p0, p1, p2, p3, p4⟩
      have habs : m'.abs = m.abs := by rw [hm']; unfold MsV.abs; rw [HA.out]
      have HAB := Lib.hid habs
      clear habs hA hm' p0 p1 p2 p3 p4 ox
      go_wp2_with (first | (with_reducible refine ldM m' _ 0 (obM H) rfl _ rfl rfl ?_) | (with_reducible refine stM_row m' _ _ Z rfl rfl _ _ rfl rfl rfl ?_) | fail)
      (try simp only [Exit.inBlock, Exit.then])
      have Z2 := Z.setRow (msA m')
      have hop := setRow_grown v4 (w.heap.size + 1) (msA m')
      refine bodyPost_ret (v := msv m') (results_cell_row rfl _ _ (w.heap.size + 1) 39 (msA m') (0, 0) _ rfl Z2 Try.underlying39 rfl Try.size21Ms) rfl ⟨m', rfl, HAB.out, (hown.hop hop (by omega)).base_le (by omega), Gw.hop bl hop (by omega)⟩
end Go.Proofs.Ytbengmgfddnkhaa
