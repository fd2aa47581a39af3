/-
  awake (21).
-/
import Derived.Test.YtbengmgfddnkhaaUse21
import Derived.BigFrame
namespace Go.Proofs.Ytbengmgfddnkhaa
open Go.RowKit
theorem setRow_under (w : World) (z cs : Array Value) (t : TypeId) (o : Obj) : ((w.alloc (.cells z t)).alloc o).setRow w.heap.size cs = (w.alloc (.cells cs t)).alloc o := by
  simp only [World.setRow, World.alloc]
  congr 1
  apply Array.ext_getElem?
  intro i
  rw [Array.getElem?_modify]
  by_cases h : w.heap.size = i
  · subst h
    simp [Array.getElem?_push]
  · have h' : ¬ i = w.heap.size := fun e => h e.symm
    simp [h, h', Array.getElem?_push]
section
variable {ops : Array Oper} {rest : List Oper} {op : Oper} {a : Act} {w : World} {Q : Exit → Act → World → Prop}
theorem ldMg (m : MsV) (b o : Nat) (hc : ∀ j v, (msc m)[j]? = some v → w.cell? ⟨b, o + j, none⟩ = some v) (hw : Region.wanted op (yielded ops a.tmps) = true) (x : Operand) (ho : op.op = .load 39 x) (hx : a.eval x = .pointer (some ⟨b, o, none⟩))
    (h : wpList Try.prog ops Q rest (a.put op.dst (.agg (msA m))) w) : wpList Try.prog ops Q (op :: rest) a w :=
  BigFrame.wpList_want hw fun K hK => wp_load_mid 39 x ho b o hx (msc m) _ hc Try.underlying39 rfl Try.size21Ms (hK _ _ (by simpa [msc] using h))
theorem bsMg (m : MsV) (hw : Region.wanted op (yielded ops a.tmps) = true) (y : Operand) (ho : op.op = .buildSlice 22 1 #[(0, y)]) (hy : a.eval y = .agg (msA m))
    (h : wpList Try.prog ops Q rest (a.put op.dst (.slice (some ⟨w.heap.size, 0, none⟩) 1 1)) (w.alloc (.cells (msA m) 39))) : wpList Try.prog ops Q (op :: rest) a w :=
  BigFrame.wpList_want hw fun K hK => by
    obtain ⟨i0, hi0, hz0, hz1, hz2⟩ := info_parts Try.info21Ms
    refine wp_buildSlice 22 39 1 _ ho (msA m) i0 _ Try.underlying22 hi0 hz0 (by rw [hz1]; omega) (by rw [hz1]; omega) ?_ (hK _ _ h)
    rw [hz1]
    have h1 : ∀ v ∈ [Value.agg (msA m)], v.cells.size = 17 := fun v hv => by
      obtain rfl : v = Value.agg (msA m) := by simpa using hv
      exact msA_size m
    have := Great.fill_whole (s := 17) (by omega) [Value.agg (msA m)] ((Array.range (1 * 17)).map ((Value.agg (msA nilM)).cells[· % (Value.agg (msA nilM)).cells.size]!)) h1 (by simp)
    simpa [hy, Value.cells] using this
theorem stM_under (m : MsV) (z : Array Value) (ob : Obj) (hgd : op.guard = none) (x y : Operand) (ho : op.op = .store 39 x y) (hx : a.eval x = .pointer (some ⟨w.heap.size, 0, none⟩)) (hy : a.eval y = .agg (msA m)) (hz : z.size = 17)
    (h : wpList Try.prog ops Q rest (a.put op.dst undef) ((w.alloc (.cells (msA m) 39)).alloc ob)) : wpList Try.prog ops Q (op :: rest) a ((w.alloc (.cells z 39)).alloc ob) := by
  refine stM_row m w.heap.size z ((Ob.new w z 39).alloc ob) hz hgd x y ho hx hy ?_
  rw [setRow_under]
  exact h
end
def kM (i : Nat) : MsV := ⟨(i : Int), 0, 0, 0, none, [], 0, none, [], 0, ⟨0, 0, 0⟩, none, [], 0, none, [], 0, 0, ⟨0, 0, 0⟩, none, [], 0, none, [], 0⟩
theorem kM_few (i : Nat) : (kM i).abs.few := ⟨by simp [kM, MsV.abs], (fun d hd => by simp [kM, MsV.abs] at hd), by simp [kM, MsV.abs], by simp [kM, MsV.abs], by simp [kM, MsV.abs], by simp [kM, MsV.abs], by simp [kM, MsV.abs]⟩
theorem kM_few' (i : Nat) : (kM i).few := MsV.few_abs.2 (kM_few i)
theorem kM_rd {B : Nat} {W : World} (i : Nat) : (kM i).rd B W := ⟨Rd.nil_, (fun d hd => by cases hd), Rd.nil_, Rd.nil_, Rd.nil_, Rd.nil_, Rd.nil_⟩
def awk : Nat → Bx
  | 0 => ⟨2, [], 0⟩
  | k + 1 => putB (awk k) (kM k).abs
theorem awk1 : awk 1 = ⟨2, [(kM 0).abs], 0⟩ := rfl
theorem awk2 : awk 2 = ⟨2, [(kM 0).abs, (kM 1).abs], 0⟩ := rfl
theorem awk3 : awk 3 = ⟨2, [(kM 0).abs, (kM 1).abs], 1⟩ := by
  show putB (awk 2) _ = _
  rw [awk2]
  unfold putB
  rw [if_neg (by simp)]
  show Bx.mk 2 _ (wrap64 1) = _
  rw [show wrap64 1 = 1 by simp [wrap64]]
theorem awk_few : ∀ k, k ≤ 3 → ∀ m ∈ (awk k).l, m.few := by
  intro k hk m hm
  have : ∀ m ∈ [(kM 0).abs, (kM 1).abs], m.few := fun m hm => by
    simp at hm
    rcases hm with rfl | rfl
    · exact kM_few 0
    · exact kM_few 1
  match k, hk with
  | 0, _ => cases hm
  | 1, _ => rw [awk1] at hm; exact this m (by simp at hm ⊢; exact .inl hm)
  | 2, _ => rw [awk2] at hm; exact this m hm
  | 3, _ => rw [awk3] at hm; exact this m hm
theorem awk_len : ∀ k, k ≤ 3 → (awk k).l.length ≤ 2 := by
  intro k hk
  match k, hk with
  | 0, _ => simp [awk]
  | 1, _ => simp [awk1]
  | 2, _ => simp [awk2]
  | 3, _ => simp [awk3]
theorem two_abs {l : List MsV} {a b : Ms} (h : l.map MsV.abs = [a, b]) : ∃ m0 m1, l = [m0, m1] ∧ m0.abs = a ∧ m1.abs = b := by
  rcases l with _ | ⟨m0, _ | ⟨m1, _ | ⟨m2, t⟩⟩⟩
  · cases h
  · rw [List.map_cons, List.map_nil] at h; cases h
  · rw [List.map_cons, List.map_cons, List.map_nil] at h
    injection h with h1 h2
    injection h2 with h2 _
    exact ⟨m0, m1, rfl, h1, h2⟩
  · rw [List.map_cons, List.map_cons, List.map_cons] at h
    injection h with h1 h2
    injection h2 with h2 h3
    cases h3
set_option maxRecDepth 100000 in
set_option maxHeartbeats 4000000 in
theorem awake_any (w : World) : Calls Try.prog 8 #[] w fun e w' => e = .returned (.bool true) ∧ Below w.heap.size w w' := by
  have G := Ob.new w #[.int .i64 2, .slice none 0 0, .int .i64 0] 24
  have b0 := Gw.al (Below.refl w.heap.size w) (.cells #[.int .i64 2, .slice none 0 0, .int .i64 0] 24)
  go_enter Try.func8, Try.ntmps8
  go_wp2_with fail
  go_loopw [13] (fun i wr => ∃ (k : Nat) (r x : Int) (A : Option Addr) (l : List MsV) (c : Nat), k ≤ 3 ∧ i = .int .i64 k ∧ Hid ((⟨r, A, l, c, x⟩ : BxV).abs = awk k) ∧ Ob wr w.heap.size #[.int .i64 r, .slice A l.length c, .int .i64 x] 24 ∧ OutR wr.heap.size wr A l ∧ Hid (l.length ≤ c ∧ c ≤ maxLen) ∧ Below w.heap.size w wr) (fun i _ => 3 - (intOf i).toNat)
  case atStart => exact ⟨0, 2, 0, none, [], 0, by omega, rfl, Lib.hid rfl, G, OutR.nil_, Lib.hid ⟨Nat.le_refl _, Nat.zero_le _⟩, b0⟩
  case round =>
    clear G b0
    obtain ⟨k, r, x, A, l, c, hk, rfl, HA, G, rl, HC, b0⟩ := hrel
    have hal : l.map MsV.abs = (awk k).l := by rw [← HA.out]; rfl
    have hll : l.length ≤ 2 := by have := congrArg List.length hal; have h2 := awk_len k hk; rw [List.length_map] at this; omega
    have HLF : Hid (∀ m ∈ l, m.few) := Lib.hid (bx_few (by rw [hal]; exact awk_few k hk))
    by_cases hlt : k < 3
    · have ki : (k : Int) < 3 := by omega
      have wk : IntKind.u8.wrap (k : Int) = (k : Int) := IntWalk.u8_in _ (by omega)
      have CP := Lib.hid (fun W h => put_any r x A l c (kM k) W h HLF.out (by omega) (kM_rd k) (kM_few' k))
      have g0 := G.blk.2.1 0 _ rfl
      have g1 := G.blk.2.1 1 _ rfl
      have g2 := G.blk.2.1 2 _ rfl
      have gf := G.blk.2.2
      have hgl := Lib.hid G.lt
      clear hal
      go_wp2_with fail
      refine (CP.out _ rl).mono ?_
      rintro e w2 ⟨⟨r2, A2, l2, c2, x2⟩, rfl, hab, hown, hb⟩
      have HA2 : Hid ((⟨r2, A2, l2, c2, x2⟩ : BxV).abs = awk (k + 1)) := Lib.hid (by rw [hab, HA.out]; rfl)
      have G2 := G.call hb
      have b2 := Gw.call b0 hb
      clear hb hab CP g0 g1 g2 gf G b0
      have hcap := Lib.hid hown.cap.2
      have rl2 := hown.rd
      have g0 := G2.blk.2.1 0 _ rfl
      have g1 := G2.blk.2.1 1 _ rfl
      have g2 := G2.blk.2.1 2 _ rfl
      have gf := G2.blk.2.2
      have hop := (((World.grownBy.refl w2 (some w.heap.size)).trans (grown_set w2 ⟨w.heap.size, 0, none⟩ (.int .i64 r2))).trans (grown_set _ ⟨w.heap.size, 1, none⟩ (.slice A2 l2.length c2))).trans (grown_set _ ⟨w.heap.size, 2, none⟩ (.int .i64 x2))
      have G3 := ((G2.set 0 (.int .i64 r2)).set 1 (.slice A2 l2.length c2)).set 2 (.int .i64 x2)
      have hown3 := OutX.hop hown hop hgl.out
      have b3 := Gw.hop b2 hop (Nat.le_refl _)
      have rl3 := hown3.rd
      clear hop hown hown3 b2 G2 rl2
      go_wp2_with fail
      go_roundw
      case rel => exact ⟨k + 1, r2, x2, A2, l2, c2, hlt, by go_num, HA2, G3, rl3, hcap, b3⟩
      case measure => simp [intOf]; omega
    · obtain rfl : k = 3 := by omega
      have ha3 := HA.out.trans awk3
      injection ha3 with e1 e2 e3
      subst e1 e3
      obtain ⟨m0, m1, rfl, em0, em1⟩ := two_abs e2
      have HEM := Lib.hid (And.intro em0 em1)
      clear e2 em0 em1 hal HA
      have hf0 := HLF.out
      have CT := Lib.hid (fun W h => take_cons 2 1 A m0 [m1] 1 c W h hf0 rfl (by omega) HC.out.1 HC.out.2)
      have g0 := G.blk.2.1 0 _ rfl
      have g1 : wr.cell? ⟨w.heap.size, 1, none⟩ = some (.slice A 2 c) := G.blk.2.1 1 _ rfl
      have g2 := G.blk.2.1 2 _ rfl
      have hm1f : m1.abs.few := by rw [HEM.out.2]; exact kM_few 1
      go_wp2_with fail
      refine (CT.out _ rl).mono ?_
      rintro e w2 ⟨ma, A2, c2, t2, rfl, hma, ht2, _, hown2, hb⟩
      obtain ⟨mb, rfl, hmb⟩ : ∃ mb, t2 = [mb] ∧ mb.abs = m1.abs := by
        rcases t2 with _ | ⟨mb, _ | ⟨mc, t⟩⟩
        · cases ht2
        · injection ht2 with h1 _; exact ⟨mb, rfl, h1⟩
        · rw [List.map_cons, List.map_cons] at ht2; injection ht2 with _ h2; cases h2
      have hc2 := Lib.hid hown2.cap
      have rl2 := hown2.rd
      have HMA := Lib.hid (hma.trans HEM.out.1)
      have HMB := Lib.hid (hmb.trans HEM.out.2)
      have hfb : mb.few := MsV.few_abs.2 (by rw [hmb]; exact hm1f)
      have b2 := Gw.al (Gw.al (Gw.call b0 hb) (.cells (msA ma) 39)) (.cells #[.int .i64 2, .slice A2 1 c2, .int .i64 1] 24)
      have G2 := ((G.call hb).alloc (.cells (msA ma) 39)).alloc (.cells #[.int .i64 2, .slice A2 1 c2, .int .i64 1] 24)
      have MA := (Ob.new w2 (msA ma) 39).alloc (.cells #[.int .i64 2, .slice A2 1 c2, .int .i64 1] 24)
      have P2 := Ob.new (w2.alloc (.cells (msA ma) 39)) #[.int .i64 2, .slice A2 1 c2, .int .i64 1] 24
      rw [World.size_alloc] at P2
      have al2 := Below.alloc (Below.alloc (Below.refl w2.heap.size w2) (Nat.le_refl _) (.cells (msA ma) 39)) (by simp) (.cells #[.int .i64 2, .slice A2 1 c2, .int .i64 1] 24)
      replace rl2 := rl2.up al2
      have CT2 := Lib.hid (fun W h => take_cons 2 1 A2 mb [] 0 c2 W h (by intro d hd; obtain rfl : d = mb := by simpa using hd
                                                                          exact hfb) rfl (by omega) hc2.out.2.1 hc2.out.2.2)
      clear g0 g1 g2 CT hb G b0 hown2 hma ht2 hmb al2 hf0 hll rl
      have p0 := P2.blk.2.1 0 _ rfl
      have p1 := P2.blk.2.1 1 _ rfl
      have p2 := P2.blk.2.1 2 _ rfl
      go_wp2_with (first | (with_reducible refine stM_under ma _ _ rfl _ _ rfl rfl rfl rfl ?_) | fail)
      refine (CT2.out _ rl2).mono ?_
      rintro e w3 ⟨mc, A3, c3, t3, rfl, hmc, ht3, _, hown3, hb⟩
      obtain rfl : t3 = [] := by simpa using ht3
      have HMC := Lib.hid (hmc.trans HMB.out)
      have b3 := Gw.al (Gw.al (Gw.call b2 hb) (.cells (msA mc) 39)) (.cells #[.int .i64 2, .slice A3 0 c3, .int .i64 1] 24)
      have G3 := ((G2.call hb).alloc (.cells (msA mc) 39)).alloc (.cells #[.int .i64 2, .slice A3 0 c3, .int .i64 1] 24)
      have MA3 := ((MA.call hb).alloc (.cells (msA mc) 39)).alloc (.cells #[.int .i64 2, .slice A3 0 c3, .int .i64 1] 24)
      have MC := (Ob.new w3 (msA mc) 39).alloc (.cells #[.int .i64 2, .slice A3 0 c3, .int .i64 1] 24)
      have P3 := Ob.new (w3.alloc (.cells (msA mc) 39)) #[.int .i64 2, .slice A3 0 c3, .int .i64 1] 24
      rw [World.size_alloc] at P3
      clear p0 p1 p2 CT2 hb G2 MA P2 b2 hown3 hmc ht3
      have p0 := P3.blk.2.1 0 _ rfl
      have p1 := P3.blk.2.1 1 _ rfl
      have p2 := P3.blk.2.1 2 _ rfl
      have CT3 := Lib.hid (take_none 2 1 A3 c3)
      go_wp2_with (first | (with_reducible refine stM_under mc _ _ rfl _ _ rfl rfl rfl rfl ?_) | fail)
      refine (CT3.out _).mono ?_
      rintro e w4 ⟨md, A4, c4, rfl, hmd, _, hown4, hb⟩
      have b4 := Gw.al (Gw.al (Gw.call b3 hb) (.cells (msA md) 39)) (.cells #[.int .i64 2, .slice A4 0 c4, .int .i64 1] 24)
      have G4 := ((G3.call hb).alloc (.cells (msA md) 39)).alloc (.cells #[.int .i64 2, .slice A4 0 c4, .int .i64 1] 24)
      have MA4 := ((MA3.call hb).alloc (.cells (msA md) 39)).alloc (.cells #[.int .i64 2, .slice A4 0 c4, .int .i64 1] 24)
      have MC4 := ((MC.call hb).alloc (.cells (msA md) 39)).alloc (.cells #[.int .i64 2, .slice A4 0 c4, .int .i64 1] 24)
      clear p0 p1 p2 CT3 hb G3 MA3 MC P3 b3
      have g1 : ((w4.alloc (.cells (msA md) 39)).alloc (.cells #[.int .i64 2, .slice A4 0 c4, .int .i64 1] 24)).cell? ⟨w.heap.size, 1, none⟩ = some (.slice A 2 c) := G4.blk.2.1 1 _ rfl
      have g2 := G4.blk.2.1 2 _ rfl
      have ka : ((w4.alloc (.cells (msA md) 39)).alloc (.cells #[.int .i64 2, .slice A4 0 c4, .int .i64 1] 24)).cell? ⟨w2.heap.size, 0, none⟩ = some (.int .u8 0) := stM_cells MA4 (by rw [HMA.out]; rfl)
      have kc : ((w4.alloc (.cells (msA md) 39)).alloc (.cells #[.int .i64 2, .slice A4 0 c4, .int .i64 1] 24)).cell? ⟨w3.heap.size, 0, none⟩ = some (.int .u8 1) := stM_cells MC4 (by rw [HMC.out]; rfl)
      go_wp2_with (first | (with_reducible refine stM_under md _ _ rfl _ _ rfl rfl rfl rfl ?_) | fail)
      go_ret
      exact ⟨rfl, b4⟩
end Go.Proofs.Ytbengmgfddnkhaa
