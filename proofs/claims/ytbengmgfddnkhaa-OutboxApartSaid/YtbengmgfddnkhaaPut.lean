/-
  outbox.Put (21).
-/
import Derived.Test.YtbengmgfddnkhaaBox
namespace Go.Proofs.Ytbengmgfddnkhaa
open Go.RowKit
set_option maxRecDepth 100000 in
set_option maxHeartbeats 4000000 in
theorem put_any (r x : Int) (A : Option Addr) (l : List MsV) (c : Nat) (m : MsV) (w : World) (hr : OutR w.heap.size w A l) (hf : ∀ d ∈ l, d.few) (hlen : l.length ≤ 1000) (hm : m.rd w.heap.size w) (hmf : m.few) :
    Calls Try.prog 12 #[.agg #[.int .i64 r, .slice A l.length c, .int .i64 x], msv m] w fun e w' => ∃ b' : BxV, e = .returned (boxv b') ∧ b'.abs = putB (⟨r, A, l, c, x⟩ : BxV).abs m.abs ∧ b'.own w.heap.size w' ∧ Below w.heap.size w w' := by
  obtain ⟨i0, hi0, hz0, hz1, hz2⟩ := info_parts Try.info21Ms
  have b0 := Gw.al (Gw.al (Gw.al (Below.refl w.heap.size w) (.cells #[.int .i64 r, .slice A l.length c, .int .i64 x] 24)) (.cells (msA m) 39)) (.cells #[.int .i64 0, .slice none 0 0, .int .i64 0] 24)
  have G := ((Ob.new w #[.int .i64 r, .slice A l.length c, .int .i64 x] 24).alloc (.cells (msA m) 39)).alloc (.cells #[.int .i64 0, .slice none 0 0, .int .i64 0] 24)
  have M := (Ob.new (w.alloc (.cells #[.int .i64 r, .slice A l.length c, .int .i64 x] 24)) (msA m) 39).alloc (.cells #[.int .i64 0, .slice none 0 0, .int .i64 0] 24)
  have Z := Ob.new ((w.alloc (.cells #[.int .i64 r, .slice A l.length c, .int .i64 x] 24)).alloc (.cells (msA m) 39)) #[.int .i64 0, .slice none 0 0, .int .i64 0] 24
  simp only [World.size_alloc] at M Z
  have s0 : w.heap.size + 3 ≤ (((w.alloc (.cells #[.int .i64 r, .slice A l.length c, .int .i64 x] 24)).alloc (.cells (msA m) 39)).alloc (.cells #[.int .i64 0, .slice none 0 0, .int .i64 0] 24)).heap.size := by simp only [World.size_alloc]; omega
  have k1 := G.blk.2.1 1 _ rfl
  have n1 : w.heap.size + 1 ≠ w.heap.size := by omega
  have n2 : w.heap.size + 1 + 1 ≠ w.heap.size := by omega
  go_enter Try.func12, Try.ntmps12
  go_wp2_with fail
  refine (eachMs l A c _ (hr.up b0) hf (by omega)).mono ?_
  rintro e w1 ⟨A1, c1, ds, rfl, hds, o1, hb⟩
  replace b0 := Gw.call b0 hb
  replace G := G.call hb
  replace M := M.call hb
  replace Z := Z.call hb
  have s1 := Nat.le_trans s0 hb.size
  replace o1 := o1.base_le s0
  have HDS := Lib.hid hds
  have dl : ds.length = l.length := by have := congrArg List.length hds; simpa using this
  have HDL := Lib.hid dl
  clear hb k1 hds dl
  have gf := G.blk.2.2
  have k1 := G.blk.2.1 1 _ rfl
  have HG : w1.grownBy (w1.setCell ⟨w.heap.size, 1, none⟩ (.slice A1 l.length c1)) (some w.heap.size) := grown_set w1 ⟨w.heap.size, 1, none⟩ (.slice A1 l.length c1)
  replace G := G.set 1 (.slice A1 l.length c1)
  replace M := M.far (p := w.heap.size) (j := 1) n1 (.slice A1 l.length c1)
  replace Z := Z.far (p := w.heap.size) (j := 1) n2 (.slice A1 l.length c1)
  replace b0 := Gw.hop b0 HG (Nat.le_refl _)
  replace o1 := o1.hop HG (by omega)
  have sz : (w1.setCell ⟨w.heap.size, 1, none⟩ (.slice A1 l.length c1)).heap.size = w1.heap.size := Gw.setSize _ _ _
  rw [← sz] at s1
  clear HG sz
  have g0 := G.blk.2.1 0 _ rfl
  have g1 := G.blk.2.1 1 _ rfl
  by_cases hlt : (l.length : Int) < r
  · have t1 : decide ((l.length : Int) < r) = true := by simp [hlt]
    have HP := Lib.hid (put_yes (b := ⟨r, A, l, c, x⟩) (m := m) hlt)
    skip
    go_upto_region 3 with fail
    clear k1 gf g0
    generalize w1.setCell ⟨w.heap.size, 1, none⟩ (.slice A1 l.length c1) = w2 at *
    have bq := Below.refl w2.heap.size w2
    have CM := Lib.hid (fun W h => message_any m W h hmf)
    have HKL : Hid (l.length = ds.length) := Lib.hid HDL.out.symm
    have HB : Hid (∀ W, Below w2.heap.size w2 W → (fun W : World => ∀ j v, (msc m)[j]? = some v → W.cell? ⟨w.heap.size + 1, 0 + j, none⟩ = some v) W) := Lib.hid fun W hb => obM (M.call hb)
    refine wp_region_held_drew (S := fun W : World => ∀ j v, (msc m)[j]? = some v → W.cell? ⟨w.heap.size + 1, 0 + j, none⟩ = some v) (by kernel_rfl) (HB.out _ (Below.drew bq)) (fun hHeld => ?_)
    refine take_d (i := 0) (oi := _) (v := ?_) (d := some 15) rfl (by kernel_rfl) (by as_aux_lemma => kernel_rfl) (by as_aux_lemma => kernel_rfl) (by as_aux_lemma => kernel_rfl) (fun _ _ _ h => h) (Or.inl ⟨by kernel_rfl, ?_⟩) hHeld ?_
    rotate_left
    · intro w hSw; (try dsimp only at hSw); go_simp; (try with_reducible rfl)
    try simp only [Act.put, List.setIfInBounds_toArray, List.set_cons_zero, List.set_cons_succ]
    refine take_d (i := 2) (oi := _) (v := (.agg (msA m))) (d := some 17) rfl (by kernel_rfl) (by as_aux_lemma => kernel_rfl) (by as_aux_lemma => kernel_rfl) (by as_aux_lemma => kernel_rfl) (fun _ _ _ h => h) (yl_M m _ 0 (fun W h => h) (by kernel_rfl) _ rfl rfl) hHeld ?_
    try simp only [Act.put, List.setIfInBounds_toArray, List.set_cons_zero, List.set_cons_succ]
    refine wpAnyH_ready (rs := [1, 3]) (by kernel_rfl) (by simp) ?_
    refine AllReadyH.cons rfl (fun K hK => ?_) (AllReadyH.cons rfl (fun K hK => ?_) AllReadyH.nil)
    · skip
      have kk := (G.call (show Below w2.heap.size w2 _ from (by first | exact bq | exact Below.drew bq))).blk.2.1 1 _ rfl
      go_simp
      clear kk
      refine hK.out _ _ (HB.out _ (by first | exact bq | exact Below.drew bq)) (fun hHeld => ?_)
      clear hK K
      try simp only [Act.put, List.setIfInBounds_toArray, List.set_cons_zero, List.set_cons_succ]
      refine wpAnyH_ready (rs := [3]) (by kernel_rfl) (by simp) ?_
      refine AllReadyH.cons rfl (fun K hK => ?_) AllReadyH.nil
      go_simp
      refine (CM.out _ (hm.up (Gw.call b0 (Below.drew bq)))).mono ?_
      rintro e w3 ⟨y, rfl, hya, hyo, hb⟩
      have hy3 : w.heap.size + 3 ≤ w2.drew.heap.size := s1
      have hyo3 := hyo.base_le hy3
      replace bq := Gw.call (Below.drew bq) hb
      have HY := Lib.hid hya
      clear hb hya hyo
      refine hK.out _ _ (HB.out _ bq) (fun hHeld => ?_)
      clear hK K
      try simp only [Act.put, List.setIfInBounds_toArray, List.set_cons_zero, List.set_cons_succ]
      refine wpAnyH_ready (rs := [4]) (by kernel_rfl) (by simp) ?_
      refine AllReadyH.cons rfl (fun K hK => ?_) AllReadyH.nil
      refine step_bsM y rfl _ rfl rfl ?_
      have LT := Rd.litM w3 y
      have al4 := Below.alloc (Below.refl w3.heap.size w3) (Nat.le_refl _) (.cells (msA y) 39)
      have o4 := (o1.below bq).below al4
      have hyo4 := hyo3.below al4
      replace bq := Gw.call bq al4
      clear al4 hyo3
      refine hK.out _ _ (HB.out _ bq) (fun hHeld => ?_)
      clear hK K
      try simp only [Act.put, List.setIfInBounds_toArray, List.set_cons_zero, List.set_cons_succ]
      refine wpAnyH_ready (rs := [5]) (by kernel_rfl) (by simp) ?_
      refine AllReadyH.cons rfl (fun K hK => ?_) AllReadyH.nil
      refine step_app rfl _ _ _ _ rfl (w.heap.size + 3) 39 i0 _ 176 Try.underlying22 hi0 hz0 hz1 hz2 rfl (by omega) msc_len msc_one (.slice A1 l.length c1) ds rfl o4.out l.length HKL.out _ _ 1 1 [y] rfl rfl LT (by omega) (by omega) (by have := bq.size; omega) ?_
      intro A5 c5 w5 o5 hg
      have o6 := o4.snoc hg o5 hyo4
      have G5 := (G.call bq).hopO o4.out hg (by omega)
      have M5 := (M.call bq).hopO o4.out hg (by omega)
      have Z5 := (Z.call bq).hopO o4.out hg (by omega)
      have b5 := Gw.gr (Gw.call b0 bq) hg (fun k hk => by have := Own.lt o4.out k hk; omega)
      clear LT o4 hyo4 bq
      refine hK.out _ _ (obM M5) (fun hHeld => ?_)
      clear hK K
      try simp only [Act.put, List.setIfInBounds_toArray, List.set_cons_zero, List.set_cons_succ]
      refine take_d (i := 6) (oi := _) (v := ?_) (d := some 21) rfl (by kernel_rfl) (by as_aux_lemma => kernel_rfl) (by as_aux_lemma => kernel_rfl) (by as_aux_lemma => kernel_rfl) (fun _ _ _ h => h) (Or.inl ⟨by kernel_rfl, ?_⟩) hHeld ?_
      rotate_left
      · intro w hSw; (try dsimp only at hSw); go_simp; (try with_reducible rfl)
      try simp only [Act.put, List.setIfInBounds_toArray, List.set_cons_zero, List.set_cons_succ]
      refine wpAnyH_ready (rs := [7]) (by kernel_rfl) (by simp) ?_
      refine AllReadyH.cons rfl (fun K hK => ?_) AllReadyH.nil
      have k5 := G5.blk.2.1 1 _ rfl
      have f5 := G5.blk.2.2
      go_simp
      clear k5 f5
      refine hK.out _ _ (obM (M5.far (p := w.heap.size) (j := 1) n1 _)) (fun hHeld => ?_)
      clear hK K
      try simp only [Act.put, List.setIfInBounds_toArray, List.set_cons_zero, List.set_cons_succ]
      refine wpAnyH_done (by kernel_rfl) ?_ _
      have HG : w5.grownBy (w5.setCell ⟨w.heap.size, 1, none⟩ (.slice A5 (l.length + 1) c5)) (some w.heap.size) := grown_set w5 ⟨w.heap.size, 1, none⟩ (.slice A5 (l.length + 1) c5)
      have G6 := G5.set 1 (.slice A5 (l.length + 1) c5)
      have Z6 := Z5.far (p := w.heap.size) (j := 1) n2 (.slice A5 (l.length + 1) c5)
      have b6 := Gw.hop b5 HG (Nat.le_refl _)
      have o7 := o6.hop HG (by omega)
      clear HB CM hHeld HG G5 M5 Z5 b5 o6 g1
      have q1 : (#[.int .i64 r, .slice A5 (l.length + 1) c5, .int .i64 x] : Array Value).size = 3 := rfl
      have q2 : (#[.int .i64 r, .slice A5 (l.length + 1) c5, .int .i64 x] : Array Value).all (·.oneCell') = true := box_one _ _ _ _ _
      have q3 : (#[.int .i64 0, .slice none 0 0, .int .i64 0] : Array Value).size = 3 := rfl
      replace G6 : Ob (w5.setCell ⟨w.heap.size, 1, none⟩ (.slice A5 (l.length + 1) c5)) w.heap.size #[.int .i64 r, .slice A5 (l.length + 1) c5, .int .i64 x] 24 := G6
      go_wp2_with (first | (with_reducible refine ldB #[.int .i64 r, .slice A5 (l.length + 1) c5, .int .i64 x] _ G6 q1 rfl _ rfl rfl ?_) | (with_reducible refine stB #[.int .i64 r, .slice A5 (l.length + 1) c5, .int .i64 x] _ _ Z6 q3 q1 q2 rfl _ _ rfl rfl rfl ?_) | fail)
      (try simp only [Exit.inBlock, Exit.then])
      have Z2 := Z6.setRow #[.int .i64 r, .slice A5 (l.length + 1) c5, .int .i64 x]
      have hop := setRow_grown (w5.setCell ⟨w.heap.size, 1, none⟩ (.slice A5 (l.length + 1) c5)) (w.heap.size + 1 + 1) #[.int .i64 r, .slice A5 (l.length + 1) c5, .int .i64 x]
      refine bodyPost_ret (v := .agg #[.int .i64 r, .slice A5 (l.length + 1) c5, .int .i64 x]) (results_cell_row rfl _ _ (w.heap.size + 1 + 1) 24 #[.int .i64 r, .slice A5 (l.length + 1) c5, .int .i64 x] (0, 0) _ rfl Z2 Try.underlying24 rfl Try.size21Bx) rfl ⟨⟨r, A5, ds ++ [y], c5, x⟩, by show _ = Ending.returned (.agg #[_, .slice A5 (ds ++ [y]).length c5, _]); rw [List.length_append, HDL.out]; rfl, by rw [HP.out]; show Bx.mk _ _ _ = _; rw [List.map_append, HDS.out, List.map_cons, HY.out]; rfl, by show OutX _ _ (.slice A5 (ds ++ [y]).length c5) _; rw [List.length_append, HDL.out]; exact (o7.hop hop (by omega)).base_le (by omega), Gw.hop b6 hop (by omega)⟩
    · skip
      go_simp
      refine (CM.out _ (hm.up (Gw.call b0 (Below.drew bq)))).mono ?_
      rintro e w3 ⟨y, rfl, hya, hyo, hb⟩
      have hy3 : w.heap.size + 3 ≤ w2.drew.heap.size := s1
      have hyo3 := hyo.base_le hy3
      replace bq := Gw.call (Below.drew bq) hb
      have HY := Lib.hid hya
      clear hb hya hyo
      refine hK.out _ _ (HB.out _ bq) (fun hHeld => ?_)
      clear hK K
      try simp only [Act.put, List.setIfInBounds_toArray, List.set_cons_zero, List.set_cons_succ]
      refine wpAnyH_ready (rs := [1, 4]) (by kernel_rfl) (by simp) ?_
      refine AllReadyH.cons rfl (fun K hK => ?_) (AllReadyH.cons rfl (fun K hK => ?_) AllReadyH.nil)
      · skip
        have kk := (G.call (show Below w2.heap.size w2 _ from (by first | exact bq | exact Below.drew bq))).blk.2.1 1 _ rfl
        go_simp
        clear kk
        refine hK.out _ _ (HB.out _ (by first | exact bq | exact Below.drew bq)) (fun hHeld => ?_)
        clear hK K
        try simp only [Act.put, List.setIfInBounds_toArray, List.set_cons_zero, List.set_cons_succ]
        refine wpAnyH_ready (rs := [4]) (by kernel_rfl) (by simp) ?_
        refine AllReadyH.cons rfl (fun K hK => ?_) AllReadyH.nil
        refine step_bsM y rfl _ rfl rfl ?_
        have LT := Rd.litM w3 y
        have al4 := Below.alloc (Below.refl w3.heap.size w3) (Nat.le_refl _) (.cells (msA y) 39)
        have o4 := (o1.below bq).below al4
        have hyo4 := hyo3.below al4
        replace bq := Gw.call bq al4
        clear al4 hyo3
        refine hK.out _ _ (HB.out _ bq) (fun hHeld => ?_)
        clear hK K
        try simp only [Act.put, List.setIfInBounds_toArray, List.set_cons_zero, List.set_cons_succ]
        refine wpAnyH_ready (rs := [5]) (by kernel_rfl) (by simp) ?_
        refine AllReadyH.cons rfl (fun K hK => ?_) AllReadyH.nil
        refine step_app rfl _ _ _ _ rfl (w.heap.size + 3) 39 i0 _ 176 Try.underlying22 hi0 hz0 hz1 hz2 rfl (by omega) msc_len msc_one (.slice A1 l.length c1) ds rfl o4.out l.length HKL.out _ _ 1 1 [y] rfl rfl LT (by omega) (by omega) (by have := bq.size; omega) ?_
        intro A5 c5 w5 o5 hg
        have o6 := o4.snoc hg o5 hyo4
        have G5 := (G.call bq).hopO o4.out hg (by omega)
        have M5 := (M.call bq).hopO o4.out hg (by omega)
        have Z5 := (Z.call bq).hopO o4.out hg (by omega)
        have b5 := Gw.gr (Gw.call b0 bq) hg (fun k hk => by have := Own.lt o4.out k hk; omega)
        clear LT o4 hyo4 bq
        refine hK.out _ _ (obM M5) (fun hHeld => ?_)
        clear hK K
        try simp only [Act.put, List.setIfInBounds_toArray, List.set_cons_zero, List.set_cons_succ]
        refine take_d (i := 6) (oi := _) (v := ?_) (d := some 21) rfl (by kernel_rfl) (by as_aux_lemma => kernel_rfl) (by as_aux_lemma => kernel_rfl) (by as_aux_lemma => kernel_rfl) (fun _ _ _ h => h) (Or.inl ⟨by kernel_rfl, ?_⟩) hHeld ?_
        rotate_left
        · intro w hSw; (try dsimp only at hSw); go_simp; (try with_reducible rfl)
        try simp only [Act.put, List.setIfInBounds_toArray, List.set_cons_zero, List.set_cons_succ]
        refine wpAnyH_ready (rs := [7]) (by kernel_rfl) (by simp) ?_
        refine AllReadyH.cons rfl (fun K hK => ?_) AllReadyH.nil
        have k5 := G5.blk.2.1 1 _ rfl
        have f5 := G5.blk.2.2
        go_simp
        clear k5 f5
        refine hK.out _ _ (obM (M5.far (p := w.heap.size) (j := 1) n1 _)) (fun hHeld => ?_)
        clear hK K
        try simp only [Act.put, List.setIfInBounds_toArray, List.set_cons_zero, List.set_cons_succ]
        refine wpAnyH_done (by kernel_rfl) ?_ _
        have HG : w5.grownBy (w5.setCell ⟨w.heap.size, 1, none⟩ (.slice A5 (l.length + 1) c5)) (some w.heap.size) := grown_set w5 ⟨w.heap.size, 1, none⟩ (.slice A5 (l.length + 1) c5)
        have G6 := G5.set 1 (.slice A5 (l.length + 1) c5)
        have Z6 := Z5.far (p := w.heap.size) (j := 1) n2 (.slice A5 (l.length + 1) c5)
        have b6 := Gw.hop b5 HG (Nat.le_refl _)
        have o7 := o6.hop HG (by omega)
        clear HB CM hHeld HG G5 M5 Z5 b5 o6 g1
        have q1 : (#[.int .i64 r, .slice A5 (l.length + 1) c5, .int .i64 x] : Array Value).size = 3 := rfl
        have q2 : (#[.int .i64 r, .slice A5 (l.length + 1) c5, .int .i64 x] : Array Value).all (·.oneCell') = true := box_one _ _ _ _ _
        have q3 : (#[.int .i64 0, .slice none 0 0, .int .i64 0] : Array Value).size = 3 := rfl
        replace G6 : Ob (w5.setCell ⟨w.heap.size, 1, none⟩ (.slice A5 (l.length + 1) c5)) w.heap.size #[.int .i64 r, .slice A5 (l.length + 1) c5, .int .i64 x] 24 := G6
        go_wp2_with (first | (with_reducible refine ldB #[.int .i64 r, .slice A5 (l.length + 1) c5, .int .i64 x] _ G6 q1 rfl _ rfl rfl ?_) | (with_reducible refine stB #[.int .i64 r, .slice A5 (l.length + 1) c5, .int .i64 x] _ _ Z6 q3 q1 q2 rfl _ _ rfl rfl rfl ?_) | fail)
        (try simp only [Exit.inBlock, Exit.then])
        have Z2 := Z6.setRow #[.int .i64 r, .slice A5 (l.length + 1) c5, .int .i64 x]
        have hop := setRow_grown (w5.setCell ⟨w.heap.size, 1, none⟩ (.slice A5 (l.length + 1) c5)) (w.heap.size + 1 + 1) #[.int .i64 r, .slice A5 (l.length + 1) c5, .int .i64 x]
        refine bodyPost_ret (v := .agg #[.int .i64 r, .slice A5 (l.length + 1) c5, .int .i64 x]) (results_cell_row rfl _ _ (w.heap.size + 1 + 1) 24 #[.int .i64 r, .slice A5 (l.length + 1) c5, .int .i64 x] (0, 0) _ rfl Z2 Try.underlying24 rfl Try.size21Bx) rfl ⟨⟨r, A5, ds ++ [y], c5, x⟩, by show _ = Ending.returned (.agg #[_, .slice A5 (ds ++ [y]).length c5, _]); rw [List.length_append, HDL.out]; rfl, by rw [HP.out]; show Bx.mk _ _ _ = _; rw [List.map_append, HDS.out, List.map_cons, HY.out]; rfl, by show OutX _ _ (.slice A5 (ds ++ [y]).length c5) _; rw [List.length_append, HDL.out]; exact (o7.hop hop (by omega)).base_le (by omega), Gw.hop b6 hop (by omega)⟩
      · skip
        refine step_bsM y rfl _ rfl rfl ?_
        have LT := Rd.litM w3 y
        have al4 := Below.alloc (Below.refl w3.heap.size w3) (Nat.le_refl _) (.cells (msA y) 39)
        have o4 := (o1.below bq).below al4
        have hyo4 := hyo3.below al4
        replace bq := Gw.call bq al4
        clear al4 hyo3
        refine hK.out _ _ (HB.out _ bq) (fun hHeld => ?_)
        clear hK K
        try simp only [Act.put, List.setIfInBounds_toArray, List.set_cons_zero, List.set_cons_succ]
        refine wpAnyH_ready (rs := [1]) (by kernel_rfl) (by simp) ?_
        refine AllReadyH.cons rfl (fun K hK => ?_) AllReadyH.nil
        have kk := (G.call (show Below w2.heap.size w2 _ from (by first | exact bq | exact Below.drew bq))).blk.2.1 1 _ rfl
        go_simp
        clear kk
        refine hK.out _ _ (HB.out _ (by first | exact bq | exact Below.drew bq)) (fun hHeld => ?_)
        clear hK K
        try simp only [Act.put, List.setIfInBounds_toArray, List.set_cons_zero, List.set_cons_succ]
        refine wpAnyH_ready (rs := [5]) (by kernel_rfl) (by simp) ?_
        refine AllReadyH.cons rfl (fun K hK => ?_) AllReadyH.nil
        refine step_app rfl _ _ _ _ rfl (w.heap.size + 3) 39 i0 _ 176 Try.underlying22 hi0 hz0 hz1 hz2 rfl (by omega) msc_len msc_one (.slice A1 l.length c1) ds rfl o4.out l.length HKL.out _ _ 1 1 [y] rfl rfl LT (by omega) (by omega) (by have := bq.size; omega) ?_
        intro A5 c5 w5 o5 hg
        have o6 := o4.snoc hg o5 hyo4
        have G5 := (G.call bq).hopO o4.out hg (by omega)
        have M5 := (M.call bq).hopO o4.out hg (by omega)
        have Z5 := (Z.call bq).hopO o4.out hg (by omega)
        have b5 := Gw.gr (Gw.call b0 bq) hg (fun k hk => by have := Own.lt o4.out k hk; omega)
        clear LT o4 hyo4 bq
        refine hK.out _ _ (obM M5) (fun hHeld => ?_)
        clear hK K
        try simp only [Act.put, List.setIfInBounds_toArray, List.set_cons_zero, List.set_cons_succ]
        refine take_d (i := 6) (oi := _) (v := ?_) (d := some 21) rfl (by kernel_rfl) (by as_aux_lemma => kernel_rfl) (by as_aux_lemma => kernel_rfl) (by as_aux_lemma => kernel_rfl) (fun _ _ _ h => h) (Or.inl ⟨by kernel_rfl, ?_⟩) hHeld ?_
        rotate_left
        · intro w hSw; (try dsimp only at hSw); go_simp; (try with_reducible rfl)
        try simp only [Act.put, List.setIfInBounds_toArray, List.set_cons_zero, List.set_cons_succ]
        refine wpAnyH_ready (rs := [7]) (by kernel_rfl) (by simp) ?_
        refine AllReadyH.cons rfl (fun K hK => ?_) AllReadyH.nil
        have k5 := G5.blk.2.1 1 _ rfl
        have f5 := G5.blk.2.2
        go_simp
        clear k5 f5
        refine hK.out _ _ (obM (M5.far (p := w.heap.size) (j := 1) n1 _)) (fun hHeld => ?_)
        clear hK K
        try simp only [Act.put, List.setIfInBounds_toArray, List.set_cons_zero, List.set_cons_succ]
        refine wpAnyH_done (by kernel_rfl) ?_ _
        have HG : w5.grownBy (w5.setCell ⟨w.heap.size, 1, none⟩ (.slice A5 (l.length + 1) c5)) (some w.heap.size) := grown_set w5 ⟨w.heap.size, 1, none⟩ (.slice A5 (l.length + 1) c5)
        have G6 := G5.set 1 (.slice A5 (l.length + 1) c5)
        have Z6 := Z5.far (p := w.heap.size) (j := 1) n2 (.slice A5 (l.length + 1) c5)
        have b6 := Gw.hop b5 HG (Nat.le_refl _)
        have o7 := o6.hop HG (by omega)
        clear HB CM hHeld HG G5 M5 Z5 b5 o6 g1
        have q1 : (#[.int .i64 r, .slice A5 (l.length + 1) c5, .int .i64 x] : Array Value).size = 3 := rfl
        have q2 : (#[.int .i64 r, .slice A5 (l.length + 1) c5, .int .i64 x] : Array Value).all (·.oneCell') = true := box_one _ _ _ _ _
        have q3 : (#[.int .i64 0, .slice none 0 0, .int .i64 0] : Array Value).size = 3 := rfl
        replace G6 : Ob (w5.setCell ⟨w.heap.size, 1, none⟩ (.slice A5 (l.length + 1) c5)) w.heap.size #[.int .i64 r, .slice A5 (l.length + 1) c5, .int .i64 x] 24 := G6
        go_wp2_with (first | (with_reducible refine ldB #[.int .i64 r, .slice A5 (l.length + 1) c5, .int .i64 x] _ G6 q1 rfl _ rfl rfl ?_) | (with_reducible refine stB #[.int .i64 r, .slice A5 (l.length + 1) c5, .int .i64 x] _ _ Z6 q3 q1 q2 rfl _ _ rfl rfl rfl ?_) | fail)
        (try simp only [Exit.inBlock, Exit.then])
        have Z2 := Z6.setRow #[.int .i64 r, .slice A5 (l.length + 1) c5, .int .i64 x]
        have hop := setRow_grown (w5.setCell ⟨w.heap.size, 1, none⟩ (.slice A5 (l.length + 1) c5)) (w.heap.size + 1 + 1) #[.int .i64 r, .slice A5 (l.length + 1) c5, .int .i64 x]
        refine bodyPost_ret (v := .agg #[.int .i64 r, .slice A5 (l.length + 1) c5, .int .i64 x]) (results_cell_row rfl _ _ (w.heap.size + 1 + 1) 24 #[.int .i64 r, .slice A5 (l.length + 1) c5, .int .i64 x] (0, 0) _ rfl Z2 Try.underlying24 rfl Try.size21Bx) rfl ⟨⟨r, A5, ds ++ [y], c5, x⟩, by show _ = Ending.returned (.agg #[_, .slice A5 (ds ++ [y]).length c5, _]); rw [List.length_append, HDL.out]; rfl, by rw [HP.out]; show Bx.mk _ _ _ = _; rw [List.map_append, HDS.out, List.map_cons, HY.out]; rfl, by show OutX _ _ (.slice A5 (ds ++ [y]).length c5) _; rw [List.length_append, HDL.out]; exact (o7.hop hop (by omega)).base_le (by omega), Gw.hop b6 hop (by omega)⟩
  · have t1 : decide ((l.length : Int) < r) = false := by simp; omega
    have HP := Lib.hid (put_no (b := ⟨r, A, l, c, x⟩) (m := m) hlt)
    skip
    go_upto_region 4 with fail
    clear k1 gf
    generalize w1.setCell ⟨w.heap.size, 1, none⟩ (.slice A1 l.length c1) = w2 at *
    have g2 := G.blk.2.1 2 _ rfl
    have gf := G.blk.2.2
    obtain ⟨x', hx'⟩ : ∃ x', x' = wrap64 (x + 1) := ⟨_, rfl⟩
    rw [← hx'] at HP
    have HX := Lib.hid hx'
    clear hx'
    go_upto_region 5 with fail
    rw [← HX.out]
    have HG : w2.grownBy (w2.setCell ⟨w.heap.size, 2, none⟩ (.int .i64 x')) (some w.heap.size) := grown_set w2 ⟨w.heap.size, 2, none⟩ (.int .i64 x')
    have G6 := G.set 2 (.int .i64 x')
    have Z6 := Z.far (p := w.heap.size) (j := 2) n2 (.int .i64 x')
    have b6 := Gw.hop b0 HG (Nat.le_refl _)
    have o7 := o1.hop HG (by omega)
    clear HG g0 g1 g2 gf
    have q1 : (#[.int .i64 r, .slice A1 l.length c1, .int .i64 x'] : Array Value).size = 3 := rfl
    have q2 : (#[.int .i64 r, .slice A1 l.length c1, .int .i64 x'] : Array Value).all (·.oneCell') = true := box_one _ _ _ _ _
    have q3 : (#[.int .i64 0, .slice none 0 0, .int .i64 0] : Array Value).size = 3 := rfl
    replace G6 : Ob (w2.setCell ⟨w.heap.size, 2, none⟩ (.int .i64 x')) w.heap.size #[.int .i64 r, .slice A1 l.length c1, .int .i64 x'] 24 := G6
    go_wp2_with (first | (with_reducible refine ldB #[.int .i64 r, .slice A1 l.length c1, .int .i64 x'] _ G6 q1 rfl _ rfl rfl ?_) | (with_reducible refine stB #[.int .i64 r, .slice A1 l.length c1, .int .i64 x'] _ _ Z6 q3 q1 q2 rfl _ _ rfl rfl rfl ?_) | fail)
    (try simp only [Exit.inBlock, Exit.then])
    have Z2 := Z6.setRow #[.int .i64 r, .slice A1 l.length c1, .int .i64 x']
    have hop := setRow_grown (w2.setCell ⟨w.heap.size, 2, none⟩ (.int .i64 x')) (w.heap.size + 1 + 1) #[.int .i64 r, .slice A1 l.length c1, .int .i64 x']
    refine bodyPost_ret (v := .agg #[.int .i64 r, .slice A1 l.length c1, .int .i64 x']) (results_cell_row rfl _ _ (w.heap.size + 1 + 1) 24 #[.int .i64 r, .slice A1 l.length c1, .int .i64 x'] (0, 0) _ rfl Z2 Try.underlying24 rfl Try.size21Bx) rfl ⟨⟨r, A1, ds, c1, x'⟩, by show _ = Ending.returned (.agg #[_, .slice A1 ds.length c1, _]); rw [HDL.out], by rw [HP.out]; show Bx.mk _ _ _ = _; rw [HDS.out], by show OutX _ _ (.slice A1 ds.length c1) _; rw [HDL.out]; exact (o7.hop hop (by omega)).base_le (by omega), Gw.hop b6 hop (by omega)⟩
end Go.Proofs.Ytbengmgfddnkhaa
