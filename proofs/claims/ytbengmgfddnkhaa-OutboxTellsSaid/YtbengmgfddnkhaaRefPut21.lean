/-
  The document's own Put and Take (21).
-/
import Derived.Test.YtbengmgfddnkhaaFrom21
namespace Go.Proofs.Ytbengmgfddnkhaa
open Go.RowKit
theorem MsV.own.farB {base : Nat} {W : World} {m : MsV} {p j : Nat} {cs : Array Value} {u : Value} (h : m.own base W) (hO : Ob W p cs 24) : m.own base (W.setCell ⟨p, j, none⟩ u) :=
  ⟨Own.far h.L (hO.row_ne h.L (by decide)) u, fun d hd => Own.far (h.F d hd) (hO.row_ne (h.F d hd) (by decide)) u, Own.far h.T (hO.row_ne h.T (by decide)) u, Own.far h.V (hO.row_ne h.V (by decide)) u, Own.far h.D (hO.row_ne h.D (by decide)) u, Own.far h.M (hO.row_ne h.M (by decide)) u, Own.far h.I (hO.row_ne h.I (by decide)) u⟩
theorem OutX.farB {base : Nat} {W : World} {v : Value} {l : List MsV} {p j : Nat} {cs : Array Value} {u : Value} (h : OutX base W v l) (hO : Ob W p cs 24) : OutX base (W.setCell ⟨p, j, none⟩ u) v l :=
  ⟨Own.far h.out (hO.row_ne h.out (by decide)) u, fun m hm => (h.row m hm).farB hO⟩
theorem fromx_any (r x : Int) (A : Option Addr) (l : List MsV) (c at_ n k : Nat) (w : World) (hr : OutR w.heap.size w A l) (hf : ∀ d ∈ l, d.few) (hlen : l.length ≤ 1000) (hat : at_ ≤ l.length) (hk : l.length = k) (hn : n = k - at_) :
    Calls Try.prog 20 #[bxa r A k c x, .int .i64 at_] w fun e w' => ∃ A' c' t, e = .returned (bxa r A' n c' x) ∧ t.map MsV.abs = (l.drop at_).map MsV.abs ∧ OutX w.heap.size w' (.slice A' n c') t ∧ Below w.heap.size w w' := by
  subst hk
  refine (from_any r x A l c at_ w hr hf hlen hat).mono ?_
  rintro e w' ⟨⟨r2, A2, l2, c2, x2⟩, rfl, hab, hown, hb⟩
  have hab' : (⟨r2, l2.map MsV.abs, x2⟩ : Bx) = ⟨r, (l.drop at_).map MsV.abs, x⟩ := hab
  injection hab' with e1 e2 e3
  subst e1 e3
  have hl : l2.length = n := by have := congrArg List.length e2; simp only [List.length_map, List.length_drop] at this; omega
  rw [BxV.own] at hown
  simp only [hl] at hown
  exact ⟨A2, c2, l2, by rw [← hl], e2, hown, hb⟩
set_option maxRecDepth 100000 in
set_option maxHeartbeats 4000000 in
theorem refput_any (r x : Int) (A : Option Addr) (l : List MsV) (c : Nat) (m : MsV) (w : World) (hr : OutR w.heap.size w A l) (hf : ∀ d ∈ l, d.few) (hlen : l.length ≤ 1000) (hm : m.rd w.heap.size w) (hmf : m.few) :
    Calls Try.prog 13 #[.agg #[.int .i64 r, .slice A l.length c, .int .i64 x], msv m] w fun e w' => ∃ b' : BxV, e = .returned (boxv b') ∧ b'.abs = putB (⟨r, A, l, c, x⟩ : BxV).abs m.abs ∧ b'.own w.heap.size w' ∧ Below w.heap.size w w' := by
  obtain ⟨i0, hi0, hz0, hz1, hz2⟩ := info_parts Try.info21Ms
  have b0 := Gw.al (Gw.al (Gw.al (Below.refl w.heap.size w) (.cells #[.int .i64 r, .slice A l.length c, .int .i64 x] 24)) (.cells (msA m) 39)) (.cells #[.int .i64 0, .slice none 0 0, .int .i64 0] 24)
  have G := ((Ob.new w #[.int .i64 r, .slice A l.length c, .int .i64 x] 24).alloc (.cells (msA m) 39)).alloc (.cells #[.int .i64 0, .slice none 0 0, .int .i64 0] 24)
  have M := (Ob.new (w.alloc (.cells #[.int .i64 r, .slice A l.length c, .int .i64 x] 24)) (msA m) 39).alloc (.cells #[.int .i64 0, .slice none 0 0, .int .i64 0] 24)
  have Z := Ob.new ((w.alloc (.cells #[.int .i64 r, .slice A l.length c, .int .i64 x] 24)).alloc (.cells (msA m) 39)) #[.int .i64 0, .slice none 0 0, .int .i64 0] 24
  simp only [World.size_alloc] at M Z
  have s0 : w.heap.size + 3 ≤ (((w.alloc (.cells #[.int .i64 r, .slice A l.length c, .int .i64 x] 24)).alloc (.cells (msA m) 39)).alloc (.cells #[.int .i64 0, .slice none 0 0, .int .i64 0] 24)).heap.size := by simp only [World.size_alloc]; omega
  have k0 := G.blk.2.1 0 _ rfl
  have k1 := G.blk.2.1 1 _ rfl
  have k2 := G.blk.2.1 2 _ rfl
  have CFR := Lib.hid (fun W h => fromx_any r x A l c 0 l.length l.length W h hf hlen (Nat.zero_le _) rfl rfl)
  go_enter Try.func13, Try.ntmps13
  go_wp2_with fail
  refine (CFR.out _ (hr.up b0)).mono ?_
  rintro e w1 ⟨A1, c1, ds, rfl, hds, o1, hb⟩
  rw [List.drop_zero] at hds
  have HDS := Lib.hid hds
  have dl : ds.length = l.length := by have := congrArg List.length hds; simpa using this
  have HDL := Lib.hid dl
  have o1c := o1.base_le s0
  have b1c := Gw.call b0 hb
  have Z1c := Z.call hb
  replace o1 := (o1.base_le s0).below (Below.alloc (Below.refl _ _) (Nat.le_refl _) (.cells #[.int .i64 r, .slice A1 l.length c1, .int .i64 x] 24))
  replace b0 := Gw.al (Gw.call b0 hb) (.cells #[.int .i64 r, .slice A1 l.length c1, .int .i64 x] 24)
  replace G := (G.call hb).alloc (.cells #[.int .i64 r, .slice A1 l.length c1, .int .i64 x] 24)
  replace M := (M.call hb).alloc (.cells #[.int .i64 r, .slice A1 l.length c1, .int .i64 x] 24)
  replace Z := (Z.call hb).alloc (.cells #[.int .i64 r, .slice A1 l.length c1, .int .i64 x] 24)
  have H := Ob.new w1 #[.int .i64 r, .slice A1 l.length c1, .int .i64 x] 24
  have s1 := Nat.le_trans s0 hb.size
  have s2 : w.heap.size + 3 ≤ (w1.alloc (.cells #[.int .i64 r, .slice A1 l.length c1, .int .i64 x] 24)).heap.size := by rw [World.size_alloc]; omega
  have hgw : w.heap.size ≤ w1.heap.size := by omega
  have nz : w.heap.size + 1 + 1 ≠ w1.heap.size := by omega
  have nm : w.heap.size + 1 ≠ w1.heap.size := by omega
  clear hb k0 k1 k2 hds dl CFR s0
  have k0 := G.blk.2.1 0 _ rfl
  have k1 := G.blk.2.1 1 _ rfl
  by_cases hlt : (l.length : Int) < r
  · have t1 : decide ((l.length : Int) < r) = true := by simp [hlt]
    have HP := Lib.hid (put_yes (b := ⟨r, A, l, c, x⟩) (m := m) hlt)
    go_upto_region 3 with fail
    clear k0 k1
    generalize hgh : w1.heap.size = gh at *
    generalize w1.alloc (.cells #[.int .i64 r, .slice A1 l.length c1, .int .i64 x] 24) = w2 at *
    have bq := Below.refl w2.heap.size w2
    have CM := Lib.hid (fun W h => refmsg_any m W h hmf)
    have HKL : Hid (l.length = ds.length) := Lib.hid HDL.out.symm
    have HB : Hid (∀ W, Below w2.heap.size w2 W → (fun W : World => ∀ j v, (msc m)[j]? = some v → W.cell? ⟨w.heap.size + 1, 0 + j, none⟩ = some v) W) := Lib.hid fun W hb => obM (M.call hb)
    refine wp_region_held_drew (S := fun W : World => ∀ j v, (msc m)[j]? = some v → W.cell? ⟨w.heap.size + 1, 0 + j, none⟩ = some v) (by kernel_rfl) (HB.out _ (Below.drew bq)) (fun hHeld => ?_)
    refine take_d (i := 0) (oi := _) (v := ?_) (d := some 14) rfl (by kernel_rfl) (by as_aux_lemma => kernel_rfl) (by as_aux_lemma => kernel_rfl) (by as_aux_lemma => kernel_rfl) (fun _ _ _ h => h) (Or.inl ⟨by kernel_rfl, ?_⟩) hHeld ?_
    rotate_left
    · intro w hSw; (try dsimp only at hSw); go_simp; (try with_reducible rfl)
    try simp only [Act.put, List.setIfInBounds_toArray, List.set_cons_zero, List.set_cons_succ]
    refine take_d (i := 2) (oi := _) (v := (.agg (msA m))) (d := some 16) rfl (by kernel_rfl) (by as_aux_lemma => kernel_rfl) (by as_aux_lemma => kernel_rfl) (by as_aux_lemma => kernel_rfl) (fun _ _ _ h => h) (yl_M m _ 0 (fun W h => h) (by kernel_rfl) _ rfl rfl) hHeld ?_
    try simp only [Act.put, List.setIfInBounds_toArray, List.set_cons_zero, List.set_cons_succ]
    refine wpAnyH_ready (rs := [1, 3]) (by kernel_rfl) (by simp) ?_
    refine AllReadyH.cons rfl (fun K hK => ?_) (AllReadyH.cons rfl (fun K hK => ?_) AllReadyH.nil)
    · skip
      have kk := (H.call (show Below w2.heap.size w2 _ from (by first | exact bq | exact Below.drew bq))).blk.2.1 1 _ rfl
      go_simp
      clear kk
      refine hK.out _ _ (HB.out _ (by first | exact bq | exact Below.drew bq)) (fun hHeld => ?_)
      clear hK K
      try simp only [Act.put, List.setIfInBounds_toArray, List.set_cons_zero, List.set_cons_succ]
      refine wpAnyH_ready (rs := [3]) (by kernel_rfl) (by simp) ?_
      refine AllReadyH.cons rfl (fun K hK => ?_) AllReadyH.nil
      go_simp
      refine (CM.out _ (hm.up (Gw.call b0 (Below.drew bq)))).mono ?_
      rintro e w3 ⟨y, rfl, hya, hyo, hb⟩
      have hy3 : w.heap.size + 3 ≤ w2.drew.heap.size := s2
      have hyo3 := hyo.base_le hy3
      replace bq := Gw.call (Below.drew bq) hb
      have HY := Lib.hid hya
      clear hb hya hyo
      refine hK.out _ _ (HB.out _ bq) (fun hHeld => ?_)
      clear hK K
      try simp only [Act.put, List.setIfInBounds_toArray, List.set_cons_zero, List.set_cons_succ]
      refine wpAnyH_ready (rs := [4]) (by kernel_rfl) (by simp) ?_
      refine AllReadyH.cons rfl (fun K hK => ?_) AllReadyH.nil
      refine step_bsM y rfl _ rfl rfl ?_
      have LT := Rd.litM w3 y
      have al4 := Below.alloc (Below.refl w3.heap.size w3) (Nat.le_refl _) (.cells (msA y) 39)
      have o4 := (o1.below bq).below al4
      have hyo4 := hyo3.below al4
      replace bq := Gw.call bq al4
      clear al4 hyo3
      refine hK.out _ _ (HB.out _ bq) (fun hHeld => ?_)
      clear hK K
      try simp only [Act.put, List.setIfInBounds_toArray, List.set_cons_zero, List.set_cons_succ]
      refine wpAnyH_ready (rs := [5]) (by kernel_rfl) (by simp) ?_
      refine AllReadyH.cons rfl (fun K hK => ?_) AllReadyH.nil
      refine step_app rfl _ _ _ _ rfl (w.heap.size + 3) 39 i0 _ 176 Try.underlying22 hi0 hz0 hz1 hz2 rfl (by omega) msc_len msc_one (.slice A1 l.length c1) ds rfl o4.out l.length HKL.out _ _ 1 1 [y] rfl rfl LT (by omega) (by omega) (by have := bq.size; omega) ?_
      intro A5 c5 w5 o5 hg
      have o6 := o4.snoc hg o5 hyo4
      have H5 := (H.call bq).app o4.out hg (by decide)
      have M5 := (M.call bq).hopO o4.out hg (by omega)
      have Z5 := (Z.call bq).hopO o4.out hg (by omega)
      have b5 := Gw.gr (Gw.call b0 bq) hg (fun k hk => by have := Own.lt o4.out k hk; omega)
      clear LT o4 hyo4 bq
      refine hK.out _ _ (obM M5) (fun hHeld => ?_)
      clear hK K
      try simp only [Act.put, List.setIfInBounds_toArray, List.set_cons_zero, List.set_cons_succ]
      refine take_d (i := 6) (oi := _) (v := ?_) (d := some 20) rfl (by kernel_rfl) (by as_aux_lemma => kernel_rfl) (by as_aux_lemma => kernel_rfl) (by as_aux_lemma => kernel_rfl) (fun _ _ _ h => h) (Or.inl ⟨by kernel_rfl, ?_⟩) hHeld ?_
      rotate_left
      · intro w hSw; (try dsimp only at hSw); go_simp; (try with_reducible rfl)
      try simp only [Act.put, List.setIfInBounds_toArray, List.set_cons_zero, List.set_cons_succ]
      refine wpAnyH_ready (rs := [7]) (by kernel_rfl) (by simp) ?_
      refine AllReadyH.cons rfl (fun K hK => ?_) AllReadyH.nil
      have k5 := H5.blk.2.1 1 _ rfl
      have f5 := H5.blk.2.2
      go_simp
      clear k5 f5
      refine hK.out _ _ (obM (M5.far (p := gh) (j := 1) nm _)) (fun hHeld => ?_)
      clear hK K
      try simp only [Act.put, List.setIfInBounds_toArray, List.set_cons_zero, List.set_cons_succ]
      refine wpAnyH_done (by kernel_rfl) ?_ _
      have HG : w5.grownBy (w5.setCell ⟨gh, 1, none⟩ (.slice A5 (l.length + 1) c5)) (some gh) := grown_set w5 ⟨gh, 1, none⟩ (.slice A5 (l.length + 1) c5)
      have H6 : Ob (w5.setCell ⟨gh, 1, none⟩ (.slice A5 (l.length + 1) c5)) gh #[.int .i64 r, .slice A5 (l.length + 1) c5, .int .i64 x] 24 := H5.set 1 (.slice A5 (l.length + 1) c5)
      have Z6 := Z5.far (p := gh) (j := 1) nz (.slice A5 (l.length + 1) c5)
      have b6 := Gw.hop b5 HG hgw
      have o7 := o6.farB (j := 1) (u := .slice A5 (l.length + 1) c5) H5
      clear HB CM hHeld HG H5 M5 Z5 b5 o6
      have q1 : (#[.int .i64 r, .slice A5 (l.length + 1) c5, .int .i64 x] : Array Value).size = 3 := rfl
      have q2 : (#[.int .i64 r, .slice A5 (l.length + 1) c5, .int .i64 x] : Array Value).all (·.oneCell') = true := box_one _ _ _ _ _
      have q3 : (#[.int .i64 0, .slice none 0 0, .int .i64 0] : Array Value).size = 3 := rfl
      go_wp2_with (first | (with_reducible refine ldB #[.int .i64 r, .slice A5 (l.length + 1) c5, .int .i64 x] _ H6 q1 rfl _ rfl rfl ?_) | (with_reducible refine stB #[.int .i64 r, .slice A5 (l.length + 1) c5, .int .i64 x] _ _ Z6 q3 q1 q2 rfl _ _ rfl rfl rfl ?_) | fail)
      (try simp only [Exit.inBlock, Exit.then])
      have Z2 := Z6.setRow #[.int .i64 r, .slice A5 (l.length + 1) c5, .int .i64 x]
      have hop := setRow_grown (w5.setCell ⟨gh, 1, none⟩ (.slice A5 (l.length + 1) c5)) (w.heap.size + 1 + 1) #[.int .i64 r, .slice A5 (l.length + 1) c5, .int .i64 x]
      refine bodyPost_ret (v := .agg #[.int .i64 r, .slice A5 (l.length + 1) c5, .int .i64 x]) (results_cell_row rfl _ _ (w.heap.size + 1 + 1) 24 #[.int .i64 r, .slice A5 (l.length + 1) c5, .int .i64 x] (0, 0) _ rfl Z2 Try.underlying24 rfl Try.size21Bx) rfl ⟨⟨r, A5, ds ++ [y], c5, x⟩, by show _ = Ending.returned (.agg #[_, .slice A5 (ds ++ [y]).length c5, _]); rw [List.length_append, HDL.out]; rfl, by rw [HP.out]; show Bx.mk _ _ _ = _; rw [List.map_append, HDS.out, List.map_cons, HY.out]; rfl, by show OutX _ _ (.slice A5 (ds ++ [y]).length c5) _; rw [List.length_append, HDL.out]; exact (o7.hop hop (by omega)).base_le (by omega), Gw.hop b6 hop (by omega)⟩
    · skip
      go_simp
      refine (CM.out _ (hm.up (Gw.call b0 (Below.drew bq)))).mono ?_
      rintro e w3 ⟨y, rfl, hya, hyo, hb⟩
      have hy3 : w.heap.size + 3 ≤ w2.drew.heap.size := s2
      have hyo3 := hyo.base_le hy3
      replace bq := Gw.call (Below.drew bq) hb
      have HY := Lib.hid hya
      clear hb hya hyo
      refine hK.out _ _ (HB.out _ bq) (fun hHeld => ?_)
      clear hK K
      try simp only [Act.put, List.setIfInBounds_toArray, List.set_cons_zero, List.set_cons_succ]
      refine wpAnyH_ready (rs := [1, 4]) (by kernel_rfl) (by simp) ?_
      refine AllReadyH.cons rfl (fun K hK => ?_) (AllReadyH.cons rfl (fun K hK => ?_) AllReadyH.nil)
      · skip
        have kk := (H.call (show Below w2.heap.size w2 _ from (by first | exact bq | exact Below.drew bq))).blk.2.1 1 _ rfl
        go_simp
        clear kk
        refine hK.out _ _ (HB.out _ (by first | exact bq | exact Below.drew bq)) (fun hHeld => ?_)
        clear hK K
        try simp only [Act.put, List.setIfInBounds_toArray, List.set_cons_zero, List.set_cons_succ]
        refine wpAnyH_ready (rs := [4]) (by kernel_rfl) (by simp) ?_
        refine AllReadyH.cons rfl (fun K hK => ?_) AllReadyH.nil
        refine step_bsM y rfl _ rfl rfl ?_
        have LT := Rd.litM w3 y
        have al4 := Below.alloc (Below.refl w3.heap.size w3) (Nat.le_refl _) (.cells (msA y) 39)
        have o4 := (o1.below bq).below al4
        have hyo4 := hyo3.below al4
        replace bq := Gw.call bq al4
        clear al4 hyo3
        refine hK.out _ _ (HB.out _ bq) (fun hHeld => ?_)
        clear hK K
        try simp only [Act.put, List.setIfInBounds_toArray, List.set_cons_zero, List.set_cons_succ]
        refine wpAnyH_ready (rs := [5]) (by kernel_rfl) (by simp) ?_
        refine AllReadyH.cons rfl (fun K hK => ?_) AllReadyH.nil
        refine step_app rfl _ _ _ _ rfl (w.heap.size + 3) 39 i0 _ 176 Try.underlying22 hi0 hz0 hz1 hz2 rfl (by omega) msc_len msc_one (.slice A1 l.length c1) ds rfl o4.out l.length HKL.out _ _ 1 1 [y] rfl rfl LT (by omega) (by omega) (by have := bq.size; omega) ?_
        intro A5 c5 w5 o5 hg
        have o6 := o4.snoc hg o5 hyo4
        have H5 := (H.call bq).app o4.out hg (by decide)
        have M5 := (M.call bq).hopO o4.out hg (by omega)
        have Z5 := (Z.call bq).hopO o4.out hg (by omega)
        have b5 := Gw.gr (Gw.call b0 bq) hg (fun k hk => by have := Own.lt o4.out k hk; omega)
        clear LT o4 hyo4 bq
        refine hK.out _ _ (obM M5) (fun hHeld => ?_)
        clear hK K
        try simp only [Act.put, List.setIfInBounds_toArray, List.set_cons_zero, List.set_cons_succ]
        refine take_d (i := 6) (oi := _) (v := ?_) (d := some 20) rfl (by kernel_rfl) (by as_aux_lemma => kernel_rfl) (by as_aux_lemma => kernel_rfl) (by as_aux_lemma => kernel_rfl) (fun _ _ _ h => h) (Or.inl ⟨by kernel_rfl, ?_⟩) hHeld ?_
        rotate_left
        · intro w hSw; (try dsimp only at hSw); go_simp; (try with_reducible rfl)
        try simp only [Act.put, List.setIfInBounds_toArray, List.set_cons_zero, List.set_cons_succ]
        refine wpAnyH_ready (rs := [7]) (by kernel_rfl) (by simp) ?_
        refine AllReadyH.cons rfl (fun K hK => ?_) AllReadyH.nil
        have k5 := H5.blk.2.1 1 _ rfl
        have f5 := H5.blk.2.2
        go_simp
        clear k5 f5
        refine hK.out _ _ (obM (M5.far (p := gh) (j := 1) nm _)) (fun hHeld => ?_)
        clear hK K
        try simp only [Act.put, List.setIfInBounds_toArray, List.set_cons_zero, List.set_cons_succ]
        refine wpAnyH_done (by kernel_rfl) ?_ _
        have HG : w5.grownBy (w5.setCell ⟨gh, 1, none⟩ (.slice A5 (l.length + 1) c5)) (some gh) := grown_set w5 ⟨gh, 1, none⟩ (.slice A5 (l.length + 1) c5)
        have H6 : Ob (w5.setCell ⟨gh, 1, none⟩ (.slice A5 (l.length + 1) c5)) gh #[.int .i64 r, .slice A5 (l.length + 1) c5, .int .i64 x] 24 := H5.set 1 (.slice A5 (l.length + 1) c5)
        have Z6 := Z5.far (p := gh) (j := 1) nz (.slice A5 (l.length + 1) c5)
        have b6 := Gw.hop b5 HG hgw
        have o7 := o6.farB (j := 1) (u := .slice A5 (l.length + 1) c5) H5
        clear HB CM hHeld HG H5 M5 Z5 b5 o6
        have q1 : (#[.int .i64 r, .slice A5 (l.length + 1) c5, .int .i64 x] : Array Value).size = 3 := rfl
        have q2 : (#[.int .i64 r, .slice A5 (l.length + 1) c5, .int .i64 x] : Array Value).all (·.oneCell') = true := box_one _ _ _ _ _
        have q3 : (#[.int .i64 0, .slice none 0 0, .int .i64 0] : Array Value).size = 3 := rfl
        go_wp2_with (first | (with_reducible refine ldB #[.int .i64 r, .slice A5 (l.length + 1) c5, .int .i64 x] _ H6 q1 rfl _ rfl rfl ?_) | (with_reducible refine stB #[.int .i64 r, .slice A5 (l.length + 1) c5, .int .i64 x] _ _ Z6 q3 q1 q2 rfl _ _ rfl rfl rfl ?_) | fail)
        (try simp only [Exit.inBlock, Exit.then])
        have Z2 := Z6.setRow #[.int .i64 r, .slice A5 (l.length + 1) c5, .int .i64 x]
        have hop := setRow_grown (w5.setCell ⟨gh, 1, none⟩ (.slice A5 (l.length + 1) c5)) (w.heap.size + 1 + 1) #[.int .i64 r, .slice A5 (l.length + 1) c5, .int .i64 x]
        refine bodyPost_ret (v := .agg #[.int .i64 r, .slice A5 (l.length + 1) c5, .int .i64 x]) (results_cell_row rfl _ _ (w.heap.size + 1 + 1) 24 #[.int .i64 r, .slice A5 (l.length + 1) c5, .int .i64 x] (0, 0) _ rfl Z2 Try.underlying24 rfl Try.size21Bx) rfl ⟨⟨r, A5, ds ++ [y], c5, x⟩, by show _ = Ending.returned (.agg #[_, .slice A5 (ds ++ [y]).length c5, _]); rw [List.length_append, HDL.out]; rfl, by rw [HP.out]; show Bx.mk _ _ _ = _; rw [List.map_append, HDS.out, List.map_cons, HY.out]; rfl, by show OutX _ _ (.slice A5 (ds ++ [y]).length c5) _; rw [List.length_append, HDL.out]; exact (o7.hop hop (by omega)).base_le (by omega), Gw.hop b6 hop (by omega)⟩
      · skip
        refine step_bsM y rfl _ rfl rfl ?_
        have LT := Rd.litM w3 y
        have al4 := Below.alloc (Below.refl w3.heap.size w3) (Nat.le_refl _) (.cells (msA y) 39)
        have o4 := (o1.below bq).below al4
        have hyo4 := hyo3.below al4
        replace bq := Gw.call bq al4
        clear al4 hyo3
        refine hK.out _ _ (HB.out _ bq) (fun hHeld => ?_)
        clear hK K
        try simp only [Act.put, List.setIfInBounds_toArray, List.set_cons_zero, List.set_cons_succ]
        refine wpAnyH_ready (rs := [1]) (by kernel_rfl) (by simp) ?_
        refine AllReadyH.cons rfl (fun K hK => ?_) AllReadyH.nil
        have kk := (H.call (show Below w2.heap.size w2 _ from (by first | exact bq | exact Below.drew bq))).blk.2.1 1 _ rfl
        go_simp
        clear kk
        refine hK.out _ _ (HB.out _ (by first | exact bq | exact Below.drew bq)) (fun hHeld => ?_)
        clear hK K
        try simp only [Act.put, List.setIfInBounds_toArray, List.set_cons_zero, List.set_cons_succ]
        refine wpAnyH_ready (rs := [5]) (by kernel_rfl) (by simp) ?_
        refine AllReadyH.cons rfl (fun K hK => ?_) AllReadyH.nil
        refine step_app rfl _ _ _ _ rfl (w.heap.size + 3) 39 i0 _ 176 Try.underlying22 hi0 hz0 hz1 hz2 rfl (by omega) msc_len msc_one (.slice A1 l.length c1) ds rfl o4.out l.length HKL.out _ _ 1 1 [y] rfl rfl LT (by omega) (by omega) (by have := bq.size; omega) ?_
        intro A5 c5 w5 o5 hg
        have o6 := o4.snoc hg o5 hyo4
        have H5 := (H.call bq).app o4.out hg (by decide)
        have M5 := (M.call bq).hopO o4.out hg (by omega)
        have Z5 := (Z.call bq).hopO o4.out hg (by omega)
        have b5 := Gw.gr (Gw.call b0 bq) hg (fun k hk => by have := Own.lt o4.out k hk; omega)
        clear LT o4 hyo4 bq
        refine hK.out _ _ (obM M5) (fun hHeld => ?_)
        clear hK K
        try simp only [Act.put, List.setIfInBounds_toArray, List.set_cons_zero, List.set_cons_succ]
        refine take_d (i := 6) (oi := _) (v := ?_) (d := some 20) rfl (by kernel_rfl) (by as_aux_lemma => kernel_rfl) (by as_aux_lemma => kernel_rfl) (by as_aux_lemma => kernel_rfl) (fun _ _ _ h => h) (Or.inl ⟨by kernel_rfl, ?_⟩) hHeld ?_
        rotate_left
        · intro w hSw; (try dsimp only at hSw); go_simp; (try with_reducible rfl)
        try simp only [Act.put, List.setIfInBounds_toArray, List.set_cons_zero, List.set_cons_succ]
        refine wpAnyH_ready (rs := [7]) (by kernel_rfl) (by simp) ?_
        refine AllReadyH.cons rfl (fun K hK => ?_) AllReadyH.nil
        have k5 := H5.blk.2.1 1 _ rfl
        have f5 := H5.blk.2.2
        go_simp
        clear k5 f5
        refine hK.out _ _ (obM (M5.far (p := gh) (j := 1) nm _)) (fun hHeld => ?_)
        clear hK K
        try simp only [Act.put, List.setIfInBounds_toArray, List.set_cons_zero, List.set_cons_succ]
        refine wpAnyH_done (by kernel_rfl) ?_ _
        have HG : w5.grownBy (w5.setCell ⟨gh, 1, none⟩ (.slice A5 (l.length + 1) c5)) (some gh) := grown_set w5 ⟨gh, 1, none⟩ (.slice A5 (l.length + 1) c5)
        have H6 : Ob (w5.setCell ⟨gh, 1, none⟩ (.slice A5 (l.length + 1) c5)) gh #[.int .i64 r, .slice A5 (l.length + 1) c5, .int .i64 x] 24 := H5.set 1 (.slice A5 (l.length + 1) c5)
        have Z6 := Z5.far (p := gh) (j := 1) nz (.slice A5 (l.length + 1) c5)
        have b6 := Gw.hop b5 HG hgw
        have o7 := o6.farB (j := 1) (u := .slice A5 (l.length + 1) c5) H5
        clear HB CM hHeld HG H5 M5 Z5 b5 o6
        have q1 : (#[.int .i64 r, .slice A5 (l.length + 1) c5, .int .i64 x] : Array Value).size = 3 := rfl
        have q2 : (#[.int .i64 r, .slice A5 (l.length + 1) c5, .int .i64 x] : Array Value).all (·.oneCell') = true := box_one _ _ _ _ _
        have q3 : (#[.int .i64 0, .slice none 0 0, .int .i64 0] : Array Value).size = 3 := rfl
        go_wp2_with (first | (with_reducible refine ldB #[.int .i64 r, .slice A5 (l.length + 1) c5, .int .i64 x] _ H6 q1 rfl _ rfl rfl ?_) | (with_reducible refine stB #[.int .i64 r, .slice A5 (l.length + 1) c5, .int .i64 x] _ _ Z6 q3 q1 q2 rfl _ _ rfl rfl rfl ?_) | fail)
        (try simp only [Exit.inBlock, Exit.then])
        have Z2 := Z6.setRow #[.int .i64 r, .slice A5 (l.length + 1) c5, .int .i64 x]
        have hop := setRow_grown (w5.setCell ⟨gh, 1, none⟩ (.slice A5 (l.length + 1) c5)) (w.heap.size + 1 + 1) #[.int .i64 r, .slice A5 (l.length + 1) c5, .int .i64 x]
        refine bodyPost_ret (v := .agg #[.int .i64 r, .slice A5 (l.length + 1) c5, .int .i64 x]) (results_cell_row rfl _ _ (w.heap.size + 1 + 1) 24 #[.int .i64 r, .slice A5 (l.length + 1) c5, .int .i64 x] (0, 0) _ rfl Z2 Try.underlying24 rfl Try.size21Bx) rfl ⟨⟨r, A5, ds ++ [y], c5, x⟩, by show _ = Ending.returned (.agg #[_, .slice A5 (ds ++ [y]).length c5, _]); rw [List.length_append, HDL.out]; rfl, by rw [HP.out]; show Bx.mk _ _ _ = _; rw [List.map_append, HDS.out, List.map_cons, HY.out]; rfl, by show OutX _ _ (.slice A5 (ds ++ [y]).length c5) _; rw [List.length_append, HDL.out]; exact (o7.hop hop (by omega)).base_le (by omega), Gw.hop b6 hop (by omega)⟩
  · have t1 : decide ((l.length : Int) < r) = false := by simp; omega
    have HP := Lib.hid (put_no (b := ⟨r, A, l, c, x⟩) (m := m) hlt)
    have g2 := H.blk.2.1 2 _ rfl
    have gf := H.blk.2.2
    have H6 := Ob.new w1 #[.int .i64 r, .slice A1 l.length c1, .int .i64 (wrap64 (x + 1))] 24
    have Z6 := Z1c.alloc (.cells #[.int .i64 r, .slice A1 l.length c1, .int .i64 (wrap64 (x + 1))] 24)
    have b6 := Gw.al b1c (.cells #[.int .i64 r, .slice A1 l.length c1, .int .i64 (wrap64 (x + 1))] 24)
    have o7 := o1c.below (Below.alloc (Below.refl _ _) (Nat.le_refl _) (.cells #[.int .i64 r, .slice A1 l.length c1, .int .i64 (wrap64 (x + 1))] 24))
    go_upto_region 5 with fail
    clear k0 k1 g2 gf H Z M G o1 b0
    have q1 : (#[.int .i64 r, .slice A1 l.length c1, .int .i64 (wrap64 (x + 1))] : Array Value).size = 3 := rfl
    have q2 : (#[.int .i64 r, .slice A1 l.length c1, .int .i64 (wrap64 (x + 1))] : Array Value).all (·.oneCell') = true := box_one _ _ _ _ _
    have q3 : (#[.int .i64 0, .slice none 0 0, .int .i64 0] : Array Value).size = 3 := rfl
    go_wp2_with (first | (with_reducible refine ldB #[.int .i64 r, .slice A1 l.length c1, .int .i64 (wrap64 (x + 1))] _ H6 q1 rfl _ rfl rfl ?_) | (with_reducible refine stB #[.int .i64 r, .slice A1 l.length c1, .int .i64 (wrap64 (x + 1))] _ _ Z6 q3 q1 q2 rfl _ _ rfl rfl rfl ?_) | fail)
    (try simp only [Exit.inBlock, Exit.then])
    have Z2 := Z6.setRow #[.int .i64 r, .slice A1 l.length c1, .int .i64 (wrap64 (x + 1))]
    have hop := setRow_grown (w1.alloc (.cells #[.int .i64 r, .slice A1 l.length c1, .int .i64 (wrap64 (x + 1))] 24)) (w.heap.size + 1 + 1) #[.int .i64 r, .slice A1 l.length c1, .int .i64 (wrap64 (x + 1))]
    refine bodyPost_ret (v := .agg #[.int .i64 r, .slice A1 l.length c1, .int .i64 (wrap64 (x + 1))]) (results_cell_row rfl _ _ (w.heap.size + 1 + 1) 24 #[.int .i64 r, .slice A1 l.length c1, .int .i64 (wrap64 (x + 1))] (0, 0) _ rfl Z2 Try.underlying24 rfl Try.size21Bx) rfl ⟨⟨r, A1, ds, c1, wrap64 (x + 1)⟩, by show _ = Ending.returned (.agg #[_, .slice A1 ds.length c1, _]); rw [HDL.out], by rw [HP.out]; show Bx.mk _ _ _ = _; rw [HDS.out], by show OutX _ _ (.slice A1 ds.length c1) _; rw [HDL.out]; exact (o7.hop hop (by omega)).base_le (by omega), Gw.hop b6 hop (by omega)⟩
end Go.Proofs.Ytbengmgfddnkhaa
