/-
  The document's own from (21).
-/
import Derived.Test.YtbengmgfddnkhaaRefMsg
namespace Go.Proofs.Ytbengmgfddnkhaa
open Go.RowKit
set_option maxRecDepth 100000 in
set_option maxHeartbeats 8000000 in
theorem from_any (r x : Int) (A : Option Addr) (l : List MsV) (c at_ : Nat) (w : World) (hr : OutR w.heap.size w A l) (hf : ∀ d ∈ l, d.few) (hlen : l.length ≤ 1000) (hat : at_ ≤ l.length) :
    Calls Try.prog 20 #[.agg #[.int .i64 r, .slice A l.length c, .int .i64 x], .int .i64 at_] w fun e w' => ∃ b' : BxV, e = .returned (boxv b') ∧ b'.abs = ⟨r, (l.drop at_).map MsV.abs, x⟩ ∧ b'.own w.heap.size w' ∧ Below w.heap.size w w' := by
  obtain ⟨i0, hi0, hz0, hz1, hz2⟩ := info_parts Try.info21Ms
  have HF := Lib.hid hf
  have HRO := Lib.hid hr.out
  have HRR := Lib.hid hr.row
  have b0 := Gw.al (Gw.al (Gw.al (Below.refl w.heap.size w) (.cells #[.int .i64 r, .slice A l.length c, .int .i64 x] 24)) (.cells #[.int .i64 0, .slice none 0 0, .int .i64 0] 24)) (.cells #[.int .i64 r, .slice none 0 0, .int .i64 x] 24)
  have G := ((Ob.new w #[.int .i64 r, .slice A l.length c, .int .i64 x] 24).alloc (.cells #[.int .i64 0, .slice none 0 0, .int .i64 0] 24)).alloc (.cells #[.int .i64 r, .slice none 0 0, .int .i64 x] 24)
  have Z := (Ob.new (w.alloc (.cells #[.int .i64 r, .slice A l.length c, .int .i64 x] 24)) #[.int .i64 0, .slice none 0 0, .int .i64 0] 24).alloc (.cells #[.int .i64 r, .slice none 0 0, .int .i64 x] 24)
  have H := Ob.new ((w.alloc (.cells #[.int .i64 r, .slice A l.length c, .int .i64 x] 24)).alloc (.cells #[.int .i64 0, .slice none 0 0, .int .i64 0] 24)) #[.int .i64 r, .slice none 0 0, .int .i64 x] 24
  simp only [World.size_alloc] at Z H
  have n1 : w.heap.size ≠ w.heap.size + 1 + 1 := by omega
  have n2 : w.heap.size + 1 ≠ w.heap.size + 1 + 1 := by omega
  have hsz : w.heap.size + 3 ≤ (((w.alloc (.cells #[.int .i64 r, .slice A l.length c, .int .i64 x] 24)).alloc (.cells #[.int .i64 0, .slice none 0 0, .int .i64 0] 24)).alloc (.cells #[.int .i64 r, .slice none 0 0, .int .i64 x] 24)).heap.size := by simp only [World.size_alloc]; omega
  clear hf hr
  go_enter Try.func20, Try.ntmps20
  go_wp2_with fail
  generalize ((w.alloc (.cells #[.int .i64 r, .slice A l.length c, .int .i64 x] 24)).alloc (.cells #[.int .i64 0, .slice none 0 0, .int .i64 0] 24)).alloc (.cells #[.int .i64 r, .slice none 0 0, .int .i64 x] 24) = w1 at *
  go_loopw [6] (fun i wr => ∃ (k : Nat) (A2 : Option Addr) (c2 n : Nat) (ds : List MsV), at_ ≤ k ∧ k ≤ l.length ∧ i = .int .i64 k ∧ Hid (n = k - at_) ∧ Hid (ds.map MsV.abs = ((l.take k).drop at_).map MsV.abs) ∧ Ob wr w.heap.size #[.int .i64 r, .slice A l.length c, .int .i64 x] 24 ∧ Ob wr (w.heap.size + 1) #[.int .i64 0, .slice none 0 0, .int .i64 0] 24 ∧ Ob wr (w.heap.size + 1 + 1) #[.int .i64 r, .slice A2 n c2, .int .i64 x] 24 ∧ OutX (w.heap.size + 3) wr (.slice A2 n c2) ds ∧ w.heap.size + 3 ≤ wr.heap.size ∧ Below w.heap.size w wr) (fun i _ => l.length - (intOf i).toNat)
  case atStart => exact ⟨at_, none, 0, 0, [], Nat.le_refl _, hat, rfl, Lib.hid (by omega), Lib.hid (by rw [List.drop_eq_nil_of_le (by rw [List.length_take]; omega)]), G, Z, H, OutX.nil_, hsz, b0⟩
  case round =>
    clear G Z H b0 hsz
    obtain ⟨k, A2, c2, n, ds, hak, hk, rfl, HN, HA, G, Z, H, ox, hs, bl⟩ := hrel
    have e1 := G.blk.2.1 1 _ rfl
    have h1 := H.blk.2.1 1 _ rfl
    by_cases hkl : k < l.length
    · obtain ⟨y, hy⟩ : ∃ y, l[k]? = some y := ⟨_, List.getElem?_eq_getElem hkl⟩
      obtain ⟨b1, o1, hA1, hb1, hc1⟩ := HRO.out.at_ hy
      have hyr := HRR.out y (List.mem_of_getElem? hy)
      have hyf := HF.out y (List.mem_of_getElem? hy)
      have SN : Hid (∀ z : MsV, z.abs = y.abs → (ds ++ [z]).map MsV.abs = ((l.take (k + 1)).drop at_).map MsV.abs) := Lib.hid fun z hz => by
        rw [List.take_add_one, hy, Option.toList_some, List.drop_append_of_le_length (by rw [List.length_take]; omega), List.map_append, List.map_append, HA.out]
        show _ = _ ++ [y.abs]
        rw [← hz]; rfl
      have HKL : Hid (n = ds.length) := Lib.hid (by
        have := congrArg List.length HA.out
        rw [List.length_map, List.length_map, List.length_drop, List.length_take] at this
        have := HN.out
        omega)
      have hn1 : n ≤ 1000 := by have := HN.out; omega
      have ki : (k : Int) < (l.length : Int) := by omega
      have HA1 := Lib.hid hA1
      have HC1 := Lib.hid hc1
      rw [hA1] at e1
      clear hy hc1 hA1
      have CM := Lib.hid (fun W h => refmsg_any y W h hyf)
      go_upto_region 5 with fail
      have bq := Below.refl wr.heap.size wr
      have hw0 := Lib.hid G.lt
      have HB : Hid (∀ W, Below (w.heap.size + 1) wr W → (fun W : World => W.cell? ⟨w.heap.size, 1, none⟩ = some (.slice (some ⟨b1, o1, none⟩) l.length c) ∧ (∀ j v, (msc y)[j]? = some v → W.cell? ⟨b1, o1 + k * 17 + j, none⟩ = some v)) W) := Lib.hid fun W hb => ⟨(hb.cell (p := ⟨w.heap.size, 1, none⟩) (by show w.heap.size < _; omega)).trans e1, fun j v h => ((hb.mono (by omega : w.heap.size ≤ _)).cell (p := ⟨b1, o1 + k * 17 + j, none⟩) hb1).trans ((bl.cell (p := ⟨b1, o1 + k * 17 + j, none⟩) hb1).trans (HC1.out j v h))⟩
      have hm1 : w.heap.size + 1 ≤ wr.heap.size := by omega
      refine wp_region_held_drew (S := fun W : World => W.cell? ⟨w.heap.size, 1, none⟩ = some (.slice (some ⟨b1, o1, none⟩) l.length c) ∧ (∀ j v, (msc y)[j]? = some v → W.cell? ⟨b1, o1 + k * 17 + j, none⟩ = some v)) (by kernel_rfl) (HB.out _ (Below.mono (Below.drew bq) hm1)) (fun hHeld => ?_)
      refine take_d (i := 0) (oi := _) (v := ?_) (d := some 20) rfl (by kernel_rfl) (by as_aux_lemma => kernel_rfl) (by as_aux_lemma => kernel_rfl) (by as_aux_lemma => kernel_rfl) (fun _ _ _ h => h) (Or.inl ⟨by kernel_rfl, ?_⟩) hHeld ?_
      rotate_left
      · intro w hSw; (try dsimp only at hSw); go_simp; (try with_reducible rfl)
      try simp only [Act.put, List.setIfInBounds_toArray, List.set_cons_zero, List.set_cons_succ]
      refine take_d (i := 2) (oi := _) (v := ?_) (d := some 22) rfl (by kernel_rfl) (by as_aux_lemma => kernel_rfl) (by as_aux_lemma => kernel_rfl) (by as_aux_lemma => kernel_rfl) (fun _ _ _ h => h) (Or.inl ⟨by kernel_rfl, ?_⟩) hHeld ?_
      rotate_left
      · intro w hSw; (try dsimp only at hSw); go_simp; (try with_reducible rfl)
      try simp only [Act.put, List.setIfInBounds_toArray, List.set_cons_zero, List.set_cons_succ]
      refine take_d (i := 3) (oi := _) (v := ?_) (d := some 23) rfl (by kernel_rfl) (by as_aux_lemma => kernel_rfl) (by as_aux_lemma => kernel_rfl) (by as_aux_lemma => kernel_rfl) (fun _ _ _ h => h) (Or.inl ⟨by kernel_rfl, ?_⟩) hHeld ?_
      rotate_left
      · intro w hSw; (try dsimp only at hSw); go_simp; (try with_reducible rfl)
      try simp only [Act.put, List.setIfInBounds_toArray, List.set_cons_zero, List.set_cons_succ]
      refine take_d (i := 4) (oi := _) (v := ?_) (d := some 24) rfl (by kernel_rfl) (by as_aux_lemma => kernel_rfl) (by as_aux_lemma => kernel_rfl) (by as_aux_lemma => kernel_rfl) (fun _ _ _ h => h) (Or.inl ⟨by kernel_rfl, ?_⟩) hHeld ?_
      rotate_left
      · intro w hSw; (try dsimp only at hSw); go_simp; (try with_reducible rfl)
      try simp only [Act.put, List.setIfInBounds_toArray, List.set_cons_zero, List.set_cons_succ]
      refine take_d (i := 5) (oi := _) (v := ?_) (d := some 25) rfl (by kernel_rfl) (by as_aux_lemma => kernel_rfl) (by as_aux_lemma => kernel_rfl) (by as_aux_lemma => kernel_rfl) (fun _ _ _ h => h) (Or.inl ⟨by kernel_rfl, ?_⟩) hHeld ?_
      rotate_left
      · intro w hSw; (try dsimp only at hSw); go_simp; (try with_reducible rfl)
      try simp only [Act.put, List.setIfInBounds_toArray, List.set_cons_zero, List.set_cons_succ]
      refine take_d (i := 6) (oi := _) (v := (.agg (msA y))) (d := some 26) rfl (by kernel_rfl) (by as_aux_lemma => kernel_rfl) (by as_aux_lemma => kernel_rfl) (by as_aux_lemma => kernel_rfl) (fun _ _ _ h => h) (yl_M y _ _ (fun W h => h.2) (by kernel_rfl) _ rfl rfl) hHeld ?_
      try simp only [Act.put, List.setIfInBounds_toArray, List.set_cons_zero, List.set_cons_succ]
      refine wpAnyH_ready (rs := [1, 7]) (by kernel_rfl) (by simp) ?_
      refine AllReadyH.cons rfl (fun K hK => ?_) (AllReadyH.cons rfl (fun K hK => ?_) AllReadyH.nil)
      · skip
        have kk := (H.call (show Below wr.heap.size wr _ from (by first | exact bq | exact Below.drew bq))).blk.2.1 1 _ rfl
        go_simp
        clear kk
        refine hK.out _ _ (HB.out _ (Below.mono (by first | exact bq | exact Below.drew bq) hm1)) (fun hHeld => ?_)
        clear hK K
        try simp only [Act.put, List.setIfInBounds_toArray, List.set_cons_zero, List.set_cons_succ]
        refine wpAnyH_ready (rs := [7]) (by kernel_rfl) (by simp) ?_
        refine AllReadyH.cons rfl (fun K hK => ?_) AllReadyH.nil
        go_simp
        refine (CM.out _ (hyr.up (Gw.call bl (Below.drew bq)))).mono ?_
        rintro e w3 ⟨z, rfl, hza, hzo, hb⟩
        have hz3 : w.heap.size + 3 ≤ wr.drew.heap.size := hs
        have hzo3 := hzo.base_le hz3
        replace bq := Gw.call (Below.drew bq) hb
        have HY := Lib.hid hza
        clear hb hza hzo
        refine hK.out _ _ (HB.out _ (bq.mono hm1)) (fun hHeld => ?_)
        clear hK K
        try simp only [Act.put, List.setIfInBounds_toArray, List.set_cons_zero, List.set_cons_succ]
        refine wpAnyH_ready (rs := [8]) (by kernel_rfl) (by simp) ?_
        refine AllReadyH.cons rfl (fun K hK => ?_) AllReadyH.nil
        refine step_bsM z rfl _ rfl rfl ?_
        have LT := Rd.litM w3 z
        have al4 := Below.alloc (Below.refl w3.heap.size w3) (Nat.le_refl _) (.cells (msA z) 39)
        have o4 := (ox.below bq).below al4
        have hzo4 := hzo3.below al4
        replace bq := Gw.call bq al4
        clear al4 hzo3
        refine hK.out _ _ (HB.out _ (bq.mono hm1)) (fun hHeld => ?_)
        clear hK K
        try simp only [Act.put, List.setIfInBounds_toArray, List.set_cons_zero, List.set_cons_succ]
        refine wpAnyH_ready (rs := [9]) (by kernel_rfl) (by simp) ?_
        refine AllReadyH.cons rfl (fun K hK => ?_) AllReadyH.nil
        refine step_app rfl _ _ _ _ rfl (w.heap.size + 3) 39 i0 _ 176 Try.underlying22 hi0 hz0 hz1 hz2 rfl (by omega) msc_len msc_one (.slice A2 n c2) ds rfl o4.out n HKL.out _ _ 1 1 [z] rfl rfl LT (by omega) (by omega) (by have := bq.size; omega) ?_
        intro A5 c5 w5 o5 hg
        have o6 := o4.snoc hg o5 hzo4
        have G5 := (G.call bq).hopO o4.out hg (by omega)
        have H5 := (H.call bq).hopO o4.out hg (by omega)
        have Z5 := (Z.call bq).hopO o4.out hg (by omega)
        have b5 := Gw.gr (Gw.call bl bq) hg (fun k hk => by have := Own.lt o4.out k hk; omega)
        have bs5 : Below (w.heap.size + 1) wr w5 := (bq.mono hm1).grown hg (by have := bq.size; omega) (fun k hk => by have := Own.lt o4.out k hk; omega)
        have hs5 := Nat.le_trans hs (Nat.le_trans bq.size hg.size)
        clear LT o4 hzo4 bq
        refine hK.out _ _ (HB.out _ bs5) (fun hHeld => ?_)
        clear hK K
        try simp only [Act.put, List.setIfInBounds_toArray, List.set_cons_zero, List.set_cons_succ]
        refine take_d (i := 10) (oi := _) (v := ?_) (d := some 30) rfl (by kernel_rfl) (by as_aux_lemma => kernel_rfl) (by as_aux_lemma => kernel_rfl) (by as_aux_lemma => kernel_rfl) (fun _ _ _ h => h) (Or.inl ⟨by kernel_rfl, ?_⟩) hHeld ?_
        rotate_left
        · intro w hSw; (try dsimp only at hSw); go_simp; (try with_reducible rfl)
        try simp only [Act.put, List.setIfInBounds_toArray, List.set_cons_zero, List.set_cons_succ]
        refine wpAnyH_ready (rs := [11]) (by kernel_rfl) (by simp) ?_
        refine AllReadyH.cons rfl (fun K hK => ?_) AllReadyH.nil
        have k5 := H5.blk.2.1 1 _ rfl
        have f5 := H5.blk.2.2
        go_simp
        clear k5 f5
        refine hK.out _ _ (HB.out _ (bs5.setCell (by show w.heap.size + 1 ≤ w.heap.size + 1 + 1; omega) _)) (fun hHeld => ?_)
        clear hK K
        try simp only [Act.put, List.setIfInBounds_toArray, List.set_cons_zero, List.set_cons_succ]
        refine wpAnyH_done (by kernel_rfl) ?_ _
        have HG : w5.grownBy (w5.setCell ⟨w.heap.size + 1 + 1, 1, none⟩ (.slice A5 (n + 1) c5)) (some (w.heap.size + 1 + 1)) := grown_set w5 ⟨w.heap.size + 1 + 1, 1, none⟩ (.slice A5 (n + 1) c5)
        have H6 : Ob (w5.setCell ⟨w.heap.size + 1 + 1, 1, none⟩ (.slice A5 (n + 1) c5)) (w.heap.size + 1 + 1) #[.int .i64 r, .slice A5 (n + 1) c5, .int .i64 x] 24 := H5.set 1 (.slice A5 (n + 1) c5)
        have Z6 := Z5.far (p := w.heap.size + 1 + 1) (j := 1) n2 (.slice A5 (n + 1) c5)
        have G6 := G5.far (p := w.heap.size + 1 + 1) (j := 1) n1 (.slice A5 (n + 1) c5)
        have b6 := Gw.hop b5 HG (by omega)
        have o7 := o6.hop HG (by omega)
        have hs6 : w.heap.size + 3 ≤ (w5.setCell ⟨w.heap.size + 1 + 1, 1, none⟩ (.slice A5 (n + 1) c5)).heap.size := by rw [Gw.setSize]; exact hs5
        have HN2 : Hid (n + 1 = k + 1 - at_) := Lib.hid (by have := HN.out; omega)
        clear HB CM hHeld HG G5 H5 Z5 b5 o6 bs5 hs5 G H Z e1 h1
        go_wp2_with fail
        go_roundw
        case rel => exact ⟨k + 1, A5, c5, n + 1, ds ++ [z], by omega, hkl, by go_num, HN2, Lib.hid (SN.out z HY.out), G6, Z6, H6, o7, hs6, b6⟩
        case measure => simp [intOf]; omega
      · skip
        go_simp
        refine (CM.out _ (hyr.up (Gw.call bl (Below.drew bq)))).mono ?_
        rintro e w3 ⟨z, rfl, hza, hzo, hb⟩
        have hz3 : w.heap.size + 3 ≤ wr.drew.heap.size := hs
        have hzo3 := hzo.base_le hz3
        replace bq := Gw.call (Below.drew bq) hb
        have HY := Lib.hid hza
        clear hb hza hzo
        refine hK.out _ _ (HB.out _ (bq.mono hm1)) (fun hHeld => ?_)
        clear hK K
        try simp only [Act.put, List.setIfInBounds_toArray, List.set_cons_zero, List.set_cons_succ]
        refine wpAnyH_ready (rs := [1, 8]) (by kernel_rfl) (by simp) ?_
        refine AllReadyH.cons rfl (fun K hK => ?_) (AllReadyH.cons rfl (fun K hK => ?_) AllReadyH.nil)
        · skip
          have kk := (H.call (show Below wr.heap.size wr _ from (by first | exact bq | exact Below.drew bq))).blk.2.1 1 _ rfl
          go_simp
          clear kk
          refine hK.out _ _ (HB.out _ (Below.mono (by first | exact bq | exact Below.drew bq) hm1)) (fun hHeld => ?_)
          clear hK K
          try simp only [Act.put, List.setIfInBounds_toArray, List.set_cons_zero, List.set_cons_succ]
          refine wpAnyH_ready (rs := [8]) (by kernel_rfl) (by simp) ?_
          refine AllReadyH.cons rfl (fun K hK => ?_) AllReadyH.nil
          refine step_bsM z rfl _ rfl rfl ?_
          have LT := Rd.litM w3 z
          have al4 := Below.alloc (Below.refl w3.heap.size w3) (Nat.le_refl _) (.cells (msA z) 39)
          have o4 := (ox.below bq).below al4
          have hzo4 := hzo3.below al4
          replace bq := Gw.call bq al4
          clear al4 hzo3
          refine hK.out _ _ (HB.out _ (bq.mono hm1)) (fun hHeld => ?_)
          clear hK K
          try simp only [Act.put, List.setIfInBounds_toArray, List.set_cons_zero, List.set_cons_succ]
          refine wpAnyH_ready (rs := [9]) (by kernel_rfl) (by simp) ?_
          refine AllReadyH.cons rfl (fun K hK => ?_) AllReadyH.nil
          refine step_app rfl _ _ _ _ rfl (w.heap.size + 3) 39 i0 _ 176 Try.underlying22 hi0 hz0 hz1 hz2 rfl (by omega) msc_len msc_one (.slice A2 n c2) ds rfl o4.out n HKL.out _ _ 1 1 [z] rfl rfl LT (by omega) (by omega) (by have := bq.size; omega) ?_
          intro A5 c5 w5 o5 hg
          have o6 := o4.snoc hg o5 hzo4
          have G5 := (G.call bq).hopO o4.out hg (by omega)
          have H5 := (H.call bq).hopO o4.out hg (by omega)
          have Z5 := (Z.call bq).hopO o4.out hg (by omega)
          have b5 := Gw.gr (Gw.call bl bq) hg (fun k hk => by have := Own.lt o4.out k hk; omega)
          have bs5 : Below (w.heap.size + 1) wr w5 := (bq.mono hm1).grown hg (by have := bq.size; omega) (fun k hk => by have := Own.lt o4.out k hk; omega)
          have hs5 := Nat.le_trans hs (Nat.le_trans bq.size hg.size)
          clear LT o4 hzo4 bq
          refine hK.out _ _ (HB.out _ bs5) (fun hHeld => ?_)
          clear hK K
          try simp only [Act.put, List.setIfInBounds_toArray, List.set_cons_zero, List.set_cons_succ]
          refine take_d (i := 10) (oi := _) (v := ?_) (d := some 30) rfl (by kernel_rfl) (by as_aux_lemma => kernel_rfl) (by as_aux_lemma => kernel_rfl) (by as_aux_lemma => kernel_rfl) (fun _ _ _ h => h) (Or.inl ⟨by kernel_rfl, ?_⟩) hHeld ?_
          rotate_left
          · intro w hSw; (try dsimp only at hSw); go_simp; (try with_reducible rfl)
          try simp only [Act.put, List.setIfInBounds_toArray, List.set_cons_zero, List.set_cons_succ]
          refine wpAnyH_ready (rs := [11]) (by kernel_rfl) (by simp) ?_
          refine AllReadyH.cons rfl (fun K hK => ?_) AllReadyH.nil
          have k5 := H5.blk.2.1 1 _ rfl
          have f5 := H5.blk.2.2
          go_simp
          clear k5 f5
          refine hK.out _ _ (HB.out _ (bs5.setCell (by show w.heap.size + 1 ≤ w.heap.size + 1 + 1; omega) _)) (fun hHeld => ?_)
          clear hK K
          try simp only [Act.put, List.setIfInBounds_toArray, List.set_cons_zero, List.set_cons_succ]
          refine wpAnyH_done (by kernel_rfl) ?_ _
          have HG : w5.grownBy (w5.setCell ⟨w.heap.size + 1 + 1, 1, none⟩ (.slice A5 (n + 1) c5)) (some (w.heap.size + 1 + 1)) := grown_set w5 ⟨w.heap.size + 1 + 1, 1, none⟩ (.slice A5 (n + 1) c5)
          have H6 : Ob (w5.setCell ⟨w.heap.size + 1 + 1, 1, none⟩ (.slice A5 (n + 1) c5)) (w.heap.size + 1 + 1) #[.int .i64 r, .slice A5 (n + 1) c5, .int .i64 x] 24 := H5.set 1 (.slice A5 (n + 1) c5)
          have Z6 := Z5.far (p := w.heap.size + 1 + 1) (j := 1) n2 (.slice A5 (n + 1) c5)
          have G6 := G5.far (p := w.heap.size + 1 + 1) (j := 1) n1 (.slice A5 (n + 1) c5)
          have b6 := Gw.hop b5 HG (by omega)
          have o7 := o6.hop HG (by omega)
          have hs6 : w.heap.size + 3 ≤ (w5.setCell ⟨w.heap.size + 1 + 1, 1, none⟩ (.slice A5 (n + 1) c5)).heap.size := by rw [Gw.setSize]; exact hs5
          have HN2 : Hid (n + 1 = k + 1 - at_) := Lib.hid (by have := HN.out; omega)
          clear HB CM hHeld HG G5 H5 Z5 b5 o6 bs5 hs5 G H Z e1 h1
          go_wp2_with fail
          go_roundw
          case rel => exact ⟨k + 1, A5, c5, n + 1, ds ++ [z], by omega, hkl, by go_num, HN2, Lib.hid (SN.out z HY.out), G6, Z6, H6, o7, hs6, b6⟩
          case measure => simp [intOf]; omega
        · skip
          refine step_bsM z rfl _ rfl rfl ?_
          have LT := Rd.litM w3 z
          have al4 := Below.alloc (Below.refl w3.heap.size w3) (Nat.le_refl _) (.cells (msA z) 39)
          have o4 := (ox.below bq).below al4
          have hzo4 := hzo3.below al4
          replace bq := Gw.call bq al4
          clear al4 hzo3
          refine hK.out _ _ (HB.out _ (bq.mono hm1)) (fun hHeld => ?_)
          clear hK K
          try simp only [Act.put, List.setIfInBounds_toArray, List.set_cons_zero, List.set_cons_succ]
          refine wpAnyH_ready (rs := [1]) (by kernel_rfl) (by simp) ?_
          refine AllReadyH.cons rfl (fun K hK => ?_) AllReadyH.nil
          have kk := (H.call (show Below wr.heap.size wr _ from (by first | exact bq | exact Below.drew bq))).blk.2.1 1 _ rfl
          go_simp
          clear kk
          refine hK.out _ _ (HB.out _ (Below.mono (by first | exact bq | exact Below.drew bq) hm1)) (fun hHeld => ?_)
          clear hK K
          try simp only [Act.put, List.setIfInBounds_toArray, List.set_cons_zero, List.set_cons_succ]
          refine wpAnyH_ready (rs := [9]) (by kernel_rfl) (by simp) ?_
          refine AllReadyH.cons rfl (fun K hK => ?_) AllReadyH.nil
          refine step_app rfl _ _ _ _ rfl (w.heap.size + 3) 39 i0 _ 176 Try.underlying22 hi0 hz0 hz1 hz2 rfl (by omega) msc_len msc_one (.slice A2 n c2) ds rfl o4.out n HKL.out _ _ 1 1 [z] rfl rfl LT (by omega) (by omega) (by have := bq.size; omega) ?_
          intro A5 c5 w5 o5 hg
          have o6 := o4.snoc hg o5 hzo4
          have G5 := (G.call bq).hopO o4.out hg (by omega)
          have H5 := (H.call bq).hopO o4.out hg (by omega)
          have Z5 := (Z.call bq).hopO o4.out hg (by omega)
          have b5 := Gw.gr (Gw.call bl bq) hg (fun k hk => by have := Own.lt o4.out k hk; omega)
          have bs5 : Below (w.heap.size + 1) wr w5 := (bq.mono hm1).grown hg (by have := bq.size; omega) (fun k hk => by have := Own.lt o4.out k hk; omega)
          have hs5 := Nat.le_trans hs (Nat.le_trans bq.size hg.size)
          clear LT o4 hzo4 bq
          refine hK.out _ _ (HB.out _ bs5) (fun hHeld => ?_)
          clear hK K
          try simp only [Act.put, List.setIfInBounds_toArray, List.set_cons_zero, List.set_cons_succ]
          refine take_d (i := 10) (oi := _) (v := ?_) (d := some 30) rfl (by kernel_rfl) (by as_aux_lemma => kernel_rfl) (by as_aux_lemma => kernel_rfl) (by as_aux_lemma => kernel_rfl) (fun _ _ _ h => h) (Or.inl ⟨by kernel_rfl, ?_⟩) hHeld ?_
          rotate_left
          · intro w hSw; (try dsimp only at hSw); go_simp; (try with_reducible rfl)
          try simp only [Act.put, List.setIfInBounds_toArray, List.set_cons_zero, List.set_cons_succ]
          refine wpAnyH_ready (rs := [11]) (by kernel_rfl) (by simp) ?_
          refine AllReadyH.cons rfl (fun K hK => ?_) AllReadyH.nil
          have k5 := H5.blk.2.1 1 _ rfl
          have f5 := H5.blk.2.2
          go_simp
          clear k5 f5
          refine hK.out _ _ (HB.out _ (bs5.setCell (by show w.heap.size + 1 ≤ w.heap.size + 1 + 1; omega) _)) (fun hHeld => ?_)
          clear hK K
          try simp only [Act.put, List.setIfInBounds_toArray, List.set_cons_zero, List.set_cons_succ]
          refine wpAnyH_done (by kernel_rfl) ?_ _
          have HG : w5.grownBy (w5.setCell ⟨w.heap.size + 1 + 1, 1, none⟩ (.slice A5 (n + 1) c5)) (some (w.heap.size + 1 + 1)) := grown_set w5 ⟨w.heap.size + 1 + 1, 1, none⟩ (.slice A5 (n + 1) c5)
          have H6 : Ob (w5.setCell ⟨w.heap.size + 1 + 1, 1, none⟩ (.slice A5 (n + 1) c5)) (w.heap.size + 1 + 1) #[.int .i64 r, .slice A5 (n + 1) c5, .int .i64 x] 24 := H5.set 1 (.slice A5 (n + 1) c5)
          have Z6 := Z5.far (p := w.heap.size + 1 + 1) (j := 1) n2 (.slice A5 (n + 1) c5)
          have G6 := G5.far (p := w.heap.size + 1 + 1) (j := 1) n1 (.slice A5 (n + 1) c5)
          have b6 := Gw.hop b5 HG (by omega)
          have o7 := o6.hop HG (by omega)
          have hs6 : w.heap.size + 3 ≤ (w5.setCell ⟨w.heap.size + 1 + 1, 1, none⟩ (.slice A5 (n + 1) c5)).heap.size := by rw [Gw.setSize]; exact hs5
          have HN2 : Hid (n + 1 = k + 1 - at_) := Lib.hid (by have := HN.out; omega)
          clear HB CM hHeld HG G5 H5 Z5 b5 o6 bs5 hs5 G H Z e1 h1
          go_wp2_with fail
          go_roundw
          case rel => exact ⟨k + 1, A5, c5, n + 1, ds ++ [z], by omega, hkl, by go_num, HN2, Lib.hid (SN.out z HY.out), G6, Z6, H6, o7, hs6, b6⟩
          case measure => simp [intOf]; omega
    · obtain rfl : k = l.length := by omega
      rw [List.take_length] at HA
      have hnd : n = ds.length := by
        have := congrArg List.length HA.out
        rw [List.length_map, List.length_map, List.length_drop] at this
        have := HN.out
        omega
      have HND := Lib.hid hnd
      clear hnd
      have q1 : (#[.int .i64 r, .slice A2 n c2, .int .i64 x] : Array Value).size = 3 := rfl
      have q2 : (#[.int .i64 r, .slice A2 n c2, .int .i64 x] : Array Value).all (·.oneCell') = true := box_one _ _ _ _ _
      have q3 : (#[.int .i64 0, .slice none 0 0, .int .i64 0] : Array Value).size = 3 := rfl
      go_wp2_with (first | (with_reducible refine ldB #[.int .i64 r, .slice A2 n c2, .int .i64 x] _ H q1 rfl _ rfl rfl ?_) | (with_reducible refine stB #[.int .i64 r, .slice A2 n c2, .int .i64 x] _ _ Z q3 q1 q2 rfl _ _ rfl rfl rfl ?_) | fail)
      (try simp only [Exit.inBlock, Exit.then])
      have Z2 := Z.setRow #[.int .i64 r, .slice A2 n c2, .int .i64 x]
      have hop := setRow_grown wr (w.heap.size + 1) #[.int .i64 r, .slice A2 n c2, .int .i64 x]
      refine bodyPost_ret (v := .agg #[.int .i64 r, .slice A2 n c2, .int .i64 x]) (results_cell_row rfl _ _ (w.heap.size + 1) 24 #[.int .i64 r, .slice A2 n c2, .int .i64 x] (0, 0) _ rfl Z2 Try.underlying24 rfl Try.size21Bx) rfl ⟨⟨r, A2, ds, c2, x⟩, by rw [HND.out], by show Bx.mk _ _ _ = _; rw [HA.out], by show OutX _ _ (.slice A2 ds.length c2) _; rw [← HND.out]; exact (ox.hop hop (by omega)).base_le (by omega), Gw.hop bl hop (by omega)⟩
end Go.Proofs.Ytbengmgfddnkhaa
