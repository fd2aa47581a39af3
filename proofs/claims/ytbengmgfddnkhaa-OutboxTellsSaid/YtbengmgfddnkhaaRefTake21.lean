/-
  The document's own Take (21).
-/
import Derived.Test.YtbengmgfddnkhaaRefPut21
namespace Go.Proofs.Ytbengmgfddnkhaa
open Go.RowKit
set_option maxRecDepth 100000 in
set_option maxHeartbeats 4000000 in
theorem reftake_any (r x : Int) (A : Option Addr) (l : List MsV) (c : Nat) (w : World) (hr : OutR w.heap.size w A l) (hf : ∀ d ∈ l, d.few) (hlen : l.length ≤ 1000) :
    Calls Try.prog 10 #[.agg #[.int .i64 r, .slice A l.length c, .int .i64 x]] w fun e w' => ∃ (m' : MsV) (b' : BxV), e = .returned (.tuple #[msv m', boxv b', .bool (takeX (⟨r, A, l, c, x⟩ : BxV).abs)]) ∧ m'.abs = takeM (⟨r, A, l, c, x⟩ : BxV).abs ∧ b'.abs = takeB (⟨r, A, l, c, x⟩ : BxV).abs ∧ m'.own w.heap.size w' ∧ b'.own w.heap.size w' ∧ Below w.heap.size w w' := by
  have b0 := Gw.al (Gw.al (Gw.al (Below.refl w.heap.size w) (.cells #[.int .i64 r, .slice A l.length c, .int .i64 x] 24)) (.cells #[.int .u8 0, .int .u8 0, .int .u16 0, .int .u8 0, .slice none 0 0, .slice none 0 0, .int .u8 0, .int .u16 0, .int .u32 0, .slice none 0 0, .slice none 0 0, .int .u8 0, .int .u8 0, .int .u16 0, .int .u32 0, .slice none 0 0, .slice none 0 0] 39)) (.cells #[.int .i64 0, .slice none 0 0, .int .i64 0] 24)
  have G := ((Ob.new w #[.int .i64 r, .slice A l.length c, .int .i64 x] 24).alloc (.cells #[.int .u8 0, .int .u8 0, .int .u16 0, .int .u8 0, .slice none 0 0, .slice none 0 0, .int .u8 0, .int .u16 0, .int .u32 0, .slice none 0 0, .slice none 0 0, .int .u8 0, .int .u8 0, .int .u16 0, .int .u32 0, .slice none 0 0, .slice none 0 0] 39)).alloc (.cells #[.int .i64 0, .slice none 0 0, .int .i64 0] 24)
  have Y := (Ob.new (w.alloc (.cells #[.int .i64 r, .slice A l.length c, .int .i64 x] 24)) #[.int .u8 0, .int .u8 0, .int .u16 0, .int .u8 0, .slice none 0 0, .slice none 0 0, .int .u8 0, .int .u16 0, .int .u32 0, .slice none 0 0, .slice none 0 0, .int .u8 0, .int .u8 0, .int .u16 0, .int .u32 0, .slice none 0 0, .slice none 0 0] 39).alloc (.cells #[.int .i64 0, .slice none 0 0, .int .i64 0] 24)
  have Z := Ob.new ((w.alloc (.cells #[.int .i64 r, .slice A l.length c, .int .i64 x] 24)).alloc (.cells #[.int .u8 0, .int .u8 0, .int .u16 0, .int .u8 0, .slice none 0 0, .slice none 0 0, .int .u8 0, .int .u16 0, .int .u32 0, .slice none 0 0, .slice none 0 0, .int .u8 0, .int .u8 0, .int .u16 0, .int .u32 0, .slice none 0 0, .slice none 0 0] 39)) #[.int .i64 0, .slice none 0 0, .int .i64 0] 24
  simp only [World.size_alloc] at Y Z
  have s0 : w.heap.size + 3 ≤ (((w.alloc (.cells #[.int .i64 r, .slice A l.length c, .int .i64 x] 24)).alloc (.cells #[.int .u8 0, .int .u8 0, .int .u16 0, .int .u8 0, .slice none 0 0, .slice none 0 0, .int .u8 0, .int .u16 0, .int .u32 0, .slice none 0 0, .slice none 0 0, .int .u8 0, .int .u8 0, .int .u16 0, .int .u32 0, .slice none 0 0, .slice none 0 0] 39)).alloc (.cells #[.int .i64 0, .slice none 0 0, .int .i64 0] 24)).heap.size := by simp only [World.size_alloc]; omega
  have n3 : w.heap.size + 1 ≠ w.heap.size + 1 + 1 := by omega
  have n4 : w.heap.size ≠ w.heap.size + 1 := by omega
  have n5 : w.heap.size ≠ w.heap.size + 1 + 1 := by omega
  have n6 : w.heap.size + 1 + 1 ≠ w.heap.size + 1 := by omega
  have k0 := G.blk.2.1 0 _ rfl
  have k1 := G.blk.2.1 1 _ rfl
  have k2 := G.blk.2.1 2 _ rfl
  have q3 : (#[.int .i64 0, .slice none 0 0, .int .i64 0] : Array Value).size = 3 := rfl
  have q4 : (#[.int .u8 0, .int .u8 0, .int .u16 0, .int .u8 0, .slice none 0 0, .slice none 0 0, .int .u8 0, .int .u16 0, .int .u32 0, .slice none 0 0, .slice none 0 0, .int .u8 0, .int .u8 0, .int .u16 0, .int .u32 0, .slice none 0 0, .slice none 0 0] : Array Value).size = 17 := rfl
  rcases l with _ | ⟨m, t⟩
  · have CFR := Lib.hid (fun W h => fromx_any r x A [] c 0 0 0 W h hf hlen (Nat.zero_le _) rfl rfl)
    simp only [List.length_nil] at k1 CFR
    go_enter Try.func10, Try.ntmps10
    go_wp2_with fail
    refine (CFR.out _ (hr.up b0)).mono ?_
    rintro e w1 ⟨A1, c1, ds, rfl, hds, o1, hb⟩
    obtain rfl : ds = [] := by simpa using hds
    have b1 := Gw.call b0 hb
    have Y1 := Y.call hb
    have Z1 := (Z.call hb).setRow_far n6 (msA nilM)
    have hop1 := setRow_grown w1 (w.heap.size + 1) (msA nilM)
    have hop2 := setRow_grown (w1.setRow (w.heap.size + 1) (msA nilM)) (w.heap.size + 1 + 1) #[.int .i64 r, .slice A1 0 c1, .int .i64 x]
    have o2 := ((o1.base_le s0).hop hop1 (by omega)).hop hop2 (by omega)
    have b2 := Gw.hop (Gw.hop b1 hop1 (by omega)) hop2 (by omega)
    have Y2 := (Y1.setRow (msA nilM)).setRow_far n3 #[.int .i64 r, .slice A1 0 c1, .int .i64 x]
    have Z2 := Z1.setRow #[.int .i64 r, .slice A1 0 c1, .int .i64 x]
    have q1 : (#[.int .i64 r, .slice A1 0 c1, .int .i64 x] : Array Value).size = 3 := rfl
    have q2 : (#[.int .i64 r, .slice A1 0 c1, .int .i64 x] : Array Value).all (·.oneCell') = true := box_one _ _ _ _ _
    clear k0 k1 k2 hb hop1 hop2 o1 b1 G Y Z b0 hds CFR
    go_wp2_with (first | (with_reducible refine stM_row nilM _ _ Y1 q4 rfl _ _ rfl rfl (by kernel_rfl) ?_) | (with_reducible refine stB #[.int .i64 r, .slice A1 0 c1, .int .i64 x] _ _ Z1 q3 q1 q2 rfl _ _ rfl rfl rfl ?_) | fail)
    (try simp only [Exit.inBlock, Exit.then])
    refine bodyPost_ret (results_c2t rfl _ _ (w.heap.size + 1) (w.heap.size + 1 + 1) 39 24 (msA nilM) #[.int .i64 r, .slice A1 0 c1, .int .i64 x] _ _ rfl rfl Y2 Z2 Try.underlying39 Try.underlying24 rfl rfl Try.size21Ms Try.size21Bx) rfl ⟨nilM, ⟨r, A1, [], c1, x⟩, rfl, rfl, rfl, nilM_own, o2.base_le (by omega), b2⟩
  · have hmr := hr.row m (by simp)
    have hmf := hf m (by simp)
    obtain ⟨b, o, rfl, hb, hc⟩ := hr.out.at_ (k := 0) (x := m) rfl
    have hc0 : ∀ j v, (msc m)[j]? = some v → w.cell? ⟨b, o + j, none⟩ = some v := fun j v h => by have := hc j v h; rwa [show o + 0 * 17 + j = o + j by omega] at this
    have HC := Lib.hid (fun j v h => (b0.cell (p := ⟨b, o + j, none⟩) hb).trans (hc0 j v h))
    obtain ⟨n, hn⟩ : ∃ n, n = (m :: t).length := ⟨_, rfl⟩
    have hnt : n = t.length + 1 := hn
    have CM := Lib.hid (fun W h => refmsg_any m W h hmf)
    have CFR := Lib.hid (fun W h => fromx_any r x (some ⟨b, o, none⟩) (m :: t) c 1 (n - 1) n W h hf hlen (by simp) hn.symm rfl)
    have lt0 : (0 : Int) < ((m :: t).length : Int) := by simp only [List.length_cons]; omega
    have lt1 : (((m :: t).length : Int) == 0) = false := by rw [beq_eq_false_iff_ne]; simp only [List.length_cons]; omega
    rw [← hn] at lt0 lt1 k0 k1 k2 b0 G Y Z s0 HC ⊢
    have HN := Lib.hid hnt
    have HR := Lib.hid hr
    clear hn hnt hc hc0 hf hlen hr
    go_enter Try.func10, Try.ntmps10
    go_upto_region 3 with fail
    clear k0 k1 k2
    generalize ((w.alloc (.cells #[.int .i64 r, .slice (some ⟨b, o, none⟩) n c, .int .i64 x] 24)).alloc (.cells #[.int .u8 0, .int .u8 0, .int .u16 0, .int .u8 0, .slice none 0 0, .slice none 0 0, .int .u8 0, .int .u16 0, .int .u32 0, .slice none 0 0, .slice none 0 0, .int .u8 0, .int .u8 0, .int .u16 0, .int .u32 0, .slice none 0 0, .slice none 0 0] 39)).alloc (.cells #[.int .i64 0, .slice none 0 0, .int .i64 0] 24) = w1 at *
    have bq := Below.drew (Below.refl w1.heap.size w1)
    have Y1 := Y
    have Z1 := Z
    have hb1 : b < w1.heap.size := by have := b0.size; omega
    have HB : Hid (∀ W, Below w1.heap.size w1 W → (fun W : World => W.cell? ⟨w.heap.size, 1, none⟩ = some (.slice (some ⟨b, o, none⟩) n c) ∧ Ob W w.heap.size #[.int .i64 r, .slice (some ⟨b, o, none⟩) n c, .int .i64 x] 24 ∧ (∀ j v, (msc m)[j]? = some v → W.cell? ⟨b, o + j, none⟩ = some v)) W) := Lib.hid fun W hb => ⟨(G.call hb).blk.2.1 1 _ rfl, G.call hb, fun j v h => (hb.cell (p := ⟨b, o + j, none⟩) hb1).trans (HC.out j v h)⟩
    have q0 : (#[.int .i64 r, .slice (some ⟨b, o, none⟩) n c, .int .i64 x] : Array Value).size = 3 := rfl
    have ltn : 0 < n := by have := HN.out; omega
    refine wp_region_held_drew (S := fun W : World => W.cell? ⟨w.heap.size, 1, none⟩ = some (.slice (some ⟨b, o, none⟩) n c) ∧ Ob W w.heap.size #[.int .i64 r, .slice (some ⟨b, o, none⟩) n c, .int .i64 x] 24 ∧ (∀ j v, (msc m)[j]? = some v → W.cell? ⟨b, o + j, none⟩ = some v)) (by kernel_rfl) (HB.out _ bq) (fun hHeld => ?_)
    refine take_d (i := 0) (oi := _) (v := ?_) (d := some 12) rfl (by kernel_rfl) (by as_aux_lemma => kernel_rfl) (by as_aux_lemma => kernel_rfl) (by as_aux_lemma => kernel_rfl) (fun _ _ _ h => h) (Or.inl ⟨by kernel_rfl, ?_⟩) hHeld ?_
    rotate_left
    · intro w hSw; (try dsimp only at hSw); go_simp; (try with_reducible rfl)
    try simp only [Act.put, List.setIfInBounds_toArray, List.set_cons_zero, List.set_cons_succ]
    refine take_d (i := 1) (oi := _) (v := ?_) (d := some 13) rfl (by kernel_rfl) (by as_aux_lemma => kernel_rfl) (by as_aux_lemma => kernel_rfl) (by as_aux_lemma => kernel_rfl) (fun _ _ _ h => h) (Or.inl ⟨by kernel_rfl, ?_⟩) hHeld ?_
    rotate_left
    · intro w hSw; (try dsimp only at hSw); go_simp; (try with_reducible rfl)
    try simp only [Act.put, List.setIfInBounds_toArray, List.set_cons_zero, List.set_cons_succ]
    refine take_d (i := 2) (oi := _) (v := .pointer (some ⟨b, o, none⟩)) (d := some 14) rfl (by kernel_rfl) (by as_aux_lemma => kernel_rfl) (by as_aux_lemma => kernel_rfl) (by as_aux_lemma => kernel_rfl) (fun _ _ _ h => h) (Or.inl ⟨by kernel_rfl, ?_⟩) hHeld ?_
    · intro W hSw
      go_simp; first | done | (rw [if_pos ltn]) | (simp [ltn])
    try simp only [Act.put, List.setIfInBounds_toArray, List.set_cons_zero, List.set_cons_succ]
    refine take_d (i := 3) (oi := _) (v := (.agg (msA m))) (d := some 15) rfl (by kernel_rfl) (by as_aux_lemma => kernel_rfl) (by as_aux_lemma => kernel_rfl) (by as_aux_lemma => kernel_rfl) (fun _ _ _ h => h) (yl_M m _ _ (fun W h => h.2.2) (by kernel_rfl) _ rfl rfl) hHeld ?_
    try simp only [Act.put, List.setIfInBounds_toArray, List.set_cons_zero, List.set_cons_succ]
    refine take_d (i := 5) (oi := _) (v := (.agg #[.int .i64 r, .slice (some ⟨b, o, none⟩) n c, .int .i64 x])) (d := some 17) rfl (by kernel_rfl) (by as_aux_lemma => kernel_rfl) (by as_aux_lemma => kernel_rfl) (by as_aux_lemma => kernel_rfl) (fun _ _ _ h => h) (yl_B _ _ (fun W h => h.2.1) q0 (by kernel_rfl) _ rfl rfl) hHeld ?_
    try simp only [Act.put, List.setIfInBounds_toArray, List.set_cons_zero, List.set_cons_succ]
    refine wpAnyH_ready (rs := [4]) (by kernel_rfl) (by simp) ?_
    refine AllReadyH.cons rfl (fun K hK => ?_) AllReadyH.nil
    go_simp
    refine (CM.out _ (hmr.up (Gw.call b0 bq))).mono ?_
    rintro e w3 ⟨m', rfl, hma, hmo, hbb⟩
    have s1 := Nat.le_trans s0 bq.size
    have hmo1 := hmo.base_le s1
    replace bq := Gw.call bq hbb
    have HMA := Lib.hid hma
    clear hbb hma hmo
    refine hK.out _ _ (HB.out _ bq) (fun hHeld => ?_)
    clear hK K
    try simp only [Act.put, List.setIfInBounds_toArray, List.set_cons_zero, List.set_cons_succ]
    refine wpAnyH_ready (rs := [6]) (by kernel_rfl) (by simp) ?_
    refine AllReadyH.cons rfl (fun K hK => ?_) AllReadyH.nil
    go_simp
    refine (CFR.out _ (HR.out.up (Gw.call b0 bq))).mono ?_
    rintro e w4 ⟨A2, c2, ds, rfl, hds, o2, hbb⟩
    have s2 := Nat.le_trans s0 bq.size
    have o3 := o2.base_le s2
    have hmo2 := hmo1.below hbb
    replace bq := Gw.call bq hbb
    have HDS := Lib.hid hds
    have HDL : Hid (ds.length = n - 1) := Lib.hid (by have h := congrArg List.length hds; simp only [List.length_map, List.length_drop, List.length_cons] at h; have := HN.out; omega)
    have Y2 := Y1.call bq
    have Z2 := Z1.call bq
    have BB := Gw.call b0 bq
    clear hbb hds o2 hmo1
    refine hK.out _ _ (HB.out _ bq) (fun hHeld => ?_)
    clear hK K
    try simp only [Act.put, List.setIfInBounds_toArray, List.set_cons_zero, List.set_cons_succ]
    refine wpAnyH_ready (rs := [7]) (by kernel_rfl) (by simp) ?_
    refine AllReadyH.cons rfl (fun K hK => ?_) AllReadyH.nil
    refine step_stM m' _ _ Y2 q4 rfl _ _ rfl rfl rfl ?_
    have Y3 := Y2.setRow (msA m')
    have Z3 := Z2.setRow_far n6 (msA m')
    have G3 := (G.call bq).setRow_far n4 (msA m')
    have hop1 := setRow_grown w4 (w.heap.size + 1) (msA m')
    have EL : ∀ j v, (msc m)[j]? = some v → (w4.setRow (w.heap.size + 1) (msA m')).cell? ⟨b, o + j, none⟩ = some v := fun j v h => (hop1.cell_far ⟨b, o + j, none⟩ (by show b < _; have := bq.size; omega) (by intro e; injection e with e; simp only at e; omega)).trans ((HB.out _ bq).2.2 j v h)
    refine hK.out _ _ (⟨G3.blk.2.1 1 _ rfl, G3, EL⟩) (fun hHeld => ?_)
    clear hK K
    try simp only [Act.put, List.setIfInBounds_toArray, List.set_cons_zero, List.set_cons_succ]
    refine wpAnyH_ready (rs := [8]) (by kernel_rfl) (by simp) ?_
    refine AllReadyH.cons rfl (fun K hK => ?_) AllReadyH.nil
    have q1 : (#[.int .i64 r, .slice A2 (n - 1) c2, .int .i64 x] : Array Value).size = 3 := rfl
    have q2 : (#[.int .i64 r, .slice A2 (n - 1) c2, .int .i64 x] : Array Value).all (·.oneCell') = true := box_one _ _ _ _ _
    refine step_stB #[.int .i64 r, .slice A2 (n - 1) c2, .int .i64 x] _ _ Z3 q3 q1 q2 rfl _ _ rfl rfl rfl ?_
    have Y4 := Y3.setRow_far n3 #[.int .i64 r, .slice A2 (n - 1) c2, .int .i64 x]
    have Z4 := Z3.setRow #[.int .i64 r, .slice A2 (n - 1) c2, .int .i64 x]
    have G4 := G3.setRow_far n5 #[.int .i64 r, .slice A2 (n - 1) c2, .int .i64 x]
    have hop2 := setRow_grown (w4.setRow (w.heap.size + 1) (msA m')) (w.heap.size + 1 + 1) #[.int .i64 r, .slice A2 (n - 1) c2, .int .i64 x]
    have EL2 := fun j v h => (hop2.cell_far ⟨b, o + j, none⟩ (by show b < _; have := bq.size; have := hop1.size; omega) (by intro e; injection e with e; simp only at e; omega)).trans (EL j v h)
    refine hK.out _ _ (⟨G4.blk.2.1 1 _ rfl, G4, EL2⟩) (fun hHeld => ?_)
    clear hK K
    try simp only [Act.put, List.setIfInBounds_toArray, List.set_cons_zero, List.set_cons_succ]
    refine take_d (i := 9) (oi := _) (v := ?_) (d := some 4) rfl (by kernel_rfl) (by as_aux_lemma => kernel_rfl) (by as_aux_lemma => kernel_rfl) (by as_aux_lemma => kernel_rfl) (fun _ _ _ h => h) (Or.inl ⟨by kernel_rfl, ?_⟩) hHeld ?_
    rotate_left
    · intro w hSw; (try dsimp only at hSw); go_simp; (try with_reducible rfl)
    try simp only [Act.put, List.setIfInBounds_toArray, List.set_cons_zero, List.set_cons_succ]
    refine wpAnyH_done (by kernel_rfl) ?_ _
    have o5 := (o3.hop hop1 (by omega)).hop hop2 (by omega)
    have hm5 := (hmo2.hop hop1 (by omega)).hop hop2 (by omega)
    have b5 := Gw.hop (Gw.hop BB hop1 (by omega)) hop2 (by omega)
    go_wp2_with fail
    (try simp only [Exit.inBlock, Exit.then])
    refine bodyPost_ret (results_c2t rfl _ _ (w.heap.size + 1) (w.heap.size + 1 + 1) 39 24 (msA m') #[.int .i64 r, .slice A2 (n - 1) c2, .int .i64 x] _ _ rfl rfl Y4 Z4 Try.underlying39 Try.underlying24 rfl rfl Try.size21Ms Try.size21Bx) rfl ⟨m', ⟨r, A2, ds, c2, x⟩, by show _ = Ending.returned (.tuple #[_, .agg #[_, .slice A2 ds.length c2, _], _]); rw [HDL.out]; rfl, HMA.out, by show Bx.mk _ _ _ = _; rw [HDS.out]; rfl, hm5.base_le (by omega), by show OutX _ _ (.slice A2 ds.length c2) _; rw [HDL.out]; exact o5.base_le (by omega), b5⟩
end Go.Proofs.Ytbengmgfddnkhaa
