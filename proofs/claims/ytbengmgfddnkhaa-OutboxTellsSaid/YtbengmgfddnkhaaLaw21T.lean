/-
  OutboxTells (21).
-/
import Derived.Test.YtbengmgfddnkhaaRefTake21
import Derived.Test.YtbengmgfddnkhaaLaw21N
namespace Go.Proofs.Ytbengmgfddnkhaa
open Go.RowKit
theorem put_few {b : Bx} {m : Ms} (hb : ∀ d ∈ b.l, d.few) (hm : m.few) : ∀ d ∈ (putB b m).l, d.few := fun d hd => by
  unfold putB at hd
  split at hd
  · rcases List.mem_append.1 hd with h | h
    · exact hb d h
    · obtain rfl : d = m := by simpa using h
      exact hm
  · exact hb d hd
theorem put_len {b : Bx} {m : Ms} : (putB b m).l.length ≤ b.l.length + 1 := by unfold putB; split <;> simp
theorem bx_few2 {b : BxV} {o : Bx} (h : b.abs = o) (ho : ∀ d ∈ o.l, d.few) : ∀ m ∈ b.l, m.few := bx_few (by subst h; exact ho)
theorem bx_len2 {b : BxV} {o : Bx} (h : b.abs = o) : b.l.length = o.l.length := by subst h; unfold BxV.abs; simp
theorem take_few {b : Bx} (hb : ∀ d ∈ b.l, d.few) : (takeM b).few := by
  unfold takeM
  rcases h : b.l with _ | ⟨m, t⟩
  · exact kM_few 0
  · exact hb m (by rw [h]; simp)
theorem tail_few {b : Bx} (hb : ∀ d ∈ b.l, d.few) : ∀ d ∈ (takeB b).l, d.few := fun d hd => hb d (List.mem_of_mem_tail hd)
theorem msv_few {m : MsV} {o : Ms} (h : m.abs = o) (ho : o.few) : m.few := MsV.few_abs.2 (h ▸ ho)
set_option maxRecDepth 100000 in
set_option maxHeartbeats 8000000 in
theorem otells_any (r x : Int) (A : Option Addr) (l : List MsV) (c : Nat) (m : MsV) (w : World) (hr : OutR w.heap.size w A l) (hlc : l.length ≤ c) (hcm : c ≤ maxLen) (hok : ∀ d ∈ l, d.ok w) (hm : m.ok w) :
    Calls Try.prog 3 #[.agg #[.int .i64 r, .slice A l.length c, .int .i64 x], msv m] w fun e w' => e = .returned (.bool true) ∧ Below w.heap.size w w' := by
  have hll : l.length ≤ 9223372036854775807 := by unfold maxLen at hcm; omega
  have HLL : Hid (∀ d ∈ l, d.L.length ≤ 9223372036854775807) := Lib.hid (fun d hd => by have := (hok d hd).L; unfold maxLen at this; omega)
  have hmr := hm.rd
  have hmL : m.L.length ≤ 9223372036854775807 := by have := hm.L; unfold maxLen at this; omega
  have b0 := Gw.al (Gw.al (Below.refl w.heap.size w) (.cells #[.int .i64 r, .slice A l.length c, .int .i64 x] 24)) (.cells (msA m) 39)
  have G := (Ob.new w #[.int .i64 r, .slice A l.length c, .int .i64 x] 24).alloc (.cells (msA m) 39)
  have M := Ob.new (w.alloc (.cells #[.int .i64 r, .slice A l.length c, .int .i64 x] 24)) (msA m) 39
  rw [World.size_alloc] at M
  have k1 := G.blk.2.1 1 _ rfl
  have CF := Lib.hid (fun W h => fewM_any l A c 30 W h hll HLL.out)
  have CF1 := Lib.hid (fun W g h1 h2 => few1_any m g W h1 h2 hmL)
  have HLC := Lib.hid hlc
  clear hm hok hlc hcm
  go_enter Try.func3, Try.ntmps3
  go_wp2_with fail
  refine (CF.out _ (hr.up b0)).mono ?_
  rintro e w1 ⟨r1, rfl, hrr, hb⟩
  have HRR := Lib.hid hrr
  replace b0 := Gw.call b0 hb
  replace G := G.call hb
  replace M := M.call hb
  clear hb k1 hrr CF
  cases r1
  · go_wp2_with fail
    refine (awake_any _).mono ?_
    rintro e w9 ⟨rfl, hb⟩
    go_wp2_with fail
    go_ret
    exact ⟨rfl, Gw.call b0 hb⟩
  have H30 := (HRR.out rfl).1
  have HF := Lib.hid (HRR.out rfl).2
  have M2 := Ob.new w1 (msA m) 39
  have b1 := Gw.al b0 (.cells (msA m) 39)
  replace G := G.alloc (.cells (msA m) 39)
  have M3 := M.alloc (.cells (msA m) 39)
  clear HRR b0
  go_wp2_with (first | (with_reducible refine ldMg m _ 0 (obM M) (by kernel_rfl) _ rfl rfl ?_) | (with_reducible refine bsMg m (by kernel_rfl) _ rfl rfl ?_) | fail)
  refine (CF1.out _ _ M2 (hmr.up b1)).mono ?_
  rintro e w2 ⟨r2, rfl, hrr, hb⟩
  have HRR := Lib.hid hrr
  replace b1 := Gw.call b1 hb
  replace G := G.call hb
  replace M := M3.call hb
  clear hb hrr CF1 M2 M3
  cases r2
  · go_wp2_with fail
    refine (awake_any _).mono ?_
    rintro e w9 ⟨rfl, hb⟩
    go_wp2_with fail
    go_ret
    exact ⟨rfl, Gw.call b1 hb⟩
  have HMF := Lib.hid (HRR.out rfl)
  clear HRR
  have l30 : l.length ≤ 30 := by omega
  have HFA : Hid (∀ d ∈ (⟨r, A, l, c, x⟩ : BxV).abs.l, d.few) := Lib.hid (few_map HF.out)
  have CT := Lib.hid (fun W h => take_any r x A l c W h HF.out (by omega) HLC.out)
  have CT2 := Lib.hid (fun W h => reftake_any r x A l c W h HF.out (by omega))
  have CP := Lib.hid (fun W h h2 => put_any r x A l c m W h HF.out (by omega) h2 HMF.out)
  have CP2 := Lib.hid (fun W h h2 => refput_any r x A l c m W h HF.out (by omega) h2 HMF.out)
  have HO : Hid (BxV.abs ⟨r, A, l, c, x⟩ = ⟨r, l.map MsV.abs, x⟩) := Lib.hid rfl
  generalize (⟨r, A, l, c, x⟩ : BxV).abs = o at CT CT2 CP CP2 HFA HO
  have HOL : Hid (o.l.length ≤ 30) := Lib.hid (by rw [HO.out]; simpa using l30)
  generalize takeX o = tx at CT CT2
  have g0 := G.blk.2.1 0 _ rfl
  have g1 := G.blk.2.1 1 _ rfl
  have g2 := G.blk.2.1 2 _ rfl
  clear H30
  go_wp2_with fail
  refine (CT.out _ (hr.up b1)).mono ?_
  rintro e w3 ⟨m1, b1v, rfl, hm1, hb1, om1, ob1, hb⟩
  have HM1 := Lib.hid hm1
  have HB1 := Lib.hid hb1
  have R1 : Ob ((w3.alloc (.cells (msA m1) 39)).alloc (.cells #[.int .i64 b1v.r, .slice b1v.A b1v.l.length b1v.c, .int .i64 b1v.x] 24)) w3.heap.size (msA m1) 39 := (Ob.new w3 (msA m1) 39).alloc (.cells #[.int .i64 b1v.r, .slice b1v.A b1v.l.length b1v.c, .int .i64 b1v.x] 24)
  have Q1 := Ob.new (w3.alloc (.cells (msA m1) 39)) #[.int .i64 b1v.r, .slice b1v.A b1v.l.length b1v.c, .int .i64 b1v.x] 24
  rw [World.size_alloc] at Q1
  have al3 := Below.alloc (Below.alloc (Below.refl w3.heap.size w3) (Nat.le_refl _) (.cells (msA m1) 39)) (by simp) (.cells #[.int .i64 b1v.r, .slice b1v.A b1v.l.length b1v.c, .int .i64 b1v.x] 24)
  have b3 := Gw.call (Gw.call b1 hb) al3
  have om1r := (om1.below al3).rd
  have ob1r := (ob1.below al3).rd
  replace G := (G.call hb).call al3
  replace M := (M.call hb).call al3
  clear hb b1 g0 g1 g2 hm1 hb1 om1 ob1 al3 CT
  have g0 := G.blk.2.1 0 _ rfl
  have g1 := G.blk.2.1 1 _ rfl
  have g2 := G.blk.2.1 2 _ rfl
  go_wp2_with (first | (with_reducible refine stM_under m1 _ _ rfl _ _ rfl rfl rfl rfl ?_) | fail)
  refine (CT2.out _ (hr.up b3)).mono ?_
  rintro e w4 ⟨m2, b2v, rfl, hm2, hb2, om2, ob2, hb⟩
  have HM2 := Lib.hid hm2
  have HB2 := Lib.hid hb2
  have R2 : Ob ((w4.alloc (.cells (msA m2) 39)).alloc (.cells #[.int .i64 b2v.r, .slice b2v.A b2v.l.length b2v.c, .int .i64 b2v.x] 24)) w4.heap.size (msA m2) 39 := (Ob.new w4 (msA m2) 39).alloc (.cells #[.int .i64 b2v.r, .slice b2v.A b2v.l.length b2v.c, .int .i64 b2v.x] 24)
  have Q2 := Ob.new (w4.alloc (.cells (msA m2) 39)) #[.int .i64 b2v.r, .slice b2v.A b2v.l.length b2v.c, .int .i64 b2v.x] 24
  rw [World.size_alloc] at Q2
  have al4 := Below.alloc (Below.alloc (Below.refl w4.heap.size w4) (Nat.le_refl _) (.cells (msA m2) 39)) (by simp) (.cells #[.int .i64 b2v.r, .slice b2v.A b2v.l.length b2v.c, .int .i64 b2v.x] 24)
  have hba := hb.trans (al4.mono hb.size)
  have b4 := Gw.call b3 hba
  have om2r := (om2.below al4).rd
  have ob2r := (ob2.below al4).rd
  replace om1r := om1r.up hba
  replace ob1r := ob1r.up hba
  replace G := G.call hba
  replace M := M.call hba
  replace R1 := R1.call hba
  replace Q1 := Q1.call hba
  clear hb hba b3 g0 g1 g2 hm2 hb2 om2 ob2 al4 CT2
  go_upto_region 5 with (first | (with_reducible refine stM_under m2 _ _ rfl _ _ rfl rfl rfl rfl ?_) | fail)
  generalize (w4.alloc (.cells (msA m2) 39)).alloc (.cells #[.int .i64 b2v.r, .slice b2v.A b2v.l.length b2v.c, .int .i64 b2v.x] 24) = w5 at *
  generalize w3.heap.size = g3 at *
  generalize w4.heap.size = g4 at *
  have bq := Below.drew (Below.refl w5.heap.size w5)
  have CS := Lib.hid (fun W h1 h2 => same_yes m1 m2 W h1 h2 (HM1.out.trans HM2.out.symm) (msv_few HM1.out (take_few HFA.out)))
  have CB2 := Lib.hid (fun W h1 h2 => boxes_yes b1v b2v W h1 h2 (HB1.out.trans HB2.out.symm) (bx_few2 HB1.out (tail_few HFA.out)) (by rw [bx_len2 HB1.out]; have := HOL.out; unfold takeB; simp only [List.length_tail]; omega))
  have CB1 := Lib.hid (fun (p q : BxV) W h1 h2 (hp : p.abs = putB o m.abs) (hq : q.abs = putB o m.abs) => boxes_yes p q W h1 h2 (hp.trans hq.symm) (bx_few2 hp (put_few HFA.out (MsV.few_abs.1 HMF.out))) (by rw [bx_len2 hp]; have := put_len (b := o) (m := m.abs); have := HOL.out; omega))
  have HB : Hid (∀ W, Below w5.heap.size w5 W → (fun W : World => Ob W w.heap.size #[.int .i64 r, .slice A l.length c, .int .i64 x] 24 ∧ Ob W (w.heap.size + 1) (msA m) 39 ∧ Ob W g3 (msA m1) 39 ∧ Ob W (g3 + 1) #[.int .i64 b1v.r, .slice b1v.A b1v.l.length b1v.c, .int .i64 b1v.x] 24 ∧ Ob W g4 (msA m2) 39 ∧ Ob W (g4 + 1) #[.int .i64 b2v.r, .slice b2v.A b2v.l.length b2v.c, .int .i64 b2v.x] 24) W) := Lib.hid fun W hb => ⟨G.call hb, M.call hb, R1.call hb, Q1.call hb, R2.call hb, Q2.call hb⟩
  have q0 : (#[.int .i64 r, .slice A l.length c, .int .i64 x] : Array Value).size = 3 := rfl
  have q1 : (#[.int .i64 b1v.r, .slice b1v.A b1v.l.length b1v.c, .int .i64 b1v.x] : Array Value).size = 3 := rfl
  have q2 : (#[.int .i64 b2v.r, .slice b2v.A b2v.l.length b2v.c, .int .i64 b2v.x] : Array Value).size = 3 := rfl
  refine wp_region_held_drew (S := fun W : World => Ob W w.heap.size #[.int .i64 r, .slice A l.length c, .int .i64 x] 24 ∧ Ob W (w.heap.size + 1) (msA m) 39 ∧ Ob W g3 (msA m1) 39 ∧ Ob W (g3 + 1) #[.int .i64 b1v.r, .slice b1v.A b1v.l.length b1v.c, .int .i64 b1v.x] 24 ∧ Ob W g4 (msA m2) 39 ∧ Ob W (g4 + 1) #[.int .i64 b2v.r, .slice b2v.A b2v.l.length b2v.c, .int .i64 b2v.x] 24) (by kernel_rfl) (HB.out _ bq) (fun hHeld => ?_)
  refine take_d (i := 0) (oi := _) (v := (.agg #[.int .i64 r, .slice A l.length c, .int .i64 x])) (d := some 34) rfl (by kernel_rfl) (by as_aux_lemma => kernel_rfl) (by as_aux_lemma => kernel_rfl) (by as_aux_lemma => kernel_rfl) (fun _ _ _ h => h) (yl_B _ _ (fun W h => h.1) q0 (by kernel_rfl) _ rfl rfl) hHeld ?_
  try simp only [Act.put, List.setIfInBounds_toArray, List.set_cons_zero, List.set_cons_succ]
  refine take_d (i := 1) (oi := _) (v := (.agg (msA m))) (d := some 35) rfl (by kernel_rfl) (by as_aux_lemma => kernel_rfl) (by as_aux_lemma => kernel_rfl) (by as_aux_lemma => kernel_rfl) (fun _ _ _ h => h) (yl_M m _ 0 (fun W h => obM h.2.1) (by kernel_rfl) _ rfl rfl) hHeld ?_
  try simp only [Act.put, List.setIfInBounds_toArray, List.set_cons_zero, List.set_cons_succ]
  refine take_d (i := 3) (oi := _) (v := (.agg #[.int .i64 r, .slice A l.length c, .int .i64 x])) (d := some 37) rfl (by kernel_rfl) (by as_aux_lemma => kernel_rfl) (by as_aux_lemma => kernel_rfl) (by as_aux_lemma => kernel_rfl) (fun _ _ _ h => h) (yl_B _ _ (fun W h => h.1) q0 (by kernel_rfl) _ rfl rfl) hHeld ?_
  try simp only [Act.put, List.setIfInBounds_toArray, List.set_cons_zero, List.set_cons_succ]
  refine take_d (i := 4) (oi := _) (v := (.agg (msA m))) (d := some 38) rfl (by kernel_rfl) (by as_aux_lemma => kernel_rfl) (by as_aux_lemma => kernel_rfl) (by as_aux_lemma => kernel_rfl) (fun _ _ _ h => h) (yl_M m _ 0 (fun W h => obM h.2.1) (by kernel_rfl) _ rfl rfl) hHeld ?_
  try simp only [Act.put, List.setIfInBounds_toArray, List.set_cons_zero, List.set_cons_succ]
  refine wpAnyH_ready (rs := [2]) (by kernel_rfl) (by simp) ?_
  refine AllReadyH.cons rfl (fun K hK => ?_) AllReadyH.nil
  go_simp
  refine (CP.out _ (hr.up (Gw.call b4 bq)) (hmr.up (Gw.call b4 bq))).mono ?_
  rintro e u1 ⟨p1, rfl, hp1, op1, hb⟩
  replace bq := Gw.call bq hb
  have op1r := op1.rd
  clear hb op1
  refine hK.out _ _ (HB.out _ bq) (fun hHeld => ?_)
  clear hK K
  try simp only [Act.put, List.setIfInBounds_toArray, List.set_cons_zero, List.set_cons_succ]
  refine wpAnyH_ready (rs := [5]) (by kernel_rfl) (by simp) ?_
  refine AllReadyH.cons rfl (fun K hK => ?_) AllReadyH.nil
  go_simp
  refine (CP2.out _ (hr.up (Gw.call b4 bq)) (hmr.up (Gw.call b4 bq))).mono ?_
  rintro e u2 ⟨p2, rfl, hp2, op2, hb⟩
  replace bq := Gw.call bq hb
  have op2r := op2.rd
  replace op1r := op1r.up hb
  clear hb op2
  refine hK.out _ _ (HB.out _ bq) (fun hHeld => ?_)
  clear hK K
  try simp only [Act.put, List.setIfInBounds_toArray, List.set_cons_zero, List.set_cons_succ]
  refine wpAnyH_ready (rs := [6]) (by kernel_rfl) (by simp) ?_
  refine AllReadyH.cons rfl (fun K hK => ?_) AllReadyH.nil
  go_simp
  refine (CB1.out p1 p2 _ op1r op2r hp1 hp2).mono ?_
  rintro e u1 ⟨rfl, hb⟩
  replace bq := Gw.call bq hb
  clear hb
  dsimp only
  refine hK.out _ _ (HB.out _ bq) (fun hHeld => ?_)
  clear hK K
  try simp only [Act.put, List.setIfInBounds_toArray, List.set_cons_zero, List.set_cons_succ]
  refine take_d (i := 7) (oi := _) (v := ?_) (d := some 41) rfl (by kernel_rfl) (by as_aux_lemma => kernel_rfl) (by as_aux_lemma => kernel_rfl) (by as_aux_lemma => kernel_rfl) (fun _ _ _ h => h) (Or.inl ⟨by kernel_rfl, ?_⟩) hHeld ?_
  rotate_left
  · intro w hSw; (try dsimp only at hSw); go_simp; (try with_reducible rfl)
  try simp only [Act.put, List.setIfInBounds_toArray, List.set_cons_zero, List.set_cons_succ]
  refine take_d (i := 8) (oi := _) (v := (.agg (msA m1))) (d := some 42) rfl (by kernel_rfl) (by as_aux_lemma => kernel_rfl) (by as_aux_lemma => kernel_rfl) (by as_aux_lemma => kernel_rfl) (fun _ _ _ h => h) (yl_M m1 _ 0 (fun W h => obM h.2.2.1) (by kernel_rfl) _ rfl rfl) hHeld ?_
  try simp only [Act.put, List.setIfInBounds_toArray, List.set_cons_zero, List.set_cons_succ]
  refine take_d (i := 9) (oi := _) (v := (.agg (msA m2))) (d := some 43) rfl (by kernel_rfl) (by as_aux_lemma => kernel_rfl) (by as_aux_lemma => kernel_rfl) (by as_aux_lemma => kernel_rfl) (fun _ _ _ h => h) (yl_M m2 _ 0 (fun W h => obM h.2.2.2.2.1) (by kernel_rfl) _ rfl rfl) hHeld ?_
  try simp only [Act.put, List.setIfInBounds_toArray, List.set_cons_zero, List.set_cons_succ]
  refine wpAnyH_ready (rs := [10]) (by kernel_rfl) (by simp) ?_
  refine AllReadyH.cons rfl (fun K hK => ?_) AllReadyH.nil
  go_simp
  refine (CS.out _ (om1r.up bq) (om2r.up bq)).mono ?_
  rintro e u1 ⟨rfl, hb⟩
  replace bq := Gw.call bq hb
  clear hb
  dsimp only
  refine hK.out _ _ (HB.out _ bq) (fun hHeld => ?_)
  clear hK K
  try simp only [Act.put, List.setIfInBounds_toArray, List.set_cons_zero, List.set_cons_succ]
  refine take_d (i := 11) (oi := _) (v := ?_) (d := some 45) rfl (by kernel_rfl) (by as_aux_lemma => kernel_rfl) (by as_aux_lemma => kernel_rfl) (by as_aux_lemma => kernel_rfl) (fun _ _ _ h => h) (Or.inl ⟨by kernel_rfl, ?_⟩) hHeld ?_
  rotate_left
  · intro w hSw; (try dsimp only at hSw); go_simp; (try with_reducible rfl)
  try simp only [Act.put, List.setIfInBounds_toArray, List.set_cons_zero, List.set_cons_succ]
  refine take_d (i := 12) (oi := _) (v := ?_) (d := some 46) rfl (by kernel_rfl) (by as_aux_lemma => kernel_rfl) (by as_aux_lemma => kernel_rfl) (by as_aux_lemma => kernel_rfl) (fun _ _ _ h => h) (Or.inl ⟨by kernel_rfl, ?_⟩) hHeld ?_
  rotate_left
  · intro w hSw; (try dsimp only at hSw); go_simp; (try with_reducible rfl)
  try simp only [Act.put, List.setIfInBounds_toArray, List.set_cons_zero, List.set_cons_succ]
  refine take_d (i := 13) (oi := _) (v := (.agg #[.int .i64 b1v.r, .slice b1v.A b1v.l.length b1v.c, .int .i64 b1v.x])) (d := some 47) rfl (by kernel_rfl) (by as_aux_lemma => kernel_rfl) (by as_aux_lemma => kernel_rfl) (by as_aux_lemma => kernel_rfl) (fun _ _ _ h => h) (yl_B _ _ (fun W h => h.2.2.2.1) q1 (by kernel_rfl) _ rfl rfl) hHeld ?_
  try simp only [Act.put, List.setIfInBounds_toArray, List.set_cons_zero, List.set_cons_succ]
  refine take_d (i := 14) (oi := _) (v := (.agg #[.int .i64 b2v.r, .slice b2v.A b2v.l.length b2v.c, .int .i64 b2v.x])) (d := some 48) rfl (by kernel_rfl) (by as_aux_lemma => kernel_rfl) (by as_aux_lemma => kernel_rfl) (by as_aux_lemma => kernel_rfl) (fun _ _ _ h => h) (yl_B _ _ (fun W h => h.2.2.2.2.2) q2 (by kernel_rfl) _ rfl rfl) hHeld ?_
  try simp only [Act.put, List.setIfInBounds_toArray, List.set_cons_zero, List.set_cons_succ]
  refine wpAnyH_ready (rs := [15]) (by kernel_rfl) (by simp) ?_
  refine AllReadyH.cons rfl (fun K hK => ?_) AllReadyH.nil
  go_simp
  refine (CB2.out _ (ob1r.up bq) (ob2r.up bq)).mono ?_
  rintro e u1 ⟨rfl, hb⟩
  replace bq := Gw.call bq hb
  clear hb
  dsimp only
  refine hK.out _ _ (HB.out _ bq) (fun hHeld => ?_)
  clear hK K
  try simp only [Act.put, List.setIfInBounds_toArray, List.set_cons_zero, List.set_cons_succ]
  refine take_d (i := 16) (oi := _) (v := ?_) (d := some 50) rfl (by kernel_rfl) (by as_aux_lemma => kernel_rfl) (by as_aux_lemma => kernel_rfl) (by as_aux_lemma => kernel_rfl) (fun _ _ _ h => h) (Or.inl ⟨by kernel_rfl, ?_⟩) hHeld ?_
  rotate_left
  · intro w hSw; (try dsimp only at hSw); go_simp; (try with_reducible rfl)
  try simp only [Act.put, List.setIfInBounds_toArray, List.set_cons_zero, List.set_cons_succ]
  refine take_d (i := 17) (oi := _) (v := ?_) (d := some 51) rfl (by kernel_rfl) (by as_aux_lemma => kernel_rfl) (by as_aux_lemma => kernel_rfl) (by as_aux_lemma => kernel_rfl) (fun _ _ _ h => h) (Or.inl ⟨by kernel_rfl, ?_⟩) hHeld ?_
  rotate_left
  · intro w hSw; (try dsimp only at hSw); go_simp; (try with_reducible rfl)
  try simp only [Act.put, List.setIfInBounds_toArray, List.set_cons_zero, List.set_cons_succ]
  refine take_d (i := 18) (oi := _) (v := ?_) (d := some 52) rfl (by kernel_rfl) (by as_aux_lemma => kernel_rfl) (by as_aux_lemma => kernel_rfl) (by as_aux_lemma => kernel_rfl) (fun _ _ _ h => h) (Or.inl ⟨by kernel_rfl, ?_⟩) hHeld ?_
  rotate_left
  · intro w hSw; (try dsimp only at hSw); go_simp; (try with_reducible rfl)
  try simp only [Act.put, List.setIfInBounds_toArray, List.set_cons_zero, List.set_cons_succ]
  refine take_d (i := 19) (oi := _) (v := ?_) (d := some 53) rfl (by kernel_rfl) (by as_aux_lemma => kernel_rfl) (by as_aux_lemma => kernel_rfl) (by as_aux_lemma => kernel_rfl) (fun _ _ _ h => h) (Or.inl ⟨by kernel_rfl, ?_⟩) hHeld ?_
  rotate_left
  · intro w hSw; (try dsimp only at hSw); go_simp; (try with_reducible rfl)
  try simp only [Act.put, List.setIfInBounds_toArray, List.set_cons_zero, List.set_cons_succ]
  refine take_d (i := 20) (oi := _) (v := .bool true) (d := some 54) rfl (by kernel_rfl) (by as_aux_lemma => kernel_rfl) (by as_aux_lemma => kernel_rfl) (by as_aux_lemma => kernel_rfl) (fun _ _ _ h => h) (Or.inl ⟨by kernel_rfl, ?_⟩) hHeld ?_
  · intro W hSw
    go_simp; first | done | simp
  try simp only [Act.put, List.setIfInBounds_toArray, List.set_cons_zero, List.set_cons_succ]
  refine take_d (i := 21) (oi := _) (v := ?_) (d := some 55) rfl (by kernel_rfl) (by as_aux_lemma => kernel_rfl) (by as_aux_lemma => kernel_rfl) (by as_aux_lemma => kernel_rfl) (fun _ _ _ h => h) (Or.inl ⟨by kernel_rfl, ?_⟩) hHeld ?_
  rotate_left
  · intro w hSw; (try dsimp only at hSw); go_simp; (try with_reducible rfl)
  try simp only [Act.put, List.setIfInBounds_toArray, List.set_cons_zero, List.set_cons_succ]
  refine take_d (i := 22) (oi := _) (v := ?_) (d := some 56) rfl (by kernel_rfl) (by as_aux_lemma => kernel_rfl) (by as_aux_lemma => kernel_rfl) (by as_aux_lemma => kernel_rfl) (fun _ _ _ h => h) (Or.inl ⟨by kernel_rfl, ?_⟩) hHeld ?_
  rotate_left
  · intro w hSw; (try dsimp only at hSw); go_simp; (try with_reducible rfl)
  try simp only [Act.put, List.setIfInBounds_toArray, List.set_cons_zero, List.set_cons_succ]
  refine wpAnyH_ready (rs := [23]) (by kernel_rfl) (by simp) ?_
  refine AllReadyH.cons rfl (fun K hK => ?_) AllReadyH.nil
  go_simp
  refine (awake_any _).mono ?_
  rintro e u1 ⟨rfl, hb⟩
  replace bq := Gw.call bq hb
  clear hb
  dsimp only
  refine hK.out _ _ (HB.out _ bq) (fun hHeld => ?_)
  clear hK K
  try simp only [Act.put, List.setIfInBounds_toArray, List.set_cons_zero, List.set_cons_succ]
  refine take_d (i := 24) (oi := _) (v := ?_) (d := some 58) rfl (by kernel_rfl) (by as_aux_lemma => kernel_rfl) (by as_aux_lemma => kernel_rfl) (by as_aux_lemma => kernel_rfl) (fun _ _ _ h => h) (Or.inl ⟨by kernel_rfl, ?_⟩) hHeld ?_
  rotate_left
  · intro w hSw; (try dsimp only at hSw); go_simp; (try with_reducible rfl)
  try simp only [Act.put, List.setIfInBounds_toArray, List.set_cons_zero, List.set_cons_succ]
  refine take_d (i := 25) (oi := _) (v := ?_) (d := some 4) rfl (by kernel_rfl) (by as_aux_lemma => kernel_rfl) (by as_aux_lemma => kernel_rfl) (by as_aux_lemma => kernel_rfl) (fun _ _ _ h => h) (Or.inl ⟨by kernel_rfl, ?_⟩) hHeld ?_
  rotate_left
  · intro w hSw; (try dsimp only at hSw); go_simp; (try with_reducible rfl)
  try simp only [Act.put, List.setIfInBounds_toArray, List.set_cons_zero, List.set_cons_succ]
  refine wpAnyH_done (by kernel_rfl) ?_ _
  go_wp2_with fail
  go_ret
  exact ⟨rfl, Gw.call b4 bq⟩
end Go.Proofs.Ytbengmgfddnkhaa
