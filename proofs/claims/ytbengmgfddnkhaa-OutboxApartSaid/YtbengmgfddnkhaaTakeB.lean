/-
  outbox.Take of an outbox with a message: where what it hands back lies (21, OutboxApart).
-/
import Derived.Test.YtbengmgfddnkhaaTake21
import Derived.Test.YtbengmgfddnkhaaBound
namespace Go.Proofs.Ytbengmgfddnkhaa
open Go.RowKit
set_option maxRecDepth 100000 in
set_option maxHeartbeats 4000000 in
theorem take_bnd (r x : Int) (A : Option Addr) (m : MsV) (t : List MsV) (c : Nat) (w : World) (hr : OutR w.heap.size w A (m :: t)) (hf : ∀ d ∈ m :: t, d.few) (hlen : (m :: t).length ≤ 1000) (hlc : (m :: t).length ≤ c) :
    Calls Try.prog 9 #[.agg #[.int .i64 r, .slice A (m :: t).length c, .int .i64 x]] w fun e w' => ∃ (m' : MsV) (b' : BxV), e = .returned (.tuple #[msv m', boxv b', .bool (takeX (⟨r, A, m :: t, c, x⟩ : BxV).abs)]) ∧ m'.abs = takeM (⟨r, A, m :: t, c, x⟩ : BxV).abs ∧ b'.abs = takeB (⟨r, A, m :: t, c, x⟩ : BxV).abs ∧ (∃ Lm, w.heap.size ≤ Lm ∧ m'.bnd Lm ∧ b'.own Lm w') ∧ m'.own w.heap.size w' ∧ Below w.heap.size w w' := by
  have b0 := Gw.al (Gw.al (Gw.al (Below.refl w.heap.size w) (.cells #[.int .i64 r, .slice A (m :: t).length c, .int .i64 x] 24)) (.cells #[.int .u8 0, .int .u8 0, .int .u16 0, .int .u8 0, .slice none 0 0, .slice none 0 0, .int .u8 0, .int .u16 0, .int .u32 0, .slice none 0 0, .slice none 0 0, .int .u8 0, .int .u8 0, .int .u16 0, .int .u32 0, .slice none 0 0, .slice none 0 0] 39)) (.cells #[.int .i64 0, .slice none 0 0, .int .i64 0] 24)
  have G := ((Ob.new w #[.int .i64 r, .slice A (m :: t).length c, .int .i64 x] 24).alloc (.cells #[.int .u8 0, .int .u8 0, .int .u16 0, .int .u8 0, .slice none 0 0, .slice none 0 0, .int .u8 0, .int .u16 0, .int .u32 0, .slice none 0 0, .slice none 0 0, .int .u8 0, .int .u8 0, .int .u16 0, .int .u32 0, .slice none 0 0, .slice none 0 0] 39)).alloc (.cells #[.int .i64 0, .slice none 0 0, .int .i64 0] 24)
  have Y := (Ob.new (w.alloc (.cells #[.int .i64 r, .slice A (m :: t).length c, .int .i64 x] 24)) #[.int .u8 0, .int .u8 0, .int .u16 0, .int .u8 0, .slice none 0 0, .slice none 0 0, .int .u8 0, .int .u16 0, .int .u32 0, .slice none 0 0, .slice none 0 0, .int .u8 0, .int .u8 0, .int .u16 0, .int .u32 0, .slice none 0 0, .slice none 0 0] 39).alloc (.cells #[.int .i64 0, .slice none 0 0, .int .i64 0] 24)
  have Z := Ob.new ((w.alloc (.cells #[.int .i64 r, .slice A (m :: t).length c, .int .i64 x] 24)).alloc (.cells #[.int .u8 0, .int .u8 0, .int .u16 0, .int .u8 0, .slice none 0 0, .slice none 0 0, .int .u8 0, .int .u16 0, .int .u32 0, .slice none 0 0, .slice none 0 0, .int .u8 0, .int .u8 0, .int .u16 0, .int .u32 0, .slice none 0 0, .slice none 0 0] 39)) #[.int .i64 0, .slice none 0 0, .int .i64 0] 24
  simp only [World.size_alloc] at Y Z
  have s0 : w.heap.size + 3 ≤ (((w.alloc (.cells #[.int .i64 r, .slice A (m :: t).length c, .int .i64 x] 24)).alloc (.cells #[.int .u8 0, .int .u8 0, .int .u16 0, .int .u8 0, .slice none 0 0, .slice none 0 0, .int .u8 0, .int .u16 0, .int .u32 0, .slice none 0 0, .slice none 0 0, .int .u8 0, .int .u8 0, .int .u16 0, .int .u32 0, .slice none 0 0, .slice none 0 0] 39)).alloc (.cells #[.int .i64 0, .slice none 0 0, .int .i64 0] 24)).heap.size := by simp only [World.size_alloc]; omega
  have k1 := G.blk.2.1 1 _ rfl
  have n1 : w.heap.size + 1 ≠ w.heap.size := by omega
  have n2 : w.heap.size + 1 + 1 ≠ w.heap.size := by omega
  have n3 : w.heap.size + 1 ≠ w.heap.size + 1 + 1 := by omega
  have n4 : w.heap.size ≠ w.heap.size + 1 := by omega
  have n5 : w.heap.size ≠ w.heap.size + 1 + 1 := by omega
  have n6 : w.heap.size + 1 + 1 ≠ w.heap.size + 1 := by omega
  have hmr := hr.row m (by simp)
  have hmf := hf m (by simp)
  obtain ⟨b, o, rfl, hb, hc⟩ := hr.out.at_ (k := 0) (x := m) rfl
  have HC := Lib.hid (fun j v h => (b0.cell (p := ⟨b, o + 0 * 17 + j, none⟩) hb).trans (hc j v h))
  have hrt : OutR w.heap.size w (if c = 1 then some ⟨b, o, none⟩ else some ⟨b, o + 17, none⟩) t := by
    have h := hr.out.cut (k := 1) (cap := c) hlc
    refine ⟨?_, fun d hd => hr.row d (by simp [hd])⟩
    by_cases h1 : c = 1
    · rw [if_pos h1] at h ⊢; exact h
    · rw [if_neg h1] at h ⊢; simpa [Addr.add] using h
  have hft : ∀ d ∈ t, d.few := fun d hd => hf d (by simp [hd])
  have tl : t.length ≤ 1000 := by simp only [List.length_cons] at hlen; omega
  have HFT := Lib.hid hft
  have lt0 : (0 : Int) < ((m :: t).length : Int) := by simp only [List.length_cons]; omega
  have lt1 : (((m :: t).length : Int) == 0) = false := by rw [beq_eq_false_iff_ne]; simp only [List.length_cons]; omega
  obtain ⟨n, hn⟩ : ∃ n, n = (m :: t).length := ⟨_, rfl⟩
  have hnt : n = t.length + 1 := hn
  rw [← hn] at hlc lt0 lt1 k1 b0 G Y Z s0 HC ⊢
  have HN := Lib.hid hn
  have HNT := Lib.hid hnt
  have n1c : (1 : Int) ≤ (c : Int) := by omega
  have n1l : (1 : Int) ≤ (n : Int) := by omega
  have TN := Lib.hid (show ((n : Int) - 1) = ((t.length : Nat) : Int) by omega)
  clear hn hf hft hc hr hlen hnt
  have CX := Lib.hid (fun W h => message_any m W h hmf)
  go_enter Try.func9, Try.ntmps9
  go_wp2_with (first | (with_reducible refine ldM m b (o + 0 * 17) HC.out rfl _ rfl rfl ?_) | fail)
  refine (CX.out _ (hmr.up b0)).mono ?_
  rintro e w1 ⟨m', rfl, hma, hmo, hb⟩
  have HBD := Lib.hid hmo.bnd
  replace hmo := (hmo.base_le s0)
  have HMA := Lib.hid hma
  have s1 := Nat.le_trans s0 hb.size
  have b1 := Gw.al (Gw.call b0 hb) (.cells (msA m') 39)
  replace G := (G.call hb).alloc (.cells (msA m') 39)
  replace Y := (Y.call hb).alloc (.cells (msA m') 39)
  replace Z := (Z.call hb).alloc (.cells (msA m') 39)
  have X := Ob.new w1 (msA m') 39
  have al := Below.alloc (Below.refl w1.heap.size w1) (Nat.le_refl _) (.cells (msA m') 39)
  replace hmo := hmo.below al
  have s3 := s1
  have sal : w1.heap.size ≤ (w1.alloc (.cells (msA m') 39)).heap.size := al.size
  have nx : w1.heap.size ≠ w.heap.size := by omega
  have nx1 : w1.heap.size ≠ w.heap.size + 1 := by omega
  have nx2 : w1.heap.size ≠ w.heap.size + 1 + 1 := by omega
  clear hb b0 k1 s0 s1 hma al HC CX hmr hmf
  have k1 := G.blk.2.1 1 _ rfl
  have CE : Hid (∀ (AX : Option Addr) (W : World) (k : Nat) (cap : Nat), k = t.length → OutR W.heap.size W AX t → Calls Try.prog 19 #[.slice AX k cap, .func (.func 18) #[] #[]] W fun e w' => ∃ A' c' ds, e = .returned (.slice A' k c') ∧ ds.map MsV.abs = t.map MsV.abs ∧ OutX W.heap.size w' (.slice A' k c') ds ∧ Below W.heap.size W w') := Lib.hid fun AX W k cap hk h => by
    subst hk
    exact eachMs t AX cap W h HFT.out (by omega)
  have N1 : Hid (n - 1 = t.length) := Lib.hid (by have := HNT.out; omega)
  obtain ⟨AX, hAX⟩ : ∃ AX, AX = (if c = 1 then some (⟨b, o, none⟩ : Addr) else some ⟨b, o + 17, none⟩) := ⟨_, rfl⟩
  rw [← hAX] at hrt
  have hAX2 : (if c = 1 then some (⟨b, o, none⟩ : Addr) else some ⟨b, o + 17, none⟩) = AX := hAX.symm
  clear hAX
  go_wp2_with (first | (with_reducible refine stM_new m' _ rfl _ _ rfl rfl rfl rfl ?_) | fail)
  refine (CE.out AX _ _ _ N1.out (hrt.up b1)).mono ?_
  rintro e w2 ⟨A2, c2, ds, rfl, hds, o2, hb⟩
  have HDS := Lib.hid hds
  have HDL : Hid (ds.length = n - 1) := Lib.hid (by rw [N1.out]; have := congrArg List.length hds; simpa using this)
  replace o2 := o2.base_le sal
  have b2 := Gw.call b1 hb
  replace G := G.call hb
  replace Y := Y.call hb
  replace Z := Z.call hb
  replace X := X.call hb
  replace hmo := hmo.below hb
  clear hb b1 k1 sal hds CE hrt
  have k1 := G.blk.2.1 1 _ rfl
  have gf := G.blk.2.2
  have HG : w2.grownBy (w2.setCell ⟨w.heap.size, 1, none⟩ (.slice A2 (n - 1) c2)) (some w.heap.size) := grown_set w2 ⟨w.heap.size, 1, none⟩ (.slice A2 (n - 1) c2)
  have G1 : Ob (w2.setCell ⟨w.heap.size, 1, none⟩ (.slice A2 (n - 1) c2)) w.heap.size #[.int .i64 r, .slice A2 (n - 1) c2, .int .i64 x] 24 := G.set 1 (.slice A2 (n - 1) c2)
  have Y1 := Y.far (p := w.heap.size) (j := 1) n1 (.slice A2 (n - 1) c2)
  have Z1 := Z.far (p := w.heap.size) (j := 1) n2 (.slice A2 (n - 1) c2)
  have X1 := X.far (p := w.heap.size) (j := 1) nx (.slice A2 (n - 1) c2)
  have B := Below.drew (Gw.hop b2 HG (Nat.le_refl _))
  have o3 := o2.hop HG (by omega)
  have hmo3 := hmo.hop HG (by omega)
  have q1 : (#[.int .i64 r, .slice A2 (n - 1) c2, .int .i64 x] : Array Value).size = 3 := rfl
  have q2 : (#[.int .i64 r, .slice A2 (n - 1) c2, .int .i64 x] : Array Value).all (·.oneCell') = true := box_one _ _ _ _ _
  have q3 : (#[.int .i64 0, .slice none 0 0, .int .i64 0] : Array Value).size = 3 := rfl
  have q4 : (#[.int .u8 0, .int .u8 0, .int .u16 0, .int .u8 0, .slice none 0 0, .slice none 0 0, .int .u8 0, .int .u16 0, .int .u32 0, .slice none 0 0, .slice none 0 0, .int .u8 0, .int .u8 0, .int .u16 0, .int .u32 0, .slice none 0 0, .slice none 0 0] : Array Value).size = 17 := rfl
  go_upto_region 6 with fail
  clear G Y Z X b2 HG k1 gf hmo o2 hAX2
  generalize w2.setCell ⟨w.heap.size, 1, none⟩ (.slice A2 (n - 1) c2) = wq at *
  replace o3 : OutX _ wq.drew _ _ := o3.below (Below.drew (Below.refl _ _))
  replace hmo3 : MsV.own _ wq.drew _ := hmo3.below (Below.drew (Below.refl _ _))
  refine wp_region_held_drew (S := fun W : World => Ob W w.heap.size #[.int .i64 r, .slice A2 (n - 1) c2, .int .i64 x] 24 ∧ Ob W w1.heap.size (msA m') 39) (by kernel_rfl) (⟨G1, X1⟩) (fun hHeld => ?_)
  refine take_d (i := 0) (oi := _) (v := (.agg (msA m'))) (d := some 23) rfl (by kernel_rfl) (by as_aux_lemma => kernel_rfl) (by as_aux_lemma => kernel_rfl) (by as_aux_lemma => kernel_rfl) (fun _ _ _ h => h) (yl_M m' _ 0 (fun W h => obM h.2) (by kernel_rfl) _ rfl rfl) hHeld ?_
  try simp only [Act.put, List.setIfInBounds_toArray, List.set_cons_zero, List.set_cons_succ]
  refine take_d (i := 1) (oi := _) (v := (.agg #[.int .i64 r, .slice A2 (n - 1) c2, .int .i64 x])) (d := some 24) rfl (by kernel_rfl) (by as_aux_lemma => kernel_rfl) (by as_aux_lemma => kernel_rfl) (by as_aux_lemma => kernel_rfl) (fun _ _ _ h => h) (yl_B _ _ (fun W h => h.1) q1 (by kernel_rfl) _ rfl rfl) hHeld ?_
  try simp only [Act.put, List.setIfInBounds_toArray, List.set_cons_zero, List.set_cons_succ]
  refine wpAnyH_ready (rs := [2]) (by kernel_rfl) (by simp) ?_
  refine AllReadyH.cons rfl (fun K hK => ?_) AllReadyH.nil
  refine step_stM m' _ _ Y1 q4 rfl _ _ rfl rfl rfl ?_
  replace B := Gw.hop B (setRow_grown _ (w.heap.size + 1) (msA m')) (by omega)
  replace o3 := o3.hop (setRow_grown _ (w.heap.size + 1) (msA m')) (by omega)
  replace hmo3 := hmo3.hop (setRow_grown _ (w.heap.size + 1) (msA m')) (by omega)
  replace G1 := G1.setRow_far n4 (msA m')
  replace Z1 := Z1.setRow_far n6 (msA m')
  replace X1 := X1.setRow_far nx1 (msA m')
  replace Y1 := Y1.setRow (msA m')
  refine hK.out _ _ (⟨G1, X1⟩) (fun hHeld => ?_)
  clear hK K
  try simp only [Act.put, List.setIfInBounds_toArray, List.set_cons_zero, List.set_cons_succ]
  refine wpAnyH_ready (rs := [3]) (by kernel_rfl) (by simp) ?_
  refine AllReadyH.cons rfl (fun K hK => ?_) AllReadyH.nil
  refine step_stB #[.int .i64 r, .slice A2 (n - 1) c2, .int .i64 x] _ _ Z1 q3 q1 q2 rfl _ _ rfl rfl rfl ?_
  replace B := Gw.hop B (setRow_grown _ (w.heap.size + 1 + 1) #[.int .i64 r, .slice A2 (n - 1) c2, .int .i64 x]) (by omega)
  replace o3 := o3.hop (setRow_grown _ (w.heap.size + 1 + 1) #[.int .i64 r, .slice A2 (n - 1) c2, .int .i64 x]) (by omega)
  replace hmo3 := hmo3.hop (setRow_grown _ (w.heap.size + 1 + 1) #[.int .i64 r, .slice A2 (n - 1) c2, .int .i64 x]) (by omega)
  replace G1 := G1.setRow_far n5 #[.int .i64 r, .slice A2 (n - 1) c2, .int .i64 x]
  replace Y1 := Y1.setRow_far n3 #[.int .i64 r, .slice A2 (n - 1) c2, .int .i64 x]
  replace X1 := X1.setRow_far nx2 #[.int .i64 r, .slice A2 (n - 1) c2, .int .i64 x]
  replace Z1 := Z1.setRow #[.int .i64 r, .slice A2 (n - 1) c2, .int .i64 x]
  refine hK.out _ _ (⟨G1, X1⟩) (fun hHeld => ?_)
  clear hK K
  try simp only [Act.put, List.setIfInBounds_toArray, List.set_cons_zero, List.set_cons_succ]
  refine take_d (i := 4) (oi := _) (v := ?_) (d := some 4) rfl (by kernel_rfl) (by as_aux_lemma => kernel_rfl) (by as_aux_lemma => kernel_rfl) (by as_aux_lemma => kernel_rfl) (fun _ _ _ h => h) (Or.inl ⟨by kernel_rfl, ?_⟩) hHeld ?_
  rotate_left
  · intro w hSw; (try dsimp only at hSw); go_simp; (try with_reducible rfl)
  try simp only [Act.put, List.setIfInBounds_toArray, List.set_cons_zero, List.set_cons_succ]
  refine wpAnyH_done (by kernel_rfl) ?_ _
  go_wp2_with fail
  (try simp only [Exit.inBlock, Exit.then])
  refine bodyPost_ret (results_c2t rfl _ _ (w.heap.size + 1) (w.heap.size + 1 + 1) 39 24 (msA m') #[.int .i64 r, .slice A2 (n - 1) c2, .int .i64 x] _ _ rfl rfl Y1 Z1 Try.underlying39 Try.underlying24 rfl rfl Try.size21Ms Try.size21Bx) rfl ⟨m', ⟨r, A2, ds, c2, x⟩, by show _ = Ending.returned (.tuple #[_, .agg #[_, .slice A2 ds.length c2, _], _]); rw [HDL.out]; rfl, HMA.out, by show Bx.mk _ _ _ = _; rw [HDS.out]; rfl, ⟨w1.heap.size, by omega, HBD.out, by show OutX _ _ (.slice A2 ds.length c2) _; rw [HDL.out]; exact o3⟩, hmo3.base_le (by omega), B⟩
end Go.Proofs.Ytbengmgfddnkhaa
