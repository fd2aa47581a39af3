/-
  Boxes of those that tell the same (21).
-/
import Derived.Test.YtbengmgfddnkhaaSame21
namespace Go.Proofs.Ytbengmgfddnkhaa
open Go.RowKit
theorem box_abs {a b : BxV} (h : a.abs = b.abs) : b.r = a.r ∧ b.x = a.x ∧ a.l.map MsV.abs = b.l.map MsV.abs ∧ b.l.length = a.l.length := by
  unfold BxV.abs at h
  injection h with h1 h2 h3
  exact ⟨h1.symm, h3.symm, h2, by have := congrArg List.length h2; simpa using this.symm⟩
set_option maxRecDepth 100000 in
set_option maxHeartbeats 4000000 in
theorem boxes_yes (a b : BxV) (w : World) (ha : a.rd w.heap.size w) (hb : b.rd w.heap.size w) (hab : a.abs = b.abs) (hf : ∀ m ∈ a.l, m.few) (hlen : a.l.length ≤ 100000) :
    Calls Try.prog 11 #[boxv a, boxv b] w fun e w' => e = .returned (.bool true) ∧ Below w.heap.size w w' := by
  obtain ⟨er, ex, el, eln⟩ := box_abs hab
  have HEL := Lib.hid el
  have HF := Lib.hid hf
  have HRA := Lib.hid ha.row
  have HRB := Lib.hid hb.row
  have hao := ha.out
  have hbo := hb.out
  have b0 := Gw.al (Gw.al (Below.refl w.heap.size w) (.cells #[.int .i64 a.r, .slice a.A a.l.length a.c, .int .i64 a.x] 24)) (.cells #[.int .i64 a.r, .slice b.A a.l.length b.c, .int .i64 a.x] 24)
  have G := (Ob.new w #[.int .i64 a.r, .slice a.A a.l.length a.c, .int .i64 a.x] 24).alloc (.cells #[.int .i64 a.r, .slice b.A a.l.length b.c, .int .i64 a.x] 24)
  have H := Ob.new (w.alloc (.cells #[.int .i64 a.r, .slice a.A a.l.length a.c, .int .i64 a.x] 24)) #[.int .i64 a.r, .slice b.A a.l.length b.c, .int .i64 a.x] 24
  rw [World.size_alloc] at H
  have t1 : (a.r != a.r) = false := by simp
  have t2 : (a.x != a.x) = false := by simp
  have t3 : ((a.l.length : Int) != (a.l.length : Int)) = false := by simp
  have hg : #[boxv a, boxv b] = #[.agg #[.int .i64 a.r, .slice a.A a.l.length a.c, .int .i64 a.x], .agg #[.int .i64 a.r, .slice b.A a.l.length b.c, .int .i64 a.x]] := by simp [boxv, er, ex, eln]
  rw [hg]
  clear hg er ex eln el ha hb hab hf
  go_enter Try.func11, Try.ntmps11
  go_wp2_with fail
  generalize (w.alloc (.cells #[.int .i64 a.r, .slice a.A a.l.length a.c, .int .i64 a.x] 24)).alloc (.cells #[.int .i64 a.r, .slice b.A a.l.length b.c, .int .i64 a.x] 24) = w1 at *
  go_loopw [30] (fun i wr => ∃ k : Nat, k ≤ a.l.length ∧ i = .int .i64 k ∧ Below w1.heap.size w1 wr) (fun i _ => a.l.length - (intOf i).toNat)
  case atStart => exact ⟨0, Nat.zero_le _, rfl, Below.refl _ _⟩
  case round =>
    obtain ⟨k, hk, rfl, bl⟩ := hrel
    by_cases hlt : k < a.l.length
    · obtain ⟨x, hx⟩ : ∃ x, a.l[k]? = some x := ⟨_, List.getElem?_eq_getElem hlt⟩
      obtain ⟨y, hy, hxy⟩ : ∃ y, b.l[k]? = some y ∧ x.abs = y.abs := by
        have := congrArg (fun l => l[k]?) HEL.out
        simp only [List.getElem?_map, hx, Option.map_some] at this
        cases hy : b.l[k]? with
        | none => rw [hy] at this; cases this
        | some y => rw [hy] at this; exact ⟨y, rfl, by injection this⟩
      obtain ⟨b1, o1, hA1, hb1, hc1⟩ := hao.at_ hx
      obtain ⟨b2, o2, hA2, hb2, hc2⟩ := hbo.at_ hy
      have hxr := HRA.out x (List.mem_of_getElem? hx)
      have hyr := HRB.out y (List.mem_of_getElem? hy)
      have CS := Lib.hid (fun W h1 h2 => same_yes x y W h1 h2 hxy (HF.out x (List.mem_of_getElem? hx)))
      have HXR := Lib.hid hxr
      have HYR := Lib.hid hyr
      have G1 := G.call bl
      have H1 := H.call bl
      rw [hA1] at G1
      rw [hA2] at H1
      have bw := Gw.call b0 bl
      have ki : (k : Int) < (a.l.length : Int) := by omega
      have kx := G1.blk.2.1 1 _ rfl
      have ky := H1.blk.2.1 1 _ rfl
      have HC1 := Lib.hid hc1
      have HC2 := Lib.hid hc2
      have HA1 := Lib.hid hA1
      have HA2 := Lib.hid hA2
      clear hx hy hxy hxr hyr hc1 hc2 hA1 hA2
      go_upto_region 6 with fail
      have bq := Below.refl wr.heap.size wr
      have HB : Hid (∀ W, Below wr.heap.size wr W → (fun W : World => W.cell? ⟨w.heap.size, 1, none⟩ = some (.slice (some ⟨b1, o1, none⟩) a.l.length a.c) ∧ W.cell? ⟨w.heap.size + 1, 1, none⟩ = some (.slice (some ⟨b2, o2, none⟩) a.l.length b.c) ∧ (∀ j v, (msc x)[j]? = some v → W.cell? ⟨b1, o1 + k * 17 + j, none⟩ = some v) ∧ (∀ j v, (msc y)[j]? = some v → W.cell? ⟨b2, o2 + k * 17 + j, none⟩ = some v)) W) := Lib.hid fun W hb => ⟨(G1.call hb).blk.2.1 1 _ rfl, (H1.call hb).blk.2.1 1 _ rfl, fun j v h => ((Gw.call bw hb).cell (p := ⟨b1, o1 + k * 17 + j, none⟩) hb1).trans (HC1.out j v h), fun j v h => ((Gw.call bw hb).cell (p := ⟨b2, o2 + k * 17 + j, none⟩) hb2).trans (HC2.out j v h)⟩
      refine wp_region_held_drew (S := fun W : World => W.cell? ⟨w.heap.size, 1, none⟩ = some (.slice (some ⟨b1, o1, none⟩) a.l.length a.c) ∧ W.cell? ⟨w.heap.size + 1, 1, none⟩ = some (.slice (some ⟨b2, o2, none⟩) a.l.length b.c) ∧ (∀ j v, (msc x)[j]? = some v → W.cell? ⟨b1, o1 + k * 17 + j, none⟩ = some v) ∧ (∀ j v, (msc y)[j]? = some v → W.cell? ⟨b2, o2 + k * 17 + j, none⟩ = some v)) (by kernel_rfl) (HB.out _ (Below.drew bq)) (fun hHeld => ?_)
      refine take_d (i := 0) (oi := _) (v := ?_) (d := some 33) rfl (by kernel_rfl) (by as_aux_lemma => kernel_rfl) (by as_aux_lemma => kernel_rfl) (by as_aux_lemma => kernel_rfl) (fun _ _ _ h => h) (Or.inl ⟨by kernel_rfl, ?_⟩) hHeld ?_
      rotate_left
      · intro w hSw; (try dsimp only at hSw); go_simp; (try with_reducible rfl)
      try simp only [Act.put, List.setIfInBounds_toArray, List.set_cons_zero, List.set_cons_succ]
      refine take_d (i := 1) (oi := _) (v := ?_) (d := some 34) rfl (by kernel_rfl) (by as_aux_lemma => kernel_rfl) (by as_aux_lemma => kernel_rfl) (by as_aux_lemma => kernel_rfl) (fun _ _ _ h => h) (Or.inl ⟨by kernel_rfl, ?_⟩) hHeld ?_
      rotate_left
      · intro w hSw; (try dsimp only at hSw); go_simp; (try with_reducible rfl)
      try simp only [Act.put, List.setIfInBounds_toArray, List.set_cons_zero, List.set_cons_succ]
      refine take_d (i := 2) (oi := _) (v := ?_) (d := some 35) rfl (by kernel_rfl) (by as_aux_lemma => kernel_rfl) (by as_aux_lemma => kernel_rfl) (by as_aux_lemma => kernel_rfl) (fun _ _ _ h => h) (Or.inl ⟨by kernel_rfl, ?_⟩) hHeld ?_
      rotate_left
      · intro w hSw; (try dsimp only at hSw); go_simp; (try with_reducible rfl)
      try simp only [Act.put, List.setIfInBounds_toArray, List.set_cons_zero, List.set_cons_succ]
      refine take_d (i := 3) (oi := _) (v := ?_) (d := some 36) rfl (by kernel_rfl) (by as_aux_lemma => kernel_rfl) (by as_aux_lemma => kernel_rfl) (by as_aux_lemma => kernel_rfl) (fun _ _ _ h => h) (Or.inl ⟨by kernel_rfl, ?_⟩) hHeld ?_
      rotate_left
      · intro w hSw; (try dsimp only at hSw); go_simp; (try with_reducible rfl)
      try simp only [Act.put, List.setIfInBounds_toArray, List.set_cons_zero, List.set_cons_succ]
      refine take_d (i := 4) (oi := _) (v := (.agg (msA x))) (d := some 37) rfl (by kernel_rfl) (by as_aux_lemma => kernel_rfl) (by as_aux_lemma => kernel_rfl) (by as_aux_lemma => kernel_rfl) (fun _ _ _ h => h) (yl_M x _ _ (fun W h => h.2.2.1) (by kernel_rfl) _ rfl rfl) hHeld ?_
      try simp only [Act.put, List.setIfInBounds_toArray, List.set_cons_zero, List.set_cons_succ]
      refine take_d (i := 5) (oi := _) (v := ?_) (d := some 38) rfl (by kernel_rfl) (by as_aux_lemma => kernel_rfl) (by as_aux_lemma => kernel_rfl) (by as_aux_lemma => kernel_rfl) (fun _ _ _ h => h) (Or.inl ⟨by kernel_rfl, ?_⟩) hHeld ?_
      rotate_left
      · intro w hSw; (try dsimp only at hSw); go_simp; (try with_reducible rfl)
      try simp only [Act.put, List.setIfInBounds_toArray, List.set_cons_zero, List.set_cons_succ]
      refine take_d (i := 6) (oi := _) (v := ?_) (d := some 39) rfl (by kernel_rfl) (by as_aux_lemma => kernel_rfl) (by as_aux_lemma => kernel_rfl) (by as_aux_lemma => kernel_rfl) (fun _ _ _ h => h) (Or.inl ⟨by kernel_rfl, ?_⟩) hHeld ?_
      rotate_left
      · intro w hSw; (try dsimp only at hSw); go_simp; (try with_reducible rfl)
      try simp only [Act.put, List.setIfInBounds_toArray, List.set_cons_zero, List.set_cons_succ]
      refine take_d (i := 7) (oi := _) (v := ?_) (d := some 40) rfl (by kernel_rfl) (by as_aux_lemma => kernel_rfl) (by as_aux_lemma => kernel_rfl) (by as_aux_lemma => kernel_rfl) (fun _ _ _ h => h) (Or.inl ⟨by kernel_rfl, ?_⟩) hHeld ?_
      rotate_left
      · intro w hSw; (try dsimp only at hSw); go_simp; (try with_reducible rfl)
      try simp only [Act.put, List.setIfInBounds_toArray, List.set_cons_zero, List.set_cons_succ]
      refine take_d (i := 8) (oi := _) (v := ?_) (d := some 41) rfl (by kernel_rfl) (by as_aux_lemma => kernel_rfl) (by as_aux_lemma => kernel_rfl) (by as_aux_lemma => kernel_rfl) (fun _ _ _ h => h) (Or.inl ⟨by kernel_rfl, ?_⟩) hHeld ?_
      rotate_left
      · intro w hSw; (try dsimp only at hSw); go_simp; (try with_reducible rfl)
      try simp only [Act.put, List.setIfInBounds_toArray, List.set_cons_zero, List.set_cons_succ]
      refine take_d (i := 9) (oi := _) (v := (.agg (msA y))) (d := some 42) rfl (by kernel_rfl) (by as_aux_lemma => kernel_rfl) (by as_aux_lemma => kernel_rfl) (by as_aux_lemma => kernel_rfl) (fun _ _ _ h => h) (yl_M y _ _ (fun W h => h.2.2.2) (by kernel_rfl) _ rfl rfl) hHeld ?_
      try simp only [Act.put, List.setIfInBounds_toArray, List.set_cons_zero, List.set_cons_succ]
      refine wpAnyH_ready (rs := [10]) (by kernel_rfl) (by simp) ?_
      refine AllReadyH.cons rfl (fun K hK => ?_) AllReadyH.nil
      go_simp
      refine (CS.out _ (HXR.out.up (Gw.call bw (Below.drew bq))) (HYR.out.up (Gw.call bw (Below.drew bq)))).mono ?_
      rintro e u1 ⟨rfl, hb⟩
      replace bq := Gw.call (Below.drew bq) hb
      clear hb
      dsimp only
      refine hK.out _ _ (HB.out _ bq) (fun hHeld => ?_)
      clear hK K
      try simp only [Act.put, List.setIfInBounds_toArray, List.set_cons_zero, List.set_cons_succ]
      refine take_d (i := 11) (oi := _) (v := ?_) (d := some 44) rfl (by kernel_rfl) (by as_aux_lemma => kernel_rfl) (by as_aux_lemma => kernel_rfl) (by as_aux_lemma => kernel_rfl) (fun _ _ _ h => h) (Or.inl ⟨by kernel_rfl, ?_⟩) hHeld ?_
      rotate_left
      · intro w hSw; (try dsimp only at hSw); go_simp; (try with_reducible rfl)
      try simp only [Act.put, List.setIfInBounds_toArray, List.set_cons_zero, List.set_cons_succ]
      refine wpAnyH_done (by kernel_rfl) ?_ _
      clear HB hHeld CS kx ky G1 H1
      go_wp2_with fail
      go_roundw
      case rel => exact ⟨k + 1, hlt, by go_num, Gw.call bl bq⟩
      case measure => simp [intOf]; omega
    · obtain rfl : k = a.l.length := by omega
      go_wp2_with fail
      go_ret
      exact ⟨rfl, Gw.call b0 bl⟩
end Go.Proofs.Ytbengmgfddnkhaa
