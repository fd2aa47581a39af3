/-
  The closure of stable.Stable: does a member lag? (19)
-/
import Derived.Test.YtcclnfpegepcnaaOf
import Derived.Test.YtcclnfpegepcnaaReport
import Derived.Test.YtcclnfpegepcnaaMem
namespace Go.Proofs.Ytcclnfpegepcnaa
open Go.RowKit
/-- does a member at place k lag? r: the row of the id's node -/
def lagB (k : Nat) (mb : Mb) (self : Int) (r : Rw) (t : List (List Id)) (x : Id) : Bool :=
  if mb.i = 0 ∨ mb.s = 3 then false
  else if (k : Int) = self then !passedB ⟨x.n, r.i, r.p⟩ x
  else !passedB (ofL t k x.n.toNat) x
set_option maxRecDepth 100000 in
set_option maxHeartbeats 4000000 in
theorem lags_any (k : Nat) (mb : Mb) (self : Int) (x : Id) (rows : List Rw) (t : List (List Id)) (r : Rw) (A B : Option Addr) (ca cb n gs gx gr gt : Nat) (w : World) (hk : k ≤ 255) (hself : 0 ≤ self ∧ self ≤ 255) (hx : x.ok) (hrx : rows[x.n.toNat]? = some r) (hln : t.length = n)
    (rr : Rd rowc 3 w.heap.size w B rows) (rt : Rep w.heap.size w A t)
    (cs : w.cell? ⟨gs, 0, none⟩ = some (.int .u8 self)) (cx : Ob w gx #[.int .u8 x.n, .int .u16 x.i, .int .u32 x.s] 28) (cr : w.cell? ⟨gr, 0, none⟩ = some (.slice B rows.length cb)) (ct : w.cell? ⟨gt, 0, none⟩ = some (.slice A n ca)) :
    Calls Try.prog 27 #[.int .i64 k, memv mb, .pointer (some ⟨gs, 0, none⟩), .pointer (some ⟨gx, 0, none⟩), .pointer (some ⟨gr, 0, none⟩), .pointer (some ⟨gt, 0, none⟩)] w fun e w' => e = .returned (.bool (lagB k mb self r t x)) ∧ Below w.heap.size w w' := by
  obtain ⟨⟨n0, n1⟩, _, _⟩ := id hx
  obtain ⟨x1, x2, x3⟩ := x
  simp only at n0 n1 hrx
  obtain ⟨a, rfl⟩ := Int.eq_ofNat_of_zero_le n0
  simp only [Int.toNat_natCast] at hrx
  have b0 := Gw.al (Below.refl w.heap.size w) (.cells #[.int .u16 mb.i, .int .u8 mb.s, .int .u8 mb.q] 39)
  have hr1 := hrx
  have hax : a < rows.length := (List.getElem?_eq_some_iff.1 hrx).1
  have ws : IntKind.i64.wrap self = self := IntWalk.i64_in _ (by omega)
  have wk : IntKind.u8.wrap (k : Int) = (k : Int) := IntWalk.u8_in _ (by omega)
  have CS := World.cell?_alloc_old cs (.cells #[.int .u16 mb.i, .int .u8 mb.s, .int .u8 mb.q] 39)
  have CR := World.cell?_alloc_old cr (.cells #[.int .u16 mb.i, .int .u8 mb.s, .int .u8 mb.q] 39)
  have CT := World.cell?_alloc_old ct (.cells #[.int .u16 mb.i, .int .u8 mb.s, .int .u8 mb.q] 39)
  have GX := cx.alloc (.cells #[.int .u16 mb.i, .int .u8 mb.s, .int .u8 mb.q] 39)
  have RR := Rd.allocS rr (.cells #[.int .u16 mb.i, .int .u8 mb.s, .int .u8 mb.q] 39)
  have RT := rt.up (Below.alloc (Below.refl _ _) (Nat.le_refl _) (.cells #[.int .u16 mb.i, .int .u8 mb.s, .int .u8 mb.q] 39))
  unfold lagB
  by_cases h1 : mb.i = 0
  · have t1 : (mb.i == 0) = true := by simp [h1]
    rw [if_pos (Or.inl h1)]
    clear h1
    go_enter Try.func27, Try.ntmps27
    go_wp2_with fail
    go_ret
    exact ⟨rfl, b0⟩
  have t1 : (mb.i == 0) = false := by rw [beq_eq_false_iff_ne]; exact h1
  by_cases h2 : mb.s = 3
  · have t2 : (mb.s == 3) = true := by simp [h2]
    rw [if_pos (Or.inr h2)]
    clear h1 h2
    go_enter Try.func27, Try.ntmps27
    go_wp2_with fail
    go_ret
    exact ⟨rfl, b0⟩
  have t2 : (mb.s == 3) = false := by rw [beq_eq_false_iff_ne]; exact h2
  rw [if_neg (by rintro (h | h); exact h1 h; exact h2 h)]
  clear h1 h2
  by_cases h3 : (k : Int) = self
  · have t3 : ((k : Int) == self) = true := by rw [beq_iff_eq]; exact h3
    rw [if_pos h3]
    clear h3
    have ai : (a : Int) < (rows.length : Int) := by omega
    go_enter Try.func27, Try.ntmps27
    go_upto_region 4 with fail
    generalize hwq : w.alloc (.cells #[.int .u16 mb.i, .int .u8 mb.s, .int .u8 mb.q] 39) = wq at *
    have bq := Below.refl wq.heap.size wq
    obtain ⟨bR, oR, hB, hbR, hc⟩ := RR.at_ hrx
    subst hB
    have e0 : wq.cell? ⟨bR, oR + a * 3, none⟩ = some (.int .u16 r.i) := hc 0 _ rfl
    have e1 : wq.cell? ⟨bR, oR + a * 3 + 1, none⟩ = some (.int .u32 r.p) := hc 1 _ rfl
    have e2 : wq.cell? ⟨bR, oR + a * 3 + 2, none⟩ = some (.int .u64 r.b) := hc 2 _ rfl
    have hgr : gr < wq.heap.size := World.block_lt_of_cell? wq _ CR
    have HB : Hid (∀ W, Below wq.heap.size wq W → (fun W : World => W.cell? ⟨gx, 0, none⟩ = some (.int .u8 (a : Int)) ∧ W.cell? ⟨gx, 1, none⟩ = some (.int .u16 x2) ∧ W.cell? ⟨gx, 2, none⟩ = some (.int .u32 x3) ∧ W.cell? ⟨gr, 0, none⟩ = some (.slice (some ⟨bR, oR, none⟩) rows.length cb) ∧ W.cell? ⟨bR, oR + a * 3, none⟩ = some (.int .u16 r.i) ∧ W.cell? ⟨bR, oR + a * 3 + 1, none⟩ = some (.int .u32 r.p) ∧ W.cell? ⟨bR, oR + a * 3 + 2, none⟩ = some (.int .u64 r.b)) W) := Lib.hid fun W hb => ⟨(GX.call hb).blk.2.1 0 _ rfl, (GX.call hb).blk.2.1 1 _ rfl, (GX.call hb).blk.2.1 2 _ rfl, (hb.cell (p := ⟨gr, _, none⟩) hgr).trans CR, (hb.cell (p := ⟨bR, _, none⟩) hbR).trans e0, (hb.cell (p := ⟨bR, _, none⟩) hbR).trans e1, (hb.cell (p := ⟨bR, _, none⟩) hbR).trans e2⟩
    clear hc e0 e1 e2 CS CR CT RR RT rr rt cs cr ct hrx cx hr1
    refine wp_region_held_drew (S := fun W : World => W.cell? ⟨gx, 0, none⟩ = some (.int .u8 (a : Int)) ∧ W.cell? ⟨gx, 1, none⟩ = some (.int .u16 x2) ∧ W.cell? ⟨gx, 2, none⟩ = some (.int .u32 x3) ∧ W.cell? ⟨gr, 0, none⟩ = some (.slice (some ⟨bR, oR, none⟩) rows.length cb) ∧ W.cell? ⟨bR, oR + a * 3, none⟩ = some (.int .u16 r.i) ∧ W.cell? ⟨bR, oR + a * 3 + 1, none⟩ = some (.int .u32 r.p) ∧ W.cell? ⟨bR, oR + a * 3 + 2, none⟩ = some (.int .u64 r.b)) (by kernel_rfl) (HB.out _ (Below.drew bq)) (fun hHeld => ?_)
    refine take_d (i := 0) (oi := _) (v := ?_) (d := some 22) rfl (by kernel_rfl) (by as_aux_lemma => kernel_rfl) (by as_aux_lemma => kernel_rfl) (by as_aux_lemma => kernel_rfl) (fun _ _ _ h => h) (Or.inl ⟨by kernel_rfl, ?_⟩) hHeld ?_
    rotate_left
    · intro w hSw; (try dsimp only at hSw); go_simp; (try with_reducible rfl)
    try simp only [Act.put, List.setIfInBounds_toArray, List.set_cons_zero, List.set_cons_succ]
    refine take_d (i := 1) (oi := _) (v := ?_) (d := some 23) rfl (by kernel_rfl) (by as_aux_lemma => kernel_rfl) (by as_aux_lemma => kernel_rfl) (by as_aux_lemma => kernel_rfl) (fun _ _ _ h => h) (Or.inl ⟨by kernel_rfl, ?_⟩) hHeld ?_
    rotate_left
    · intro w hSw; (try dsimp only at hSw); go_simp; (try with_reducible rfl)
    try simp only [Act.put, List.setIfInBounds_toArray, List.set_cons_zero, List.set_cons_succ]
    refine take_d (i := 2) (oi := _) (v := ?_) (d := some 24) rfl (by kernel_rfl) (by as_aux_lemma => kernel_rfl) (by as_aux_lemma => kernel_rfl) (by as_aux_lemma => kernel_rfl) (fun _ _ _ h => h) (Or.inl ⟨by kernel_rfl, ?_⟩) hHeld ?_
    rotate_left
    · intro w hSw; (try dsimp only at hSw); go_simp; (try with_reducible rfl)
    try simp only [Act.put, List.setIfInBounds_toArray, List.set_cons_zero, List.set_cons_succ]
    refine take_d (i := 3) (oi := _) (v := ?_) (d := some 25) rfl (by kernel_rfl) (by as_aux_lemma => kernel_rfl) (by as_aux_lemma => kernel_rfl) (by as_aux_lemma => kernel_rfl) (fun _ _ _ h => h) (Or.inl ⟨by kernel_rfl, ?_⟩) hHeld ?_
    rotate_left
    · intro w hSw; (try dsimp only at hSw); go_simp; (try with_reducible rfl)
    try simp only [Act.put, List.setIfInBounds_toArray, List.set_cons_zero, List.set_cons_succ]
    refine take_d (i := 4) (oi := _) (v := ?_) (d := some 26) rfl (by kernel_rfl) (by as_aux_lemma => kernel_rfl) (by as_aux_lemma => kernel_rfl) (by as_aux_lemma => kernel_rfl) (fun _ _ _ h => h) (Or.inl ⟨by kernel_rfl, ?_⟩) hHeld ?_
    rotate_left
    · intro w hSw; (try dsimp only at hSw); go_simp; (try with_reducible rfl)
    try simp only [Act.put, List.setIfInBounds_toArray, List.set_cons_zero, List.set_cons_succ]
    refine take_d (i := 5) (oi := _) (v := ?_) (d := some 27) rfl (by kernel_rfl) (by as_aux_lemma => kernel_rfl) (by as_aux_lemma => kernel_rfl) (by as_aux_lemma => kernel_rfl) (fun _ _ _ h => h) (Or.inl ⟨by kernel_rfl, ?_⟩) hHeld ?_
    rotate_left
    · intro w hSw; (try dsimp only at hSw); go_simp; (try with_reducible rfl)
    try simp only [Act.put, List.setIfInBounds_toArray, List.set_cons_zero, List.set_cons_succ]
    refine take_d (i := 6) (oi := _) (v := ?_) (d := some 28) rfl (by kernel_rfl) (by as_aux_lemma => kernel_rfl) (by as_aux_lemma => kernel_rfl) (by as_aux_lemma => kernel_rfl) (fun _ _ _ h => h) (Or.inl ⟨by kernel_rfl, ?_⟩) hHeld ?_
    rotate_left
    · intro w hSw; (try dsimp only at hSw); go_simp; (try with_reducible rfl)
    try simp only [Act.put, List.setIfInBounds_toArray, List.set_cons_zero, List.set_cons_succ]
    refine take_d (i := 8) (oi := _) (v := ?_) (d := some 30) rfl (by kernel_rfl) (by as_aux_lemma => kernel_rfl) (by as_aux_lemma => kernel_rfl) (by as_aux_lemma => kernel_rfl) (fun _ _ _ h => h) (Or.inl ⟨by kernel_rfl, ?_⟩) hHeld ?_
    rotate_left
    · intro w hSw; (try dsimp only at hSw); go_simp; (try with_reducible rfl)
    try simp only [Act.put, List.setIfInBounds_toArray, List.set_cons_zero, List.set_cons_succ]
    refine wpAnyH_ready (rs := [7]) (by kernel_rfl) (by simp) ?_
    refine AllReadyH.cons rfl (fun K hK => ?_) AllReadyH.nil
    go_simp
    refine (markof_any (a : Int) r _).mono ?_
    rintro e u1 ⟨rfl, hb⟩
    replace bq := (by first | exact Gw.call bq hb | exact Gw.call (Below.drew bq) hb)
    clear hb
    dsimp only
    refine hK.out _ _ (HB.out _ bq) (fun hHeld => ?_)
    clear hK K
    try simp only [Act.put, List.setIfInBounds_toArray, List.set_cons_zero, List.set_cons_succ]
    refine wpAnyH_ready (rs := [9]) (by kernel_rfl) (by simp) ?_
    refine AllReadyH.cons rfl (fun K hK => ?_) AllReadyH.nil
    go_simp
    refine (passed_any ⟨(a : Int), r.i, r.p⟩ ⟨(a : Int), x2, x3⟩ _).mono ?_
    rintro e u2 ⟨rfl, hb⟩
    replace bq := (by first | exact Gw.call bq hb | exact Gw.call (Below.drew bq) hb)
    clear hb
    dsimp only
    refine hK.out _ _ (HB.out _ bq) (fun hHeld => ?_)
    clear hK K
    try simp only [Act.put, List.setIfInBounds_toArray, List.set_cons_zero, List.set_cons_succ]
    refine take_d (i := 10) (oi := _) (v := ?_) (d := some 32) rfl (by kernel_rfl) (by as_aux_lemma => kernel_rfl) (by as_aux_lemma => kernel_rfl) (by as_aux_lemma => kernel_rfl) (fun _ _ _ h => h) (Or.inl ⟨by kernel_rfl, ?_⟩) hHeld ?_
    rotate_left
    · intro w hSw; (try dsimp only at hSw); go_simp; (try with_reducible rfl)
    try simp only [Act.put, List.setIfInBounds_toArray, List.set_cons_zero, List.set_cons_succ]
    refine take_d (i := 11) (oi := _) (v := ?_) (d := some 8) rfl (by kernel_rfl) (by as_aux_lemma => kernel_rfl) (by as_aux_lemma => kernel_rfl) (by as_aux_lemma => kernel_rfl) (fun _ _ _ h => h) (Or.inl ⟨by kernel_rfl, ?_⟩) hHeld ?_
    rotate_left
    · intro w hSw; (try dsimp only at hSw); go_simp; (try with_reducible rfl)
    try simp only [Act.put, List.setIfInBounds_toArray, List.set_cons_zero, List.set_cons_succ]
    refine wpAnyH_done (by kernel_rfl) ?_ _
    go_wp2_with fail
    go_ret
    exact ⟨rfl, Gw.call b0 bq⟩
  · have t3 : ((k : Int) == self) = false := by rw [beq_eq_false_iff_ne]; exact h3
    have t4 : decide ((k : Int) < 256) = true := by simp; omega
    have t4n : decide (k < 256) = true := by simp; omega
    rw [if_neg h3]
    clear h3
    go_enter Try.func27, Try.ntmps27
    go_upto_region 6 with fail
    generalize hwq : w.alloc (.cells #[.int .u16 mb.i, .int .u8 mb.s, .int .u8 mb.q] 39) = wq at *
    have bq := Below.refl wq.heap.size wq
    have hgt : gt < wq.heap.size := World.block_lt_of_cell? wq _ CT
    have HB : Hid (∀ W, Below wq.heap.size wq W → (fun W : World => W.cell? ⟨gx, 0, none⟩ = some (.int .u8 (a : Int)) ∧ W.cell? ⟨gx, 1, none⟩ = some (.int .u16 x2) ∧ W.cell? ⟨gx, 2, none⟩ = some (.int .u32 x3) ∧ W.cell? ⟨gt, 0, none⟩ = some (.slice A n ca)) W) := Lib.hid fun W hb => ⟨(GX.call hb).blk.2.1 0 _ rfl, (GX.call hb).blk.2.1 1 _ rfl, (GX.call hb).blk.2.1 2 _ rfl, (hb.cell (p := ⟨gt, _, none⟩) hgt).trans CT⟩
    have CO := Lib.hid (fun W h => of_any t A ca n k a W hln h hk (by omega))
    clear CS CR CT RR rr rt cs cr ct hrx cx hr1 hln
    refine wp_region_held_drew (S := fun W : World => W.cell? ⟨gx, 0, none⟩ = some (.int .u8 (a : Int)) ∧ W.cell? ⟨gx, 1, none⟩ = some (.int .u16 x2) ∧ W.cell? ⟨gx, 2, none⟩ = some (.int .u32 x3) ∧ W.cell? ⟨gt, 0, none⟩ = some (.slice A n ca)) (by kernel_rfl) (HB.out _ (Below.drew bq)) (fun hHeld => ?_)
    refine take_d (i := 0) (oi := _) (v := ?_) (d := some 36) rfl (by kernel_rfl) (by as_aux_lemma => kernel_rfl) (by as_aux_lemma => kernel_rfl) (by as_aux_lemma => kernel_rfl) (fun _ _ _ h => h) (Or.inl ⟨by kernel_rfl, ?_⟩) hHeld ?_
    rotate_left
    · intro w hSw; (try dsimp only at hSw); go_simp; (try with_reducible rfl)
    try simp only [Act.put, List.setIfInBounds_toArray, List.set_cons_zero, List.set_cons_succ]
    refine take_d (i := 1) (oi := _) (v := ?_) (d := some 37) rfl (by kernel_rfl) (by as_aux_lemma => kernel_rfl) (by as_aux_lemma => kernel_rfl) (by as_aux_lemma => kernel_rfl) (fun _ _ _ h => h) (Or.inl ⟨by kernel_rfl, ?_⟩) hHeld ?_
    rotate_left
    · intro w hSw; (try dsimp only at hSw); go_simp; (try with_reducible rfl)
    try simp only [Act.put, List.setIfInBounds_toArray, List.set_cons_zero, List.set_cons_succ]
    refine take_d (i := 2) (oi := _) (v := ?_) (d := some 38) rfl (by kernel_rfl) (by as_aux_lemma => kernel_rfl) (by as_aux_lemma => kernel_rfl) (by as_aux_lemma => kernel_rfl) (fun _ _ _ h => h) (Or.inl ⟨by kernel_rfl, ?_⟩) hHeld ?_
    rotate_left
    · intro w hSw; (try dsimp only at hSw); go_simp; (try with_reducible rfl)
    try simp only [Act.put, List.setIfInBounds_toArray, List.set_cons_zero, List.set_cons_succ]
    refine take_d (i := 3) (oi := _) (v := ?_) (d := some 39) rfl (by kernel_rfl) (by as_aux_lemma => kernel_rfl) (by as_aux_lemma => kernel_rfl) (by as_aux_lemma => kernel_rfl) (fun _ _ _ h => h) (Or.inl ⟨by kernel_rfl, ?_⟩) hHeld ?_
    rotate_left
    · intro w hSw; (try dsimp only at hSw); go_simp; (try with_reducible rfl)
    try simp only [Act.put, List.setIfInBounds_toArray, List.set_cons_zero, List.set_cons_succ]
    refine take_d (i := 4) (oi := _) (v := ?_) (d := some 40) rfl (by kernel_rfl) (by as_aux_lemma => kernel_rfl) (by as_aux_lemma => kernel_rfl) (by as_aux_lemma => kernel_rfl) (fun _ _ _ h => h) (Or.inl ⟨by kernel_rfl, ?_⟩) hHeld ?_
    rotate_left
    · intro w hSw; (try dsimp only at hSw); go_simp; (try with_reducible rfl)
    try simp only [Act.put, List.setIfInBounds_toArray, List.set_cons_zero, List.set_cons_succ]
    refine take_d (i := 6) (oi := _) (v := ?_) (d := some 42) rfl (by kernel_rfl) (by as_aux_lemma => kernel_rfl) (by as_aux_lemma => kernel_rfl) (by as_aux_lemma => kernel_rfl) (fun _ _ _ h => h) (Or.inl ⟨by kernel_rfl, ?_⟩) hHeld ?_
    rotate_left
    · intro w hSw; (try dsimp only at hSw); go_simp; (try with_reducible rfl)
    try simp only [Act.put, List.setIfInBounds_toArray, List.set_cons_zero, List.set_cons_succ]
    refine wpAnyH_ready (rs := [5]) (by kernel_rfl) (by simp) ?_
    refine AllReadyH.cons rfl (fun K hK => ?_) AllReadyH.nil
    go_simp
    refine (CO.out _ (RT.up (by first | exact bq | exact Below.drew bq))).mono ?_
    rintro e u1 ⟨rfl, hb⟩
    replace bq := (by first | exact Gw.call bq hb | exact Gw.call (Below.drew bq) hb)
    clear hb
    dsimp only
    refine hK.out _ _ (HB.out _ bq) (fun hHeld => ?_)
    clear hK K
    try simp only [Act.put, List.setIfInBounds_toArray, List.set_cons_zero, List.set_cons_succ]
    refine wpAnyH_ready (rs := [7]) (by kernel_rfl) (by simp) ?_
    refine AllReadyH.cons rfl (fun K hK => ?_) AllReadyH.nil
    go_simp
    refine (passed_any (ofL t k a) ⟨(a : Int), x2, x3⟩ _).mono ?_
    rintro e u2 ⟨rfl, hb⟩
    replace bq := (by first | exact Gw.call bq hb | exact Gw.call (Below.drew bq) hb)
    clear hb
    dsimp only
    refine hK.out _ _ (HB.out _ bq) (fun hHeld => ?_)
    clear hK K
    try simp only [Act.put, List.setIfInBounds_toArray, List.set_cons_zero, List.set_cons_succ]
    refine take_d (i := 8) (oi := _) (v := ?_) (d := some 44) rfl (by kernel_rfl) (by as_aux_lemma => kernel_rfl) (by as_aux_lemma => kernel_rfl) (by as_aux_lemma => kernel_rfl) (fun _ _ _ h => h) (Or.inl ⟨by kernel_rfl, ?_⟩) hHeld ?_
    rotate_left
    · intro w hSw; (try dsimp only at hSw); go_simp; (try with_reducible rfl)
    try simp only [Act.put, List.setIfInBounds_toArray, List.set_cons_zero, List.set_cons_succ]
    refine take_d (i := 9) (oi := _) (v := ?_) (d := some 8) rfl (by kernel_rfl) (by as_aux_lemma => kernel_rfl) (by as_aux_lemma => kernel_rfl) (by as_aux_lemma => kernel_rfl) (fun _ _ _ h => h) (Or.inl ⟨by kernel_rfl, ?_⟩) hHeld ?_
    rotate_left
    · intro w hSw; (try dsimp only at hSw); go_simp; (try with_reducible rfl)
    try simp only [Act.put, List.setIfInBounds_toArray, List.set_cons_zero, List.set_cons_succ]
    refine wpAnyH_done (by kernel_rfl) ?_ _
    go_wp2_with fail
    go_ret
    exact ⟨rfl, Gw.call b0 bq⟩
end Go.Proofs.Ytcclnfpegepcnaa
