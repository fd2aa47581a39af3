/-
  StableOnce (19).
-/
import Derived.Test.YtcclnfpegepcnaaOnceL
import Derived.Test.YtcclnfpegepcnaaLaw19B
namespace Go.Proofs.Ytcclnfpegepcnaa
open Go.RowKit
theorem TdV.ok.up {w W : World} {x : TdV} (h : x.ok w) (hb : Below w.heap.size w W) : x.ok W := ⟨h.1, h.2.1, h.2.2.1, h.2.2.2.1.up hb, h.2.2.2.2⟩
set_option maxRecDepth 100000 in
set_option maxHeartbeats 8000000 in
theorem sonce_any (nodes : Int) (l : List TdV) (M : List Mb) (self : Int) (R : List Rw) (a : Nat) (xi xs : Int) (more : TdV) (A C B : Option Addr) (ca cc cb : Nat) (w : World) (hn : 0 ≤ nodes ∧ nodes ≤ 255) (hl : Rd tdc 3 w.heap.size w A l) (hlo : ∀ x ∈ l, x.ok w) (hll : l.length ≤ 9223372036854775807) (hm : Rd memc 3 w.heap.size w C M) (hml : M.length ≤ 9223372036854775807) (hself : 0 ≤ self ∧ self ≤ 255) (hr : Rd rowc 3 w.heap.size w B R) (hrl : R.length ≤ 9223372036854775807) (hx : (⟨(a : Int), xi, xs⟩ : Id).ok) (hmo : more.ok w) :
    Calls Try.prog 3 #[.int .u8 nodes, .slice A l.length ca, .slice C M.length cc, .int .u8 self, .slice B R.length cb, .agg #[.int .u8 (a : Int), .int .u16 xi, .int .u32 xs], .agg #[.int .u8 more.m, .slice more.A more.l.length more.cap, .bool more.f]] w fun e w' => e = .returned (.bool true) ∧ Below w.heap.size w w' := by
  obtain ⟨i1, hi1, hy0, hy1, hy2⟩ := info_parts Try.infoMem
  obtain ⟨nn, hnn⟩ : ∃ nn : Nat, 1 + nodes % 12 = (nn : Int) := ⟨(1 + nodes % 12).toNat, by omega⟩
  have nn1 : 1 ≤ nn := by omega
  have nn12 : nn ≤ 12 := by omega
  have HLO := Lib.hid hlo
  have HXO := Lib.hid hx
  have HMO := Lib.hid hmo
  obtain ⟨⟨_, x1⟩, ⟨x2, x3⟩, x4, x5⟩ := hx
  simp only at x1 x2 x3 x4 x5
  have oX := (Ob.new w #[.int .u8 (a : Int), .int .u16 xi, .int .u32 xs] 28).alloc (.cells #[.int .u8 more.m, .slice more.A more.l.length more.cap, .bool more.f] 31)
  have oT := Ob.new (w.alloc (.cells #[.int .u8 (a : Int), .int .u16 xi, .int .u32 xs] 28)) #[.int .u8 more.m, .slice more.A more.l.length more.cap, .bool more.f] 31
  simp only [World.size_alloc] at oT
  have b0 := Gw.al (Gw.al (Below.refl w.heap.size w) (.cells #[.int .u8 (a : Int), .int .u16 xi, .int .u32 xs] 28)) (.cells #[.int .u8 more.m, .slice more.A more.l.length more.cap, .bool more.f] 31)
  have HF1 := Lib.hid (fun W h => few_any l A ca 30 W h hll)
  clear hlo hmo
  go_enter Try.func3, Try.ntmps3
  go_wp2_with fail
  refine (HF1.out _ (hl.up b0)).mono ?_
  rintro e w1 ⟨rfl, hb⟩
  replace b0 := Gw.call b0 hb
  replace oX := oX.call hb
  replace oT := oT.call hb
  clear hb HF1 hn hnn
  have HFW := Lib.hid (fun (h : fewB l 30 = true) => of_decide_eq_true h)
  cases hf : fewB l 30
  · clear HFW

    go_wp2_with fail
    refine (awake_any _).mono ?_
    rintro e w9 ⟨rfl, hb⟩
    go_wp2_with fail
    go_ret
    exact ⟨rfl, Gw.call b0 hb⟩
  obtain ⟨hf40, hf30⟩ := HFW.out hf
  have HF40 := Lib.hid hf40
  clear HFW hf hf40 hll
  have t0 := oT.blk.2.1 0 _ rfl
  have t1 := oT.blk.2.1 1 _ rfl
  have t2 := oT.blk.2.1 2 _ rfl
  have LT : Rd tdc 3 (w1.alloc (.cells #[.int .u8 more.m, .slice more.A more.l.length more.cap, .bool more.f] 31)).heap.size (w1.alloc (.cells #[.int .u8 more.m, .slice more.A more.l.length more.cap, .bool more.f] 31)) (some ⟨w1.heap.size, 0, none⟩) [more] := by rw [World.size_alloc]; exact Rd.lit tdc_len w1 _ rfl _ _ _ rfl
  go_wp2_with fail
  refine (few_any [more] _ 1 1 _ LT (by simp)).mono ?_
  rintro e w2 ⟨rfl, hb⟩
  replace b0 := Gw.call (Gw.al b0 (.cells #[.int .u8 more.m, .slice more.A more.l.length more.cap, .bool more.f] 31)) hb
  replace oX := (oX.alloc (.cells #[.int .u8 more.m, .slice more.A more.l.length more.cap, .bool more.f] 31)).call hb
  replace oT := (oT.alloc (.cells #[.int .u8 more.m, .slice more.A more.l.length more.cap, .bool more.f] 31)).call hb
  clear hb LT t0 t1 t2
  have HFW := Lib.hid (fun (h : fewB [more] 1 = true) => of_decide_eq_true h)
  cases hf : fewB [more] 1
  · clear HFW
    go_wp2_with fail
    refine (awake_any _).mono ?_
    rintro e w9 ⟨rfl, hb⟩
    go_wp2_with fail
    go_ret
    exact ⟨rfl, Gw.call b0 hb⟩
  have hm40 : more.l.length ≤ 40 := (HFW.out hf).1 more (by simp)
  clear HFW hf
  by_cases hmn : nn < M.length
  · have q1 : decide ((nn : Int) < (M.length : Int)) = true := by simp; omega
    go_wp2_with fail
    refine (awake_any _).mono ?_
    rintro e w9 ⟨rfl, hb⟩
    go_wp2_with fail
    go_ret
    exact ⟨rfl, Gw.call b0 hb⟩
  have q1 : decide ((nn : Int) < (M.length : Int)) = false := by simp; omega
  by_cases hrn : nn < R.length
  · have q2 : decide ((nn : Int) < (R.length : Int)) = true := by simp; omega
    go_wp2_with fail
    refine (awake_any _).mono ?_
    rintro e w9 ⟨rfl, hb⟩
    go_wp2_with fail
    go_ret
    exact ⟨rfl, Gw.call b0 hb⟩
  have q2 : decide ((nn : Int) < (R.length : Int)) = false := by simp; omega
  have HTD := Lib.hid (fun W h h2 => told_any nn l A ca W (by omega) h (by omega) h2 (fun x hx => by have := HF40.out x hx; omega))
  have HSH := Lib.hid (told_shape nn l l.length (Nat.le_refl _))
  rw [List.take_length] at HSH
  go_wp2_with fail
  refine (HTD.out _ (hl.up b0) (fun x hx => (HLO.out x hx).up b0)).mono ?_
  rintro e w3 ⟨A1, c1, rfl, rt, hb⟩
  replace b0 := Gw.call b0 hb
  replace oX := oX.call hb
  replace oT := oT.call hb
  clear hb HTD hl HLO HF40
  have TL : Hid ((toldL nn l).length = nn) := Lib.hid HSH.out.1
  have TR : Hid (∀ r ∈ toldL nn l, r.length = nn) := Lib.hid HSH.out.2
  clear HSH
  generalize toldL nn l = T at *
  have CST := Lib.hid (fun (T : List (List Id)) (M : List Mb) (mn : Nat) (A1 : Option Addr) (c1 : Nat) (C : Option Addr) (cc : Nat) (y : Id) (W : World) (h0 : T.length = nn) (hM : M.length = mn) (h9 : mn ≤ 255) (h4 : y.ok) h1 h2 h3 => stable_any T M self R y A1 C B c1 cc cb nn mn R.length W h0 hM rfl h1 h2 h3 hself h4 h9 (by omega))
  have k0 := oX.blk.2.1 0 _ rfl
  have k1 := oX.blk.2.1 1 _ rfl
  have k2 := oX.blk.2.1 2 _ rfl
  go_wp2_with fail
  refine (CST.out T M M.length A1 c1 C cc ⟨(a : Int), xi, xs⟩ _ TL.out rfl (by omega) HXO.out rt (hm.up b0) (hr.up b0)).mono ?_
  rintro e w4 ⟨rfl, hb⟩
  replace b0 := Gw.call b0 hb
  replace oX := oX.call hb
  replace oT := oT.call hb
  replace rt := rt.up hb
  clear hb k0 k1 k2
  cases hst : stableB T M self R ⟨(a : Int), xi, xs⟩
  · skip
    go_wp2_with fail
    refine (awake_any _).mono ?_
    rintro e w9 ⟨rfl, hb⟩
    go_wp2_with fail
    go_ret
    exact ⟨rfl, Gw.call b0 hb⟩
  have HST := Lib.hid hst
  obtain ⟨r, hr1, hlag⟩ := stable_out hst
  simp only [Int.toNat_natCast] at hr1
  have HLAG := Lib.hid hlag
  have HR1 := Lib.hid hr1
  have har : a < R.length := (List.getElem?_eq_some_iff.1 hr1).1
  have wa : IntKind.i64.wrap (a : Int) = (a : Int) := IntWalk.i64_in _ (by omega)
  have wself : IntKind.i64.wrap self = self := IntWalk.i64_in _ (by omega)
  have q3 : decide ((R.length : Int) ≤ (a : Int)) = false := by simp; omega
  have q3n : decide (R.length ≤ a) = false := by simp; omega
  have k0 := oX.blk.2.1 0 _ rfl
  have ari : (a : Int) < (R.length : Int) := by omega
  clear hst hlag hr1
  go_wp2_with fail
  clear k0
  have rm4 := hm.up b0
  have rr4 := hr.up b0
  go_loopw [69] (fun iv wr => ∃ k : Nat, k ≤ M.length ∧ iv = .int .i64 k ∧ Below w4.heap.size w4 wr) (fun iv _ => M.length - (intOf iv).toNat)
  case atStart => exact ⟨0, Nat.zero_le _, rfl, Below.refl _ _⟩
  case round =>
    obtain ⟨k, hk, rfl, bl⟩ := hrel
    by_cases hkl : k < M.length
    · obtain ⟨mb, hmb⟩ : ∃ mb, M[k]? = some mb := ⟨_, List.getElem?_eq_getElem hkl⟩
      obtain ⟨bm, om, rfl, hbm, hc⟩ := (rm4.below bl).at_ hmb
      have d0 : wr.cell? ⟨bm, om + k * 3, none⟩ = some (.int .u16 mb.i) := hc 0 _ rfl
      have d1 : wr.cell? ⟨bm, om + k * 3 + 1, none⟩ = some (.int .u8 mb.s) := hc 1 _ rfl
      have d2 : wr.cell? ⟨bm, om + k * 3 + 2, none⟩ = some (.int .u8 mb.q) := hc 2 _ rfl
      have HMB := Lib.hid hmb
      have ki : (k : Int) < (M.length : Int) := by omega
      have bx := Gw.al bl (.cells #[.int .u16 mb.i, .int .u8 mb.s, .int .u8 mb.q] 39)
      clear hc hmb
      by_cases h1 : mb.i = 0
      · have z1 : (mb.i == 0) = true := by simp [h1]
        clear h1
        go_wp2_with fail
        go_roundw
        case rel => exact ⟨k + 1, hkl, by go_num, bx⟩
        case measure => simp [intOf]; omega
      have z1 : (mb.i == 0) = false := by rw [beq_eq_false_iff_ne]; exact h1
      by_cases h2 : mb.s = 3
      · have z2 : (mb.s == 3) = true := by simp [h2]
        clear h1 h2
        go_wp2_with fail
        go_roundw
        case rel => exact ⟨k + 1, hkl, by go_num, bx⟩
        case measure => simp [intOf]; omega
      have z2 : (mb.s == 3) = false := by rw [beq_eq_false_iff_ne]; exact h2
      obtain ⟨ps, pn⟩ := lag_passed (HLAG.out k mb HMB.out) h1 h2
      clear h1 h2
      simp only [Int.toNat_natCast] at pn
      have wk : IntKind.u8.wrap (k : Int) = (k : Int) := IntWalk.u8_in _ (by omega)
      have oX2 := oX.call bx
      have k0 := oX2.blk.2.1 0 _ rfl
      go_wp2_with fail
      refine (of_any T A1 c1 nn k a _ TL.out (rt.up bx) (by omega) (by omega)).mono ?_
      rintro e w6 ⟨rfl, hb⟩
      have b6 := Gw.call bx hb
      have oX3 := oX2.call hb
      clear hb k0 d0 d1 d2 oX2
      obtain ⟨om6, hom6⟩ : ∃ o, o = ofL T k a := ⟨_, rfl⟩
      rw [← hom6] at pn ⊢
      clear hom6
      go_upto_region 15 with fail
      skip
      have G6 := Ob.new w6 #[.int .u8 om6.n, .int .u16 om6.i, .int .u32 om6.s] 40
      have oX6 := oX3.alloc (.cells #[.int .u8 om6.n, .int .u16 om6.i, .int .u32 om6.s] 40)
      have b7 := Gw.al b6 (.cells #[.int .u8 om6.n, .int .u16 om6.i, .int .u32 om6.s] 40)
      have bq := Gw.al (Below.refl w6.heap.size w6) (.cells #[.int .u8 om6.n, .int .u16 om6.i, .int .u32 om6.s] 40)
      by_cases hks : (k : Int) = self
      · have z3 : ((k : Int) == self) = true := by rw [beq_iff_eq]; exact hks
        have pm : passedB ⟨0, r.i, r.p⟩ ⟨(a : Int), xi, xs⟩ = true := ps hks
        clear hks ps pn
        obtain ⟨bR, oR, hAB, hbR, hc⟩ := (rr4.below b6).at_ HR1.out
        subst hAB
        have e0 : w6.cell? ⟨bR, oR + a * 3, none⟩ = some (.int .u16 r.i) := hc 0 _ rfl
        have e1 : w6.cell? ⟨bR, oR + a * 3 + 1, none⟩ = some (.int .u32 r.p) := hc 1 _ rfl
        have hbR2 : bR < w6.heap.size := Nat.lt_of_lt_of_le hbR b6.size
        have HB : Hid (∀ W, Below w6.heap.size w6 W → (fun W : World => W.cell? ⟨w.heap.size, 0, none⟩ = some (.int .u8 (a : Int)) ∧ W.cell? ⟨bR, oR + a * 3, none⟩ = some (.int .u16 r.i) ∧ W.cell? ⟨bR, oR + a * 3 + 1, none⟩ = some (.int .u32 r.p)) W) := Lib.hid fun W hb => ⟨(oX3.call hb).blk.2.1 0 _ rfl, (hb.cell (p := ⟨bR, _, none⟩) hbR2).trans e0, (hb.cell (p := ⟨bR, _, none⟩) hbR2).trans e1⟩
        clear hc e0 e1
        go_upto_region 16 with fail
        generalize hw7 : w6.alloc (.cells #[.int .u8 om6.n, .int .u16 om6.i, .int .u32 om6.s] 40) = w7 at *
        clear hw7
        have r0 : w7.cell? ⟨w6.heap.size, 0, none⟩ = some (.int .u8 om6.n) := G6.blk.2.1 0 _ rfl
        have r1 : w7.cell? ⟨w6.heap.size, 1, none⟩ = some (.int .u16 om6.i) := G6.blk.2.1 1 _ rfl
        have r2 : w7.cell? ⟨w6.heap.size, 2, none⟩ = some (.int .u32 om6.s) := G6.blk.2.1 2 _ rfl
        have r8 : ∀ j, w7.frozen? ⟨w6.heap.size, j, none⟩ = false := G6.blk.2.2
        have s0 : w7.drew.cell? ⟨w6.heap.size, 0, none⟩ = some (.int .u8 om6.n) := G6.blk.2.1 0 _ rfl
        have s1 : w7.drew.cell? ⟨w6.heap.size, 1, none⟩ = some (.int .u16 om6.i) := G6.blk.2.1 1 _ rfl
        have s2 : w7.drew.cell? ⟨w6.heap.size, 2, none⟩ = some (.int .u32 om6.s) := G6.blk.2.1 2 _ rfl
        have s8 : ∀ j, w7.drew.frozen? ⟨w6.heap.size, j, none⟩ = false := G6.blk.2.2
        refine wp_region_held_drew (S := fun W : World => W.cell? ⟨w.heap.size, 0, none⟩ = some (.int .u8 (a : Int)) ∧ W.cell? ⟨bR, oR + a * 3, none⟩ = some (.int .u16 r.i) ∧ W.cell? ⟨bR, oR + a * 3 + 1, none⟩ = some (.int .u32 r.p)) (by kernel_rfl) (HB.out _ (Below.drew bq)) (fun hHeld => ?_)
        refine take_d (i := 0) (oi := _) (v := ?_) (d := some 92) rfl (by kernel_rfl) (by as_aux_lemma => kernel_rfl) (by as_aux_lemma => kernel_rfl) (by as_aux_lemma => kernel_rfl) (fun _ _ _ h => h) (Or.inl ⟨by kernel_rfl, ?_⟩) hHeld ?_
        rotate_left
        · intro w hSw; (try dsimp only at hSw); go_simp; (try with_reducible rfl)
        try simp only [Act.put, List.setIfInBounds_toArray, List.set_cons_zero, List.set_cons_succ]
        refine take_d (i := 1) (oi := _) (v := ?_) (d := some 93) rfl (by kernel_rfl) (by as_aux_lemma => kernel_rfl) (by as_aux_lemma => kernel_rfl) (by as_aux_lemma => kernel_rfl) (fun _ _ _ h => h) (Or.inl ⟨by kernel_rfl, ?_⟩) hHeld ?_
        rotate_left
        · intro w hSw; (try dsimp only at hSw); go_simp; (try with_reducible rfl)
        try simp only [Act.put, List.setIfInBounds_toArray, List.set_cons_zero, List.set_cons_succ]
        refine take_d (i := 2) (oi := _) (v := ?_) (d := some 94) rfl (by kernel_rfl) (by as_aux_lemma => kernel_rfl) (by as_aux_lemma => kernel_rfl) (by as_aux_lemma => kernel_rfl) (fun _ _ _ h => h) (Or.inl ⟨by kernel_rfl, ?_⟩) hHeld ?_
        rotate_left
        · intro w hSw; (try dsimp only at hSw); go_simp; (try with_reducible rfl)
        try simp only [Act.put, List.setIfInBounds_toArray, List.set_cons_zero, List.set_cons_succ]
        refine take_d (i := 3) (oi := _) (v := ?_) (d := some 95) rfl (by kernel_rfl) (by as_aux_lemma => kernel_rfl) (by as_aux_lemma => kernel_rfl) (by as_aux_lemma => kernel_rfl) (fun _ _ _ h => h) (Or.inl ⟨by kernel_rfl, ?_⟩) hHeld ?_
        rotate_left
        · intro w hSw; (try dsimp only at hSw); go_simp; (try with_reducible rfl)
        try simp only [Act.put, List.setIfInBounds_toArray, List.set_cons_zero, List.set_cons_succ]
        refine take_d (i := 4) (oi := _) (v := ?_) (d := some 96) rfl (by kernel_rfl) (by as_aux_lemma => kernel_rfl) (by as_aux_lemma => kernel_rfl) (by as_aux_lemma => kernel_rfl) (fun _ _ _ h => h) (Or.inl ⟨by kernel_rfl, ?_⟩) hHeld ?_
        rotate_left
        · intro w hSw; (try dsimp only at hSw); go_simp; (try with_reducible rfl)
        try simp only [Act.put, List.setIfInBounds_toArray, List.set_cons_zero, List.set_cons_succ]
        refine take_d (i := 5) (oi := _) (v := ?_) (d := some 97) rfl (by kernel_rfl) (by as_aux_lemma => kernel_rfl) (by as_aux_lemma => kernel_rfl) (by as_aux_lemma => kernel_rfl) (fun _ _ _ h => h) (Or.inl ⟨by kernel_rfl, ?_⟩) hHeld ?_
        rotate_left
        · intro w hSw; (try dsimp only at hSw); go_simp; (try with_reducible rfl)
        try simp only [Act.put, List.setIfInBounds_toArray, List.set_cons_zero, List.set_cons_succ]
        refine take_d (i := 6) (oi := _) (v := ?_) (d := some 98) rfl (by kernel_rfl) (by as_aux_lemma => kernel_rfl) (by as_aux_lemma => kernel_rfl) (by as_aux_lemma => kernel_rfl) (fun _ _ _ h => h) (Or.inl ⟨by kernel_rfl, ?_⟩) hHeld ?_
        rotate_left
        · intro w hSw; (try dsimp only at hSw); go_simp; (try with_reducible rfl)
        try simp only [Act.put, List.setIfInBounds_toArray, List.set_cons_zero, List.set_cons_succ]
        refine take_d (i := 7) (oi := _) (v := ?_) (d := some 99) rfl (by kernel_rfl) (by as_aux_lemma => kernel_rfl) (by as_aux_lemma => kernel_rfl) (by as_aux_lemma => kernel_rfl) (fun _ _ _ h => h) (Or.inl ⟨by kernel_rfl, ?_⟩) hHeld ?_
        rotate_left
        · intro w hSw; (try dsimp only at hSw); go_simp; (try with_reducible rfl)
        try simp only [Act.put, List.setIfInBounds_toArray, List.set_cons_zero, List.set_cons_succ]
        refine take_d (i := 8) (oi := _) (v := ?_) (d := some 100) rfl (by kernel_rfl) (by as_aux_lemma => kernel_rfl) (by as_aux_lemma => kernel_rfl) (by as_aux_lemma => kernel_rfl) (fun _ _ _ h => h) (Or.inl ⟨by kernel_rfl, ?_⟩) hHeld ?_
        rotate_left
        · intro w hSw; (try dsimp only at hSw); go_simp; (try with_reducible rfl)
        try simp only [Act.put, List.setIfInBounds_toArray, List.set_cons_zero, List.set_cons_succ]
        refine take_d (i := 9) (oi := _) (v := ?_) (d := some 101) rfl (by kernel_rfl) (by as_aux_lemma => kernel_rfl) (by as_aux_lemma => kernel_rfl) (by as_aux_lemma => kernel_rfl) (fun _ _ _ h => h) (Or.inl ⟨by kernel_rfl, ?_⟩) hHeld ?_
        rotate_left
        · intro w hSw; (try dsimp only at hSw); go_simp; (try with_reducible rfl)
        try simp only [Act.put, List.setIfInBounds_toArray, List.set_cons_zero, List.set_cons_succ]
        refine take_d (i := 10) (oi := _) (v := ?_) (d := some 102) rfl (by kernel_rfl) (by as_aux_lemma => kernel_rfl) (by as_aux_lemma => kernel_rfl) (by as_aux_lemma => kernel_rfl) (fun _ _ _ h => h) (Or.inl ⟨by kernel_rfl, ?_⟩) hHeld ?_
        rotate_left
        · intro w hSw; (try dsimp only at hSw); go_simp; (try with_reducible rfl)
        try simp only [Act.put, List.setIfInBounds_toArray, List.set_cons_zero, List.set_cons_succ]
        refine take_d (i := 11) (oi := _) (v := ?_) (d := some 103) rfl (by kernel_rfl) (by as_aux_lemma => kernel_rfl) (by as_aux_lemma => kernel_rfl) (by as_aux_lemma => kernel_rfl) (fun _ _ _ h => h) (Or.inl ⟨by kernel_rfl, ?_⟩) hHeld ?_
        rotate_left
        · intro w hSw; (try dsimp only at hSw); go_simp; (try with_reducible rfl)
        try simp only [Act.put, List.setIfInBounds_toArray, List.set_cons_zero, List.set_cons_succ]
        refine take_d (i := 12) (oi := _) (v := ?_) (d := some 104) rfl (by kernel_rfl) (by as_aux_lemma => kernel_rfl) (by as_aux_lemma => kernel_rfl) (by as_aux_lemma => kernel_rfl) (fun _ _ _ h => h) (Or.inl ⟨by kernel_rfl, ?_⟩) hHeld ?_
        rotate_left
        · intro w hSw; (try dsimp only at hSw); go_simp; (try with_reducible rfl)
        try simp only [Act.put, List.setIfInBounds_toArray, List.set_cons_zero, List.set_cons_succ]
        refine wpAnyH_ready (rs := [13]) (by kernel_rfl) (by simp) ?_
        refine AllReadyH.cons rfl (fun K hK => ?_) AllReadyH.nil
        go_simp
        refine hK.out _ _ (HB.out _ (Below.drew (Gw.st (Gw.st (Gw.st bq (p := ⟨w6.heap.size, 0, none⟩) (Nat.le_refl _) _) (p := ⟨w6.heap.size, 1, none⟩) (Nat.le_refl _) _) (p := ⟨w6.heap.size, 2, none⟩) (Nat.le_refl _) _))) (fun hHeld => ?_)
        clear hK K
        try simp only [Act.put, List.setIfInBounds_toArray, List.set_cons_zero, List.set_cons_succ]
        refine wpAnyH_done (by kernel_rfl) ?_ _
        clear hHeld HB s0 s1 s2 s8 r0 r1 r2 r8
        have G : Ob (((w7.setCell ⟨w6.heap.size, 0, none⟩ (.int .u8 0)).setCell ⟨w6.heap.size, 1, none⟩ (.int .u16 r.i)).setCell ⟨w6.heap.size, 2, none⟩ (.int .u32 r.p)).drew w6.heap.size #[.int .u8 0, .int .u16 r.i, .int .u32 r.p] 40 := Ob.drew (((G6.set 0 (.int .u8 0)).set 1 (.int .u16 r.i)).set 2 (.int .u32 r.p))
        have hx6 : w.heap.size ≠ w6.heap.size := by have := oX3.lt; omega
        have oX7 := Ob.drew (((oX6.far hx6 (p := w6.heap.size) (j := 0) (.int .u8 0)).far hx6 (j := 1) (.int .u16 r.i)).far hx6 (j := 2) (.int .u32 r.p))
        replace b7 := Gw.drew (Gw.st (Gw.st (Gw.st b7 (p := ⟨w6.heap.size, 0, none⟩) b6.size (.int .u8 0)) (p := ⟨w6.heap.size, 1, none⟩) b6.size (.int .u16 r.i)) (p := ⟨w6.heap.size, 2, none⟩) b6.size (.int .u32 r.p))
        clear oX6 G6 bq
        generalize (((w7.setCell ⟨w6.heap.size, 0, none⟩ (.int .u8 0)).setCell ⟨w6.heap.size, 1, none⟩ (.int .u16 r.i)).setCell ⟨w6.heap.size, 2, none⟩ (.int .u32 r.p)).drew = wq at *
        obtain ⟨u1, u2⟩ := passed_tests pm
        simp only at u1 u2
        have g1 := G.blk.2.1 1 _ rfl
        have g2 := G.blk.2.1 2 _ rfl
        have k0 := oX7.blk.2.1 0 _ rfl
        have k1 := oX7.blk.2.1 1 _ rfl
        have k2 := oX7.blk.2.1 2 _ rfl
        go_upto_region 17 with fail
        go_cut [123] (fun v wx => v = .bool false ∧ wx = wq)
        case first =>
          by_cases he : r.i = xi
          · have u3 := u2 he
            have v2 : (r.i == xi) = true := by simp [he]
            clear u2 he
            go_wp2_with fail
            go_meet
            exact ⟨rfl, rfl⟩
          · have v2 : (r.i == xi) = false := by rw [beq_eq_false_iff_ne]; exact he
            clear u2 he
            go_wp2_with fail
            go_meet
            exact ⟨rfl, rfl⟩
        case rest =>
          obtain ⟨rfl, hwq⟩ := hcut
          subst hwq
          clear u1 u2 g1 g2 pm G
          have LO := Own.litg (enc := memc) (sz := 3) (E := 39) (base := wc.heap.size) wc wc.heap.size rfl (Nat.le_refl _)
          have r1 := Rd.allocS (rm4.up b7) (.cells #[] 39)
          go_upto_region 20 with (first | (at_builtin; refine wpList_app _ rfl _ _ 23 rfl wc.heap.size 39 i1 _ 4 Try.underlying23 hi1 hy0 hy1 hy2 rfl (by omega) memc_len memc_one (.slice (some ⟨wc.heap.size, 0, none⟩) 0 0) ([] : List Mb) rfl LO 0 rfl _ _ M.length cc M rfl rfl r1 (by omega) (by omega) (by simp only [World.size_alloc]; omega) ?_; intro A5 c5 w8 o5 hg; simp only [Nat.zero_add, List.nil_append] at o5) | fail)
          have bg := Gw.gr (Gw.al (Below.refl wc.heap.size wc) (.cells #[] 39)) hg (fun k hk => Nat.le_of_eq (own_blk hk).symm)
          have b8 := Gw.call b7 bg
          have oX8 := oX7.call bg
          obtain ⟨g5, rfl⟩ : ∃ g, A5 = some ⟨g, 0, none⟩ := by
            rcases o5.2 with ⟨_, h0⟩ | ⟨g, cap, cur, hv, _⟩
            · omega
            · injection hv with hA _ _
              exact ⟨g, hA⟩
          have hg5 := (Own.row o5).2.1
          have hg54 : w4.heap.size ≤ g5 := Nat.le_trans b7.size hg5
          have f5 := fun j => Own.free o5 j
          have e1 := Own.at_ memc_len o5 HMB.out (j := 1) rfl
          have p1 := Own.put1 memc_len o5 HMB.out (j := 1) (by omega) ⟨mb.i, 3, mb.q⟩ (.int .u8 3) rfl
          have hxg : w.heap.size ≠ g5 := by have := oX.lt; omega
          have oX9 := oX8.far hxg (p := g5) (j := k * 3 + 1) (.int .u8 3)
          have b9 := Gw.st b8 (p := ⟨g5, k * 3 + 1, none⟩) hg54 (.int .u8 3)
          clear LO r1 hg k0 k1 k2
          go_upto_region 21 with fail
          clear f5 e1 o5 oX8 b8 bg oX7 b7
          generalize w8.setCell ⟨g5, k * 3 + 1, none⟩ (.int .u8 3) = w9 at *
          have k0 := oX9.blk.2.1 0 _ rfl
          have k1 := oX9.blk.2.1 1 _ rfl
          have k2 := oX9.blk.2.1 2 _ rfl
          have SL := Lib.hid (stable_left HST.out HMB.out)
          have CS2 := Lib.hid (fun W h1 h2 h3 => SL.out ▸ CST.out T (M.set k ⟨mb.i, 3, mb.q⟩) M.length A1 c1 (some ⟨g5, 0, none⟩) c5 ⟨(a : Int), xi, xs⟩ W TL.out (by simp) (by omega) HXO.out h1 h2 h3)
          go_wp2_with fail
          refine (CS2.out _ (rt.up b9) (p1.rd memc_len) (rr4.up b9)).mono ?_
          rintro e w10 ⟨rfl, hb⟩
          have b10 := Gw.call b9 hb
          clear hb CS2 k0 k1 k2 p1 oX9 b9
          go_wp2_with fail
          go_roundw
          case rel => exact ⟨k + 1, hkl, by go_num, b10⟩
          case measure => simp [intOf]; omega
      · have z3 : ((k : Int) == self) = false := by rw [beq_eq_false_iff_ne]; exact hks
        have pm := pn hks
        clear hks ps pn bq
        have G := G6
        have oX7 := oX6
        clear G6 oX6
        go_upto_region 17 with fail
        generalize w6.alloc (.cells #[.int .u8 om6.n, .int .u16 om6.i, .int .u32 om6.s] 40) = wq at *
        obtain ⟨u1, u2⟩ := passed_tests pm
        simp only at u1 u2
        have g1 := G.blk.2.1 1 _ rfl
        have g2 := G.blk.2.1 2 _ rfl
        have k0 := oX7.blk.2.1 0 _ rfl
        have k1 := oX7.blk.2.1 1 _ rfl
        have k2 := oX7.blk.2.1 2 _ rfl
        go_upto_region 17 with fail
        go_cut [123] (fun v wx => v = .bool false ∧ wx = wq)
        case first =>
          by_cases he : om6.i = xi
          · have u3 := u2 he
            have v2 : (om6.i == xi) = true := by simp [he]
            clear u2 he
            go_wp2_with fail
            go_meet
            exact ⟨rfl, rfl⟩
          · have v2 : (om6.i == xi) = false := by rw [beq_eq_false_iff_ne]; exact he
            clear u2 he
            go_wp2_with fail
            go_meet
            exact ⟨rfl, rfl⟩
        case rest =>
          obtain ⟨rfl, hwq⟩ := hcut
          subst hwq
          clear u1 u2 g1 g2 pm G
          have LO := Own.litg (enc := memc) (sz := 3) (E := 39) (base := wc.heap.size) wc wc.heap.size rfl (Nat.le_refl _)
          have r1 := Rd.allocS (rm4.up b7) (.cells #[] 39)
          go_upto_region 20 with (first | (at_builtin; refine wpList_app _ rfl _ _ 23 rfl wc.heap.size 39 i1 _ 4 Try.underlying23 hi1 hy0 hy1 hy2 rfl (by omega) memc_len memc_one (.slice (some ⟨wc.heap.size, 0, none⟩) 0 0) ([] : List Mb) rfl LO 0 rfl _ _ M.length cc M rfl rfl r1 (by omega) (by omega) (by simp only [World.size_alloc]; omega) ?_; intro A5 c5 w8 o5 hg; simp only [Nat.zero_add, List.nil_append] at o5) | fail)
          have bg := Gw.gr (Gw.al (Below.refl wc.heap.size wc) (.cells #[] 39)) hg (fun k hk => Nat.le_of_eq (own_blk hk).symm)
          have b8 := Gw.call b7 bg
          have oX8 := oX7.call bg
          obtain ⟨g5, rfl⟩ : ∃ g, A5 = some ⟨g, 0, none⟩ := by
            rcases o5.2 with ⟨_, h0⟩ | ⟨g, cap, cur, hv, _⟩
            · omega
            · injection hv with hA _ _
              exact ⟨g, hA⟩
          have hg5 := (Own.row o5).2.1
          have hg54 : w4.heap.size ≤ g5 := Nat.le_trans b7.size hg5
          have f5 := fun j => Own.free o5 j
          have e1 := Own.at_ memc_len o5 HMB.out (j := 1) rfl
          have p1 := Own.put1 memc_len o5 HMB.out (j := 1) (by omega) ⟨mb.i, 3, mb.q⟩ (.int .u8 3) rfl
          have hxg : w.heap.size ≠ g5 := by have := oX.lt; omega
          have oX9 := oX8.far hxg (p := g5) (j := k * 3 + 1) (.int .u8 3)
          have b9 := Gw.st b8 (p := ⟨g5, k * 3 + 1, none⟩) hg54 (.int .u8 3)
          clear LO r1 hg k0 k1 k2
          go_upto_region 21 with fail
          clear f5 e1 o5 oX8 b8 bg oX7 b7
          generalize w8.setCell ⟨g5, k * 3 + 1, none⟩ (.int .u8 3) = w9 at *
          have k0 := oX9.blk.2.1 0 _ rfl
          have k1 := oX9.blk.2.1 1 _ rfl
          have k2 := oX9.blk.2.1 2 _ rfl
          have SL := Lib.hid (stable_left HST.out HMB.out)
          have CS2 := Lib.hid (fun W h1 h2 h3 => SL.out ▸ CST.out T (M.set k ⟨mb.i, 3, mb.q⟩) M.length A1 c1 (some ⟨g5, 0, none⟩) c5 ⟨(a : Int), xi, xs⟩ W TL.out (by simp) (by omega) HXO.out h1 h2 h3)
          go_wp2_with fail
          refine (CS2.out _ (rt.up b9) (p1.rd memc_len) (rr4.up b9)).mono ?_
          rintro e w10 ⟨rfl, hb⟩
          have b10 := Gw.call b9 hb
          clear hb CS2 k0 k1 k2 p1 oX9 b9
          go_wp2_with fail
          go_roundw
          case rel => exact ⟨k + 1, hkl, by go_num, b10⟩
          case measure => simp [intOf]; omega
    · obtain rfl : k = M.length := by omega
      have oX5 := oX.call bl
      have oT5 := oT.call bl
      have k0 := oX5.blk.2.1 0 _ rfl
      have k1 := oX5.blk.2.1 1 _ rfl
      have k2 := oX5.blk.2.1 2 _ rfl
      have k3 := (oX5.alloc (.cells #[.int .u8 (a : Int), .int .u16 xi, .int .u32 xs] 28)).blk.2.1 2 _ rfl
      go_upto_region 26 with fail
      clear k3
      have G := Ob.new wr #[.int .u8 (a : Int), .int .u16 xi, .int .u32 (xs / 2)] 28
      replace oX5 := oX5.alloc (.cells #[.int .u8 (a : Int), .int .u16 xi, .int .u32 (xs / 2)] 28)
      replace oT5 := oT5.alloc (.cells #[.int .u8 (a : Int), .int .u16 xi, .int .u32 (xs / 2)] 28)
      have bx := Gw.al bl (.cells #[.int .u8 (a : Int), .int .u16 xi, .int .u32 (xs / 2)] 28)
      generalize hwq : wr.alloc (.cells #[.int .u8 (a : Int), .int .u16 xi, .int .u32 (xs / 2)] 28) = wq at *
      generalize hgb : wr.heap.size = gb at *
      clear hwq hgb k0 k1 k2
      have bq := Below.refl wq.heap.size wq
      have HB : Hid (∀ W, Below wq.heap.size wq W → (fun W : World => W.cell? ⟨gb, 0, none⟩ = some (.int .u8 (a : Int)) ∧ W.cell? ⟨gb, 1, none⟩ = some (.int .u16 xi) ∧ W.cell? ⟨gb, 2, none⟩ = some (.int .u32 (xs / 2)) ∧ W.cell? ⟨w.heap.size, 0, none⟩ = some (.int .u8 (a : Int)) ∧ W.cell? ⟨w.heap.size, 1, none⟩ = some (.int .u16 xi) ∧ W.cell? ⟨w.heap.size, 2, none⟩ = some (.int .u32 xs) ∧ W.cell? ⟨w.heap.size + 1, 0, none⟩ = some (.int .u8 more.m) ∧ W.cell? ⟨w.heap.size + 1, 1, none⟩ = some (.slice more.A more.l.length more.cap)) W) := Lib.hid fun W hb => ⟨(G.call hb).blk.2.1 0 _ rfl, (G.call hb).blk.2.1 1 _ rfl, (G.call hb).blk.2.1 2 _ rfl, (oX5.call hb).blk.2.1 0 _ rfl, (oX5.call hb).blk.2.1 1 _ rfl, (oX5.call hb).blk.2.1 2 _ rfl, (oT5.call hb).blk.2.1 0 _ rfl, (oT5.call hb).blk.2.1 1 _ rfl⟩
      have SB := Lib.hid (stable_less HST.out (show xs / 2 ≤ (⟨(a : Int), xi, xs⟩ : Id).s by simp only; omega))
      have SR := Lib.hid (stable_report (m := more.m.toNat) (marks := more.l) HST.out)
      have CB := Lib.hid (fun W h1 h2 h3 => SB.out ▸ CST.out T M M.length A1 c1 C cc ⟨(a : Int), xi, xs / 2⟩ W TL.out rfl (by omega) ⟨HXO.out.1, HXO.out.2.1, by simp only; omega⟩ h1 h2 h3)
      have TL2 : Hid ((reportL T more.m.toNat more.l).length = nn) := Lib.hid (by rw [reportL_len]; exact TL.out)
      have CR := Lib.hid (fun A2 c2 W h1 h2 h3 => SR.out ▸ CST.out (reportL T more.m.toNat more.l) M M.length A2 c2 C cc ⟨(a : Int), xi, xs⟩ W TL2.out rfl (by omega) HXO.out h1 h2 h3)
      have CP := Lib.hid (fun W h1 h2 => report_any T A1 c1 nn more.m more.l more.A more.cap W TL.out h1 (by omega) (fun r hr => by rw [TR.out r hr]; omega) HMO.out.1 h2 (by omega) HMO.out.2.2.2.2)
      have bt := Gw.call b0 bx
      refine wp_region_held_drew (S := fun W : World => W.cell? ⟨gb, 0, none⟩ = some (.int .u8 (a : Int)) ∧ W.cell? ⟨gb, 1, none⟩ = some (.int .u16 xi) ∧ W.cell? ⟨gb, 2, none⟩ = some (.int .u32 (xs / 2)) ∧ W.cell? ⟨w.heap.size, 0, none⟩ = some (.int .u8 (a : Int)) ∧ W.cell? ⟨w.heap.size, 1, none⟩ = some (.int .u16 xi) ∧ W.cell? ⟨w.heap.size, 2, none⟩ = some (.int .u32 xs) ∧ W.cell? ⟨w.heap.size + 1, 0, none⟩ = some (.int .u8 more.m) ∧ W.cell? ⟨w.heap.size + 1, 1, none⟩ = some (.slice more.A more.l.length more.cap)) (by kernel_rfl) (HB.out _ (Below.drew bq)) (fun hHeld => ?_)
      refine take_d (i := 0) (oi := _) (v := ?_) (d := some 144) rfl (by kernel_rfl) (by as_aux_lemma => kernel_rfl) (by as_aux_lemma => kernel_rfl) (by as_aux_lemma => kernel_rfl) (fun _ _ _ h => h) (Or.inl ⟨by kernel_rfl, ?_⟩) hHeld ?_
      rotate_left
      · intro w hSw; (try dsimp only at hSw); go_simp; (try with_reducible rfl)
      try simp only [Act.put, List.setIfInBounds_toArray, List.set_cons_zero, List.set_cons_succ]
      refine take_d (i := 1) (oi := _) (v := ?_) (d := some 145) rfl (by kernel_rfl) (by as_aux_lemma => kernel_rfl) (by as_aux_lemma => kernel_rfl) (by as_aux_lemma => kernel_rfl) (fun _ _ _ h => h) (Or.inl ⟨by kernel_rfl, ?_⟩) hHeld ?_
      rotate_left
      · intro w hSw; (try dsimp only at hSw); go_simp; (try with_reducible rfl)
      try simp only [Act.put, List.setIfInBounds_toArray, List.set_cons_zero, List.set_cons_succ]
      refine take_d (i := 2) (oi := _) (v := ?_) (d := some 146) rfl (by kernel_rfl) (by as_aux_lemma => kernel_rfl) (by as_aux_lemma => kernel_rfl) (by as_aux_lemma => kernel_rfl) (fun _ _ _ h => h) (Or.inl ⟨by kernel_rfl, ?_⟩) hHeld ?_
      rotate_left
      · intro w hSw; (try dsimp only at hSw); go_simp; (try with_reducible rfl)
      try simp only [Act.put, List.setIfInBounds_toArray, List.set_cons_zero, List.set_cons_succ]
      refine take_d (i := 3) (oi := _) (v := ?_) (d := some 147) rfl (by kernel_rfl) (by as_aux_lemma => kernel_rfl) (by as_aux_lemma => kernel_rfl) (by as_aux_lemma => kernel_rfl) (fun _ _ _ h => h) (Or.inl ⟨by kernel_rfl, ?_⟩) hHeld ?_
      rotate_left
      · intro w hSw; (try dsimp only at hSw); go_simp; (try with_reducible rfl)
      try simp only [Act.put, List.setIfInBounds_toArray, List.set_cons_zero, List.set_cons_succ]
      refine take_d (i := 4) (oi := _) (v := ?_) (d := some 148) rfl (by kernel_rfl) (by as_aux_lemma => kernel_rfl) (by as_aux_lemma => kernel_rfl) (by as_aux_lemma => kernel_rfl) (fun _ _ _ h => h) (Or.inl ⟨by kernel_rfl, ?_⟩) hHeld ?_
      rotate_left
      · intro w hSw; (try dsimp only at hSw); go_simp; (try with_reducible rfl)
      try simp only [Act.put, List.setIfInBounds_toArray, List.set_cons_zero, List.set_cons_succ]
      refine wpAnyH_ready (rs := [5]) (by kernel_rfl) (by simp) ?_
      refine AllReadyH.cons rfl (fun K hK => ?_) AllReadyH.nil
      go_simp
      refine (CB.out _ (rt.up (Gw.call bx (by first | exact bq | exact Below.drew bq))) (rm4.up (Gw.call bx (by first | exact bq | exact Below.drew bq))) (rr4.up (Gw.call bx (by first | exact bq | exact Below.drew bq)))).mono ?_
      rintro e u1 ⟨rfl, hb⟩
      replace bq := (by first | exact Gw.call bq hb | exact Gw.call (Below.drew bq) hb)
      clear hb
      dsimp only
      refine hK.out _ _ (HB.out _ bq) (fun hHeld => ?_)
      clear hK K
      try simp only [Act.put, List.setIfInBounds_toArray, List.set_cons_zero, List.set_cons_succ]
      refine take_d (i := 6) (oi := _) (v := ?_) (d := some 150) rfl (by kernel_rfl) (by as_aux_lemma => kernel_rfl) (by as_aux_lemma => kernel_rfl) (by as_aux_lemma => kernel_rfl) (fun _ _ _ h => h) (Or.inl ⟨by kernel_rfl, ?_⟩) hHeld ?_
      rotate_left
      · intro w hSw; (try dsimp only at hSw); go_simp; (try with_reducible rfl)
      try simp only [Act.put, List.setIfInBounds_toArray, List.set_cons_zero, List.set_cons_succ]
      refine take_d (i := 7) (oi := _) (v := ?_) (d := some 151) rfl (by kernel_rfl) (by as_aux_lemma => kernel_rfl) (by as_aux_lemma => kernel_rfl) (by as_aux_lemma => kernel_rfl) (fun _ _ _ h => h) (Or.inl ⟨by kernel_rfl, ?_⟩) hHeld ?_
      rotate_left
      · intro w hSw; (try dsimp only at hSw); go_simp; (try with_reducible rfl)
      try simp only [Act.put, List.setIfInBounds_toArray, List.set_cons_zero, List.set_cons_succ]
      refine take_d (i := 8) (oi := _) (v := ?_) (d := some 152) rfl (by kernel_rfl) (by as_aux_lemma => kernel_rfl) (by as_aux_lemma => kernel_rfl) (by as_aux_lemma => kernel_rfl) (fun _ _ _ h => h) (Or.inl ⟨by kernel_rfl, ?_⟩) hHeld ?_
      rotate_left
      · intro w hSw; (try dsimp only at hSw); go_simp; (try with_reducible rfl)
      try simp only [Act.put, List.setIfInBounds_toArray, List.set_cons_zero, List.set_cons_succ]
      refine take_d (i := 9) (oi := _) (v := ?_) (d := some 153) rfl (by kernel_rfl) (by as_aux_lemma => kernel_rfl) (by as_aux_lemma => kernel_rfl) (by as_aux_lemma => kernel_rfl) (fun _ _ _ h => h) (Or.inl ⟨by kernel_rfl, ?_⟩) hHeld ?_
      rotate_left
      · intro w hSw; (try dsimp only at hSw); go_simp; (try with_reducible rfl)
      try simp only [Act.put, List.setIfInBounds_toArray, List.set_cons_zero, List.set_cons_succ]
      refine take_d (i := 10) (oi := _) (v := ?_) (d := some 154) rfl (by kernel_rfl) (by as_aux_lemma => kernel_rfl) (by as_aux_lemma => kernel_rfl) (by as_aux_lemma => kernel_rfl) (fun _ _ _ h => h) (Or.inl ⟨by kernel_rfl, ?_⟩) hHeld ?_
      rotate_left
      · intro w hSw; (try dsimp only at hSw); go_simp; (try with_reducible rfl)
      try simp only [Act.put, List.setIfInBounds_toArray, List.set_cons_zero, List.set_cons_succ]
      refine take_d (i := 11) (oi := _) (v := ?_) (d := some 155) rfl (by kernel_rfl) (by as_aux_lemma => kernel_rfl) (by as_aux_lemma => kernel_rfl) (by as_aux_lemma => kernel_rfl) (fun _ _ _ h => h) (Or.inl ⟨by kernel_rfl, ?_⟩) hHeld ?_
      rotate_left
      · intro w hSw; (try dsimp only at hSw); go_simp; (try with_reducible rfl)
      try simp only [Act.put, List.setIfInBounds_toArray, List.set_cons_zero, List.set_cons_succ]
      refine take_d (i := 13) (oi := _) (v := ?_) (d := some 157) rfl (by kernel_rfl) (by as_aux_lemma => kernel_rfl) (by as_aux_lemma => kernel_rfl) (by as_aux_lemma => kernel_rfl) (fun _ _ _ h => h) (Or.inl ⟨by kernel_rfl, ?_⟩) hHeld ?_
      rotate_left
      · intro w hSw; (try dsimp only at hSw); go_simp; (try with_reducible rfl)
      try simp only [Act.put, List.setIfInBounds_toArray, List.set_cons_zero, List.set_cons_succ]
      refine take_d (i := 14) (oi := _) (v := ?_) (d := some 158) rfl (by kernel_rfl) (by as_aux_lemma => kernel_rfl) (by as_aux_lemma => kernel_rfl) (by as_aux_lemma => kernel_rfl) (fun _ _ _ h => h) (Or.inl ⟨by kernel_rfl, ?_⟩) hHeld ?_
      rotate_left
      · intro w hSw; (try dsimp only at hSw); go_simp; (try with_reducible rfl)
      try simp only [Act.put, List.setIfInBounds_toArray, List.set_cons_zero, List.set_cons_succ]
      refine take_d (i := 15) (oi := _) (v := ?_) (d := some 159) rfl (by kernel_rfl) (by as_aux_lemma => kernel_rfl) (by as_aux_lemma => kernel_rfl) (by as_aux_lemma => kernel_rfl) (fun _ _ _ h => h) (Or.inl ⟨by kernel_rfl, ?_⟩) hHeld ?_
      rotate_left
      · intro w hSw; (try dsimp only at hSw); go_simp; (try with_reducible rfl)
      try simp only [Act.put, List.setIfInBounds_toArray, List.set_cons_zero, List.set_cons_succ]
      refine take_d (i := 16) (oi := _) (v := ?_) (d := some 160) rfl (by kernel_rfl) (by as_aux_lemma => kernel_rfl) (by as_aux_lemma => kernel_rfl) (by as_aux_lemma => kernel_rfl) (fun _ _ _ h => h) (Or.inl ⟨by kernel_rfl, ?_⟩) hHeld ?_
      rotate_left
      · intro w hSw; (try dsimp only at hSw); go_simp; (try with_reducible rfl)
      try simp only [Act.put, List.setIfInBounds_toArray, List.set_cons_zero, List.set_cons_succ]
      refine wpAnyH_ready (rs := [12]) (by kernel_rfl) (by simp) ?_
      refine AllReadyH.cons rfl (fun K hK => ?_) AllReadyH.nil
      go_simp
      refine (CP.out _ (rt.up (Gw.call bx bq)) (HMO.out.2.2.2.1.up (Gw.call bt bq))).mono ?_
      rintro e u2 ⟨A2, c2, rfl, x2, hb⟩
      replace bq := (by first | exact Gw.call bq hb | exact Gw.call (Below.drew bq) hb)
      have r2 := x2.rd
      clear hb x2
      dsimp only
      refine hK.out _ _ (HB.out _ bq) (fun hHeld => ?_)
      clear hK K
      try simp only [Act.put, List.setIfInBounds_toArray, List.set_cons_zero, List.set_cons_succ]
      refine wpAnyH_ready (rs := [17]) (by kernel_rfl) (by simp) ?_
      refine AllReadyH.cons rfl (fun K hK => ?_) AllReadyH.nil
      go_simp
      refine (CR.out A2 c2 _ r2 (rm4.up (Gw.call bx bq)) (rr4.up (Gw.call bx bq))).mono ?_
      rintro e u3 ⟨rfl, hb⟩
      replace bq := (by first | exact Gw.call bq hb | exact Gw.call (Below.drew bq) hb)
      clear hb r2
      dsimp only
      refine hK.out _ _ (HB.out _ bq) (fun hHeld => ?_)
      clear hK K
      try simp only [Act.put, List.setIfInBounds_toArray, List.set_cons_zero, List.set_cons_succ]
      refine take_d (i := 18) (oi := _) (v := ?_) (d := some 162) rfl (by kernel_rfl) (by as_aux_lemma => kernel_rfl) (by as_aux_lemma => kernel_rfl) (by as_aux_lemma => kernel_rfl) (fun _ _ _ h => h) (Or.inl ⟨by kernel_rfl, ?_⟩) hHeld ?_
      rotate_left
      · intro w hSw; (try dsimp only at hSw); go_simp; (try with_reducible rfl)
      try simp only [Act.put, List.setIfInBounds_toArray, List.set_cons_zero, List.set_cons_succ]
      refine take_d (i := 19) (oi := _) (v := ?_) (d := some 163) rfl (by kernel_rfl) (by as_aux_lemma => kernel_rfl) (by as_aux_lemma => kernel_rfl) (by as_aux_lemma => kernel_rfl) (fun _ _ _ h => h) (Or.inl ⟨by kernel_rfl, ?_⟩) hHeld ?_
      rotate_left
      · intro w hSw; (try dsimp only at hSw); go_simp; (try with_reducible rfl)
      try simp only [Act.put, List.setIfInBounds_toArray, List.set_cons_zero, List.set_cons_succ]
      refine wpAnyH_ready (rs := [20]) (by kernel_rfl) (by simp) ?_
      refine AllReadyH.cons rfl (fun K hK => ?_) AllReadyH.nil
      go_simp
      refine (awake_any _).mono ?_
      rintro e u4 ⟨rfl, hb⟩
      replace bq := (by first | exact Gw.call bq hb | exact Gw.call (Below.drew bq) hb)
      clear hb
      dsimp only
      refine hK.out _ _ (HB.out _ bq) (fun hHeld => ?_)
      clear hK K
      try simp only [Act.put, List.setIfInBounds_toArray, List.set_cons_zero, List.set_cons_succ]
      refine take_d (i := 21) (oi := _) (v := ?_) (d := some 165) rfl (by kernel_rfl) (by as_aux_lemma => kernel_rfl) (by as_aux_lemma => kernel_rfl) (by as_aux_lemma => kernel_rfl) (fun _ _ _ h => h) (Or.inl ⟨by kernel_rfl, ?_⟩) hHeld ?_
      rotate_left
      · intro w hSw; (try dsimp only at hSw); go_simp; (try with_reducible rfl)
      try simp only [Act.put, List.setIfInBounds_toArray, List.set_cons_zero, List.set_cons_succ]
      refine take_d (i := 22) (oi := _) (v := ?_) (d := some 14) rfl (by kernel_rfl) (by as_aux_lemma => kernel_rfl) (by as_aux_lemma => kernel_rfl) (by as_aux_lemma => kernel_rfl) (fun _ _ _ h => h) (Or.inl ⟨by kernel_rfl, ?_⟩) hHeld ?_
      rotate_left
      · intro w hSw; (try dsimp only at hSw); go_simp; (try with_reducible rfl)
      try simp only [Act.put, List.setIfInBounds_toArray, List.set_cons_zero, List.set_cons_succ]
      refine wpAnyH_done (by kernel_rfl) ?_ _
      go_wp2_with fail
      go_ret
      exact ⟨rfl, Gw.call bt bq⟩
end Go.Proofs.Ytcclnfpegepcnaa
