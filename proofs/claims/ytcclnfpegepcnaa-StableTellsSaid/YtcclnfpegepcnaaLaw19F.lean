/-
  StableTells (19): reports, what they tell, and what is stable, is as the document defines.
-/
import Derived.Test.YtcclnfpegepcnaaRef19C
import Derived.Test.YtcclnfpegepcnaaRef19D
namespace Go.Proofs.Ytcclnfpegepcnaa
open Go.RowKit
theorem eql_mark19 (x y : Id) (w : World) : (binOp .eql 40 (idv x) (idv y)).run Try.prog w = .ok (.bool (decide (x = y))) w := by
  go_simp
  by_cases h0 : x.n = y.n <;> by_cases h1 : x.i = y.i <;> by_cases h2 : x.s = y.s <;> simp [id_ext, h0, h1, h2]
def tellS (t : List (List Id)) (x : TdV) : List (List Id) := reportL (if x.f = true then forgetL t x.m.toNat else t) x.m.toNat x.l
def tellL (n : Nat) (l : List TdV) : List (List Id) := l.foldl tellS (List.replicate n (blank n))
theorem tell_take {n : Nat} {l : List TdV} {k : Nat} {x : TdV} (h : l[k]? = some x) : tellL n (l.take (k + 1)) = tellS (tellL n (l.take k)) x := by
  unfold tellL; rw [List.take_add_one, h, Option.toList_some, List.foldl_append]; rfl
theorem forget_rows2 {t : List (List Id)} {m n : Nat} (hl : t.length = n) (h : ∀ r ∈ t, r.length = n) : ∀ r ∈ forgetL t m, r.length = n := fun r hr => by
  unfold forgetL at hr
  split at hr
  · rcases List.mem_or_eq_of_mem_set hr with h1 | h1
    · exact h r h1
    · rw [h1, blank_len, hl]
  · exact h r hr
theorem forget_len2 (t : List (List Id)) (m : Nat) : (forgetL t m).length = t.length := by unfold forgetL; split <;> simp
theorem tell_shape (n : Nat) : ∀ (l : List TdV) (k : Nat), k ≤ l.length → (tellL n (l.take k)).length = n ∧ ∀ r ∈ tellL n (l.take k), r.length = n
  | l, 0, _ => ⟨by simp [tellL], by unfold tellL; simpa using new_rows n⟩
  | l, k + 1, hk => by
    obtain ⟨x, hx⟩ : ∃ x, l[k]? = some x := ⟨_, List.getElem?_eq_getElem (by omega)⟩
    obtain ⟨h1, h2⟩ := tell_shape n l k (by omega)
    rw [tell_take hx]
    unfold tellS
    split
    · exact ⟨by rw [reportL_len, forget_len2]; exact h1, rep_rows (forget_rows2 h1 h2)⟩
    · exact ⟨by rw [reportL_len]; exact h1, rep_rows h2⟩
theorem newt_any (nodes : Int) (nn : Nat) (w : World) (h : nodes ≤ 40) (hn : nn = nodes.toNat) :
    Calls Try.prog 17 #[.int .i64 nodes] w fun e w' => ∃ A' c', e = .returned (.slice A' nn c') ∧ Rep w'.heap.size w' A' (List.replicate nn (blank nn)) ∧ Below w.heap.size w w' := by
  by_cases h0 : nodes ≤ 0
  · obtain rfl : nn = 0 := by omega
    refine (new_none nodes w h0).mono ?_
    rintro e w' ⟨rfl, hb⟩
    exact ⟨none, 0, rfl, Rep.nil_, hb⟩
  · obtain ⟨k, rfl⟩ := Int.eq_ofNat_of_zero_le (show 0 ≤ nodes by omega)
    obtain rfl : nn = k := by omega
    refine (new_any nn w (by omega)).mono ?_
    rintro e w' ⟨A', c', rfl, h, hb⟩
    exact ⟨A', c', rfl, h.rd, hb⟩
theorem refnewt_any (nodes : Int) (nn : Nat) (w : World) (h : nodes ≤ 40) (hn : nn = nodes.toNat) :
    Calls Try.prog 18 #[.int .i64 nodes] w fun e w' => ∃ A' c', e = .returned (.slice A' nn c') ∧ Rep w'.heap.size w' A' (List.replicate nn (blank nn)) ∧ Below w.heap.size w w' := by
  by_cases h0 : nodes ≤ 0
  · obtain rfl : nn = 0 := by omega
    refine (refnew_none nodes w h0).mono ?_
    rintro e w' ⟨rfl, hb⟩
    exact ⟨none, 0, rfl, Rep.nil_, hb⟩
  · obtain ⟨k, rfl⟩ := Int.eq_ofNat_of_zero_le (show 0 ≤ nodes by omega)
    obtain rfl : nn = k := by omega
    refine (refnew_any nn w (by omega)).mono ?_
    rintro e w' ⟨A', c', rfl, h, hb⟩
    exact ⟨A', c', rfl, h.rd, hb⟩
set_option maxRecDepth 100000 in
set_option maxHeartbeats 8000000 in
theorem stells_any (nodes : Int) (l : List TdV) (M : List Mb) (self : Nat) (R : List Rw) (a : Nat) (xi xs : Int) (mem node : Nat) (A C B : Option Addr) (ca cc cb : Nat) (w : World) (hnm : -9223372036854775808 ≤ nodes) (hl : Rd tdc 3 w.heap.size w A l) (hlo : ∀ x ∈ l, x.ok w) (hll : l.length ≤ 9223372036854775807) (hm : Rd memc 3 w.heap.size w C M) (hml : M.length ≤ 9223372036854775807) (hself : self ≤ 255) (hr : Rd rowc 3 w.heap.size w B R) (hrl : R.length ≤ 9223372036854775807) (hx : (⟨(a : Int), xi, xs⟩ : Id).ok) (hmem : mem ≤ 255) (hnode : node ≤ 255) :
    Calls Try.prog 7 #[.int .i64 nodes, .slice A l.length ca, .slice C M.length cc, .int .u8 (self : Int), .slice B R.length cb, .agg #[.int .u8 (a : Int), .int .u16 xi, .int .u32 xs], .int .u8 (mem : Int), .int .u8 (node : Int)] w fun e w' => e = .returned (.bool true) ∧ Below w.heap.size w w' := by
  have HLO := Lib.hid hlo
  have HXO := Lib.hid hx
  have ha255 : a ≤ 255 := by have := hx.1.2; simp only at this; omega
  have oX := Ob.new w #[.int .u8 (a : Int), .int .u16 xi, .int .u32 xs] 28
  have b0 := Gw.al (Below.refl w.heap.size w) (.cells #[.int .u8 (a : Int), .int .u16 xi, .int .u32 xs] 28)
  have HF1 := Lib.hid (fun W h => few_any l A ca 40 W h hll)
  clear hlo hx
  go_enter Try.func7, Try.ntmps7
  by_cases h1 : 40 < nodes
  · have q1 : decide (40 < nodes) = true := by simp [h1]
    go_wp2_with fail
    refine (awake_any _).mono ?_
    rintro e w9 ⟨rfl, hb⟩
    go_wp2_with fail
    go_ret
    exact ⟨rfl, Gw.call b0 hb⟩
  have q1 : decide (40 < nodes) = false := by simp; omega
  obtain ⟨nn, hnn⟩ : ∃ nn : Nat, nn = nodes.toNat := ⟨_, rfl⟩
  have nn40 : nn ≤ 40 := by omega
  have CN1 := Lib.hid (fun W => newt_any nodes nn W (by omega) hnn)
  have CN2 := Lib.hid (fun W => refnewt_any nodes nn W (by omega) hnn)
  clear h1 hnn
  go_wp2_with fail
  refine (HF1.out _ (hl.up b0)).mono ?_
  rintro e w1 ⟨rfl, hb⟩
  replace b0 := Gw.call b0 hb
  replace oX := oX.call hb
  clear hb HF1
  have HFW := Lib.hid (fun (h : fewB l 40 = true) => of_decide_eq_true h)
  cases hf : fewB l 40
  · clear HFW
    go_wp2_with fail
    refine (awake_any _).mono ?_
    rintro e w9 ⟨rfl, hb⟩
    go_wp2_with fail
    go_ret
    exact ⟨rfl, Gw.call b0 hb⟩
  obtain ⟨hf40, hf30⟩ := HFW.out hf
  have HF40 := Lib.hid hf40
  clear HFW hf hf40 hll
  by_cases h2 : 40 < M.length
  · have q2 : decide ((40 : Int) < (M.length : Int)) = true := by simp; omega
    have q2n : decide (40 < M.length) = true := by simp; omega
    go_wp2_with fail
    refine (awake_any _).mono ?_
    rintro e w9 ⟨rfl, hb⟩
    go_wp2_with fail
    go_ret
    exact ⟨rfl, Gw.call b0 hb⟩
  have q2 : decide ((40 : Int) < (M.length : Int)) = false := by simp; omega
  have q2n : decide (40 < M.length) = false := by simp; omega
  by_cases h3 : 40 < R.length
  · have q3 : decide ((40 : Int) < (R.length : Int)) = true := by simp; omega
    have q3n : decide (40 < R.length) = true := by simp; omega
    go_wp2_with fail
    refine (awake_any _).mono ?_
    rintro e w9 ⟨rfl, hb⟩
    go_wp2_with fail
    go_ret
    exact ⟨rfl, Gw.call b0 hb⟩
  have q3 : decide ((40 : Int) < (R.length : Int)) = false := by simp; omega
  have q3n : decide (40 < R.length) = false := by simp; omega
  have l40 : l.length ≤ 40 := by omega
  go_wp2_with fail
  refine (CN1.out _).mono ?_
  rintro e w2 ⟨A1, c1, rfl, ra, hb⟩
  replace b0 := Gw.call b0 hb
  replace oX := oX.call hb
  clear hb
  go_wp2_with fail
  refine (CN2.out _).mono ?_
  rintro e w3 ⟨B1, d1, rfl, rb, hb⟩
  replace b0 := Gw.call b0 hb
  replace oX := oX.call hb
  replace ra := ra.up hb
  clear hb CN1 CN2
  go_wp2_with fail
  go_loopw [17, 18, 45] (fun ta tb jv wr => ∃ (j : Nat) (A1 : Option Addr) (c1 : Nat) (B1 : Option Addr) (d1 : Nat), j ≤ l.length ∧ jv = .int .i64 j ∧ ta = .slice A1 nn c1 ∧ tb = .slice B1 nn d1 ∧ Rep wr.heap.size wr A1 (tellL nn (l.take j)) ∧ Rep wr.heap.size wr B1 (tellL nn (l.take j)) ∧ Below w3.heap.size w3 wr) (fun _ _ jv _ => l.length - (intOf jv).toNat)
  case atStart => exact ⟨0, A1, c1, B1, d1, Nat.zero_le _, rfl, rfl, rfl, ra, rb, Below.refl _ _⟩
  case round =>
    clear ra rb
    obtain ⟨j, A1, c1, B1, d1, hj, rfl, rfl, rfl, ra, rb, bl⟩ := hrel
    have HSH := Lib.hid (tell_shape nn l j hj)
    by_cases hjl : j < l.length
    · obtain ⟨x, hx⟩ : ∃ x, l[j]? = some x := ⟨_, List.getElem?_eq_getElem hjl⟩
      obtain ⟨⟨xm0, xm1⟩, xc, xcm, xr, xok⟩ := HLO.out x (List.mem_of_getElem? hx)
      have XOK := Lib.hid xok
      clear xok
      have x40 := HF40.out x (List.mem_of_getElem? hx)
      obtain ⟨bm, om, rfl, hbm, hc⟩ := (hl.below (Gw.call b0 bl)).at_ hx
      have d0 : wr.cell? ⟨bm, om + j * 3, none⟩ = some (.int .u8 x.m) := hc 0 _ rfl
      have d1' : wr.cell? ⟨bm, om + j * 3 + 1, none⟩ = some (.slice x.A x.l.length x.cap) := hc 1 _ rfl
      have d2 : wr.cell? ⟨bm, om + j * 3 + 2, none⟩ = some (.bool x.f) := hc 2 _ rfl
      have STP := Lib.hid (tell_take (n := nn) hx)
      have ji : (j : Int) < (l.length : Int) := by omega
      clear hc hx
      have bx := Gw.al bl (.cells #[.int .u8 x.m, .slice x.A x.l.length x.cap, .bool x.f] 31)
      have X := Ob.new wr #[.int .u8 x.m, .slice x.A x.l.length x.cap, .bool x.f] 31
      have hal := Gw.al (Below.refl wr.heap.size wr) (.cells #[.int .u8 x.m, .slice x.A x.l.length x.cap, .bool x.f] 31)
      have ra1 := ra.up hal
      have rb1 := rb.up hal
      go_upto_region 7 with fail
      generalize hwq : wr.alloc (.cells #[.int .u8 x.m, .slice x.A x.l.length x.cap, .bool x.f] 31) = wq at *
      generalize hgx : wr.heap.size = gx at *
      clear hwq d0 d1' d2 ra rb bl hal
      have k2 := X.blk.2.1 2 _ rfl
      have TL : Hid ((tellL nn (l.take j)).length = nn) := Lib.hid HSH.out.1
      have TR : Hid (∀ r ∈ tellL nn (l.take j), r.length = nn) := Lib.hid HSH.out.2
      generalize hT : tellL nn (l.take j) = T at *
      clear hT HSH
      obtain ⟨gm, hgm⟩ : ∃ gm : Nat, gm = x.m.toNat := ⟨_, rfl⟩
      have bq := Below.refl wq.heap.size wq
      cases hxf : x.f
      · have EQ : Hid (tellS T x = reportL T x.m.toNat x.l) := Lib.hid (by unfold tellS; rw [if_neg (by rw [hxf]; simp)])
        rw [hxf] at k2
        go_upto_region 9 with fail
        clear k2
        have HB : Hid (∀ W, Below wq.heap.size wq W → (fun W : World => W.cell? ⟨gx, 0, none⟩ = some (.int .u8 x.m) ∧ W.cell? ⟨gx, 1, none⟩ = some (.slice x.A x.l.length x.cap)) W) := Lib.hid fun W hb => ⟨(X.call hb).blk.2.1 0 _ rfl, (X.call hb).blk.2.1 1 _ rfl⟩
        have CR1 := Lib.hid (fun W h1 h2 => report_any T A1 c1 nn x.m x.l x.A x.cap W TL.out h1 (by omega) (fun r hr => by rw [TR.out r hr]; omega) ⟨xm0, xm1⟩ h2 (by omega) XOK.out)
        have CR2 := Lib.hid (fun W h1 h2 => refreport_any T B1 d1 nn x.m x.l x.A x.cap W TL.out h1 (by omega) TR.out ⟨xm0, xm1⟩ h2 (by omega) XOK.out)
        have xr1 := xr.up (Gw.call b0 bx)
        have k0 := X.blk.2.1 0 _ rfl
        have k1 := X.blk.2.1 1 _ rfl
        go_region_held3 (fun W : World => W.cell? ⟨gx, 0, none⟩ = some (.int .u8 x.m) ∧ W.cell? ⟨gx, 1, none⟩ = some (.slice x.A x.l.length x.cap)) (first | exact HB.out _ bq | exact HB.out _ (Below.drew bq)) (first
          | ((with_reducible show Calls _ _ _ _ _); go_at_call 14; (with_reducible refine (CR1.out _ (ra1.up (Below.drew bq)) (xr1.up (Below.drew bq))).mono ?_); rintro e u1 ⟨A4, c4, rfl, xa, hb⟩; replace bq := Gw.call (Below.drew bq) hb; have ra4 := xa.rd; clear hb xa)
          | ((with_reducible show Calls _ _ _ _ _); go_at_call 21; (with_reducible refine (CR2.out _ (rb1.up bq) (xr1.up bq)).mono ?_); rintro e u2 ⟨B4, d4, rfl, xb, hb⟩; replace bq := Gw.call bq hb; replace ra4 := ra4.up hb; have rb4 := xb.rd; clear hb xb)
          | fail)
        have VL : Hid ((reportL T x.m.toNat x.l).length = nn) := Lib.hid (by rw [reportL_len]; exact TL.out)
        have VR : Hid (∀ r ∈ reportL T x.m.toNat x.l, r.length = nn) := Lib.hid (rep_rows TR.out)
        clear HB CR1 CR2 k0 k1 ra1 rb1
        have CSM := Lib.hid (fun W h3 h4 => (show decide (reportL T x.m.toNat x.l = reportL T x.m.toNat x.l) = true by simp) ▸ same_any (reportL T x.m.toNat x.l) (reportL T x.m.toNat x.l) A4 B4 c4 d4 nn nn W VL.out VL.out h3 h4 (fun r hr => by rw [VR.out r hr]; omega) (fun r hr => by rw [VR.out r hr]; omega) (by omega) (by omega))
        go_wp2_with fail
        refine (CSM.out _ ra4 rb4).mono ?_
        rintro e w8 ⟨rfl, hb⟩
        replace ra4 := ra4.up hb
        replace rb4 := rb4.up hb
        replace bq := Gw.call bq hb
        clear hb CSM
        go_wp2_with fail
        go_roundw
        case rel => exact ⟨j + 1, A4, c4, B4, d4, hjl, by go_num, rfl, rfl, by rw [STP.out, EQ.out]; exact ra4, by rw [STP.out, EQ.out]; exact rb4, Gw.call bx bq⟩
        case measure => simp [intOf]; omega
      · have EQ : Hid (tellS T x = reportL (forgetL T x.m.toNat) x.m.toNat x.l) := Lib.hid (by unfold tellS; rw [if_pos hxf])
        rw [hxf] at k2
        go_upto_region 8 with fail
        clear k2
        have k0 := X.blk.2.1 0 _ rfl
        have HB : Hid (∀ W, Below wq.heap.size wq W → (fun W : World => W.cell? ⟨gx, 0, none⟩ = some (.int .u8 x.m)) W) := Lib.hid fun W hb => (X.call hb).blk.2.1 0 _ rfl
        have CF1 := Lib.hid (fun W h => forget_any T A1 c1 nn x.m W TL.out h (by omega) (fun r hr => by rw [TR.out r hr]; omega) ⟨xm0, xm1⟩)
        have CF2 := Lib.hid (fun W h => refforget_any T B1 d1 nn x.m W TL.out h (by omega) TR.out ⟨xm0, xm1⟩)
        go_region_held3 (fun W : World => W.cell? ⟨gx, 0, none⟩ = some (.int .u8 x.m)) (first | exact HB.out _ bq | exact HB.out _ (Below.drew bq)) (first
          | ((with_reducible show Calls _ _ _ _ _); go_at_call 19; (with_reducible refine (CF1.out _ (ra1.up (Below.drew bq))).mono ?_); rintro e u1 ⟨A3, c3, rfl, xa, hb⟩; replace bq := Gw.call (Below.drew bq) hb; have ra3 := xa.rd; clear hb xa)
          | ((with_reducible show Calls _ _ _ _ _); go_at_call 20; (with_reducible refine (CF2.out _ (rb1.up bq)).mono ?_); rintro e u2 ⟨B3, d3, rfl, xb, hb⟩; replace bq := Gw.call bq hb; replace ra3 := ra3.up hb; have rb3 := xb.rd; clear hb xb)
          | fail)
        have FL : Hid ((forgetL T x.m.toNat).length = nn) := Lib.hid (by rw [forget_len2]; exact TL.out)
        have FR : Hid (∀ r ∈ forgetL T x.m.toNat, r.length = nn) := Lib.hid (forget_rows2 TL.out TR.out)
        clear HB CF1 CF2 k0 ra1 rb1 TL TR
        have TL := FL
        have TR := FR
        clear FL FR
        generalize forgetL T x.m.toNat = T2 at *
        have ra1 := ra3
        have rb1 := rb3
        clear ra3 rb3
        replace X := X.call bq
        replace bx := Gw.call bx bq
        clear bq
        have bq := Below.refl u2.heap.size u2
        go_upto_region 9 with fail
        have HB : Hid (∀ W, Below u2.heap.size u2 W → (fun W : World => W.cell? ⟨gx, 0, none⟩ = some (.int .u8 x.m) ∧ W.cell? ⟨gx, 1, none⟩ = some (.slice x.A x.l.length x.cap)) W) := Lib.hid fun W hb => ⟨(X.call hb).blk.2.1 0 _ rfl, (X.call hb).blk.2.1 1 _ rfl⟩
        have CR1 := Lib.hid (fun W h1 h2 => report_any T2 A3 c3 nn x.m x.l x.A x.cap W TL.out h1 (by omega) (fun r hr => by rw [TR.out r hr]; omega) ⟨xm0, xm1⟩ h2 (by omega) XOK.out)
        have CR2 := Lib.hid (fun W h1 h2 => refreport_any T2 B3 d3 nn x.m x.l x.A x.cap W TL.out h1 (by omega) TR.out ⟨xm0, xm1⟩ h2 (by omega) XOK.out)
        have xr1 := xr.up (Gw.call b0 bx)
        have k0 := X.blk.2.1 0 _ rfl
        have k1 := X.blk.2.1 1 _ rfl
        go_region_held3 (fun W : World => W.cell? ⟨gx, 0, none⟩ = some (.int .u8 x.m) ∧ W.cell? ⟨gx, 1, none⟩ = some (.slice x.A x.l.length x.cap)) (first | exact HB.out _ bq | exact HB.out _ (Below.drew bq)) (first
          | ((with_reducible show Calls _ _ _ _ _); go_at_call 14; (with_reducible refine (CR1.out _ (ra1.up (Below.drew bq)) (xr1.up (Below.drew bq))).mono ?_); rintro e u1 ⟨A4, c4, rfl, xa, hb⟩; replace bq := Gw.call (Below.drew bq) hb; have ra4 := xa.rd; clear hb xa)
          | ((with_reducible show Calls _ _ _ _ _); go_at_call 21; (with_reducible refine (CR2.out _ (rb1.up bq) (xr1.up bq)).mono ?_); rintro e u2 ⟨B4, d4, rfl, xb, hb⟩; replace bq := Gw.call bq hb; replace ra4 := ra4.up hb; have rb4 := xb.rd; clear hb xb)
          | fail)
        have VL : Hid ((reportL T2 x.m.toNat x.l).length = nn) := Lib.hid (by rw [reportL_len]; exact TL.out)
        have VR : Hid (∀ r ∈ reportL T2 x.m.toNat x.l, r.length = nn) := Lib.hid (rep_rows TR.out)
        clear HB CR1 CR2 k0 k1 ra1 rb1
        have CSM := Lib.hid (fun W h3 h4 => (show decide (reportL T2 x.m.toNat x.l = reportL T2 x.m.toNat x.l) = true by simp) ▸ same_any (reportL T2 x.m.toNat x.l) (reportL T2 x.m.toNat x.l) A4 B4 c4 d4 nn nn W VL.out VL.out h3 h4 (fun r hr => by rw [VR.out r hr]; omega) (fun r hr => by rw [VR.out r hr]; omega) (by omega) (by omega))
        go_wp2_with fail
        refine (CSM.out _ ra4 rb4).mono ?_
        rintro e w8 ⟨rfl, hb⟩
        replace ra4 := ra4.up hb
        replace rb4 := rb4.up hb
        replace bq := Gw.call bq hb
        clear hb CSM
        go_wp2_with fail
        go_roundw
        case rel => exact ⟨j + 1, A4, c4, B4, d4, hjl, by go_num, rfl, rfl, by rw [STP.out, EQ.out]; exact ra4, by rw [STP.out, EQ.out]; exact rb4, Gw.call bx bq⟩
        case measure => simp [intOf]; omega
    · obtain rfl : j = l.length := by omega
      rw [List.take_length] at ra rb HSH
      have TL : Hid ((tellL nn l).length = nn) := Lib.hid HSH.out.1
      have TR : Hid (∀ r ∈ tellL nn l, r.length = nn) := Lib.hid HSH.out.2
      generalize tellL nn l = T at *
      clear HSH
      replace b0 := Gw.call b0 bl
      replace oX := oX.call bl
      clear bl
      have rm4 := hm.up b0
      have rr4 := hr.up b0
      have bq := Below.refl wr.heap.size wr
      have CSM := Lib.hid (fun W h3 h4 => (show decide (T = T) = true by simp) ▸ same_any T T A1 B1 c1 d1 nn nn W TL.out TL.out h3 h4 (fun r hr => by rw [TR.out r hr]; omega) (fun r hr => by rw [TR.out r hr]; omega) (by omega) (by omega))
      have CO1 := Lib.hid (fun W h => of_any T A1 c1 nn mem node W TL.out h hmem hnode)
      have CO2 := Lib.hid (fun W h => refof_any T B1 d1 nn mem node W TL.out h hmem hnode)
      have CS1 := Lib.hid (fun W h1 h2 h3 => stable_any T M (self : Int) R ⟨(a : Int), xi, xs⟩ A1 C B c1 cc cb nn M.length R.length W TL.out rfl rfl h1 h2 h3 (by omega) HXO.out (by omega) (by omega))
      have CS2 := Lib.hid (fun W h1 h2 h3 => refstable_any T M self R a xi xs B1 C B d1 cc cb nn M.length R.length W TL.out rfl rfl h1 h2 h3 hself ha255 (by omega) (by omega))
      obtain ⟨o, ho⟩ : ∃ o, o = ofL T mem node := ⟨_, rfl⟩
      rw [← ho] at CO1 CO2
      generalize stableB T M (self : Int) R ⟨(a : Int), xi, xs⟩ = sb at *
      clear ho TL TR
      go_upto_region 13 with fail
      have HB : Hid (∀ W, Below wr.heap.size wr W → (fun W : World => W.cell? ⟨w.heap.size, 0, none⟩ = some (.int .u8 (a : Int)) ∧ W.cell? ⟨w.heap.size, 1, none⟩ = some (.int .u16 xi) ∧ W.cell? ⟨w.heap.size, 2, none⟩ = some (.int .u32 xs)) W) := Lib.hid fun W hb => ⟨(oX.call hb).blk.2.1 0 _ rfl, (oX.call hb).blk.2.1 1 _ rfl, (oX.call hb).blk.2.1 2 _ rfl⟩
      refine wp_region_held_drew (S := fun W : World => W.cell? ⟨w.heap.size, 0, none⟩ = some (.int .u8 (a : Int)) ∧ W.cell? ⟨w.heap.size, 1, none⟩ = some (.int .u16 xi) ∧ W.cell? ⟨w.heap.size, 2, none⟩ = some (.int .u32 xs)) (by kernel_rfl) (HB.out _ (Below.drew bq)) (fun hHeld => ?_)
      refine take_d (i := 0) (oi := _) (v := ?_) (d := some 76) rfl (by kernel_rfl) (by as_aux_lemma => kernel_rfl) (by as_aux_lemma => kernel_rfl) (by as_aux_lemma => kernel_rfl) (fun _ _ _ h => h) (Or.inl ⟨by kernel_rfl, ?_⟩) hHeld ?_
      rotate_left
      · intro w hSw; (try dsimp only at hSw); go_simp; (try with_reducible rfl)
      try simp only [Act.put, List.setIfInBounds_toArray, List.set_cons_zero, List.set_cons_succ]
      refine take_d (i := 1) (oi := _) (v := ?_) (d := some 77) rfl (by kernel_rfl) (by as_aux_lemma => kernel_rfl) (by as_aux_lemma => kernel_rfl) (by as_aux_lemma => kernel_rfl) (fun _ _ _ h => h) (Or.inl ⟨by kernel_rfl, ?_⟩) hHeld ?_
      rotate_left
      · intro w hSw; (try dsimp only at hSw); go_simp; (try with_reducible rfl)
      try simp only [Act.put, List.setIfInBounds_toArray, List.set_cons_zero, List.set_cons_succ]
      refine wpAnyH_ready (rs := [2]) (by kernel_rfl) (by simp) ?_
      refine AllReadyH.cons rfl (fun K hK => ?_) AllReadyH.nil
      go_simp
      refine (CSM.out _ (ra.up (Below.drew bq)) (rb.up (Below.drew bq))).mono ?_
      rintro e u1 ⟨rfl, hb⟩
      replace bq := (by first | exact Gw.call bq hb | exact Gw.call (Below.drew bq) hb)
      clear hb
      dsimp only
      refine hK.out _ _ (HB.out _ bq) (fun hHeld => ?_)
      clear hK K
      try simp only [Act.put, List.setIfInBounds_toArray, List.set_cons_zero, List.set_cons_succ]
      refine take_d (i := 3) (oi := _) (v := ?_) (d := some 79) rfl (by kernel_rfl) (by as_aux_lemma => kernel_rfl) (by as_aux_lemma => kernel_rfl) (by as_aux_lemma => kernel_rfl) (fun _ _ _ h => h) (Or.inl ⟨by kernel_rfl, ?_⟩) hHeld ?_
      rotate_left
      · intro w hSw; (try dsimp only at hSw); go_simp; (try with_reducible rfl)
      try simp only [Act.put, List.setIfInBounds_toArray, List.set_cons_zero, List.set_cons_succ]
      refine take_d (i := 4) (oi := _) (v := ?_) (d := some 80) rfl (by kernel_rfl) (by as_aux_lemma => kernel_rfl) (by as_aux_lemma => kernel_rfl) (by as_aux_lemma => kernel_rfl) (fun _ _ _ h => h) (Or.inl ⟨by kernel_rfl, ?_⟩) hHeld ?_
      rotate_left
      · intro w hSw; (try dsimp only at hSw); go_simp; (try with_reducible rfl)
      try simp only [Act.put, List.setIfInBounds_toArray, List.set_cons_zero, List.set_cons_succ]
      refine take_d (i := 5) (oi := _) (v := ?_) (d := some 81) rfl (by kernel_rfl) (by as_aux_lemma => kernel_rfl) (by as_aux_lemma => kernel_rfl) (by as_aux_lemma => kernel_rfl) (fun _ _ _ h => h) (Or.inl ⟨by kernel_rfl, ?_⟩) hHeld ?_
      rotate_left
      · intro w hSw; (try dsimp only at hSw); go_simp; (try with_reducible rfl)
      try simp only [Act.put, List.setIfInBounds_toArray, List.set_cons_zero, List.set_cons_succ]
      refine take_d (i := 6) (oi := _) (v := ?_) (d := some 82) rfl (by kernel_rfl) (by as_aux_lemma => kernel_rfl) (by as_aux_lemma => kernel_rfl) (by as_aux_lemma => kernel_rfl) (fun _ _ _ h => h) (Or.inl ⟨by kernel_rfl, ?_⟩) hHeld ?_
      rotate_left
      · intro w hSw; (try dsimp only at hSw); go_simp; (try with_reducible rfl)
      try simp only [Act.put, List.setIfInBounds_toArray, List.set_cons_zero, List.set_cons_succ]
      refine take_d (i := 8) (oi := _) (v := ?_) (d := some 84) rfl (by kernel_rfl) (by as_aux_lemma => kernel_rfl) (by as_aux_lemma => kernel_rfl) (by as_aux_lemma => kernel_rfl) (fun _ _ _ h => h) (Or.inl ⟨by kernel_rfl, ?_⟩) hHeld ?_
      rotate_left
      · intro w hSw; (try dsimp only at hSw); go_simp; (try with_reducible rfl)
      try simp only [Act.put, List.setIfInBounds_toArray, List.set_cons_zero, List.set_cons_succ]
      refine take_d (i := 9) (oi := _) (v := ?_) (d := some 85) rfl (by kernel_rfl) (by as_aux_lemma => kernel_rfl) (by as_aux_lemma => kernel_rfl) (by as_aux_lemma => kernel_rfl) (fun _ _ _ h => h) (Or.inl ⟨by kernel_rfl, ?_⟩) hHeld ?_
      rotate_left
      · intro w hSw; (try dsimp only at hSw); go_simp; (try with_reducible rfl)
      try simp only [Act.put, List.setIfInBounds_toArray, List.set_cons_zero, List.set_cons_succ]
      refine take_d (i := 10) (oi := _) (v := ?_) (d := some 86) rfl (by kernel_rfl) (by as_aux_lemma => kernel_rfl) (by as_aux_lemma => kernel_rfl) (by as_aux_lemma => kernel_rfl) (fun _ _ _ h => h) (Or.inl ⟨by kernel_rfl, ?_⟩) hHeld ?_
      rotate_left
      · intro w hSw; (try dsimp only at hSw); go_simp; (try with_reducible rfl)
      try simp only [Act.put, List.setIfInBounds_toArray, List.set_cons_zero, List.set_cons_succ]
      refine wpAnyH_ready (rs := [7]) (by kernel_rfl) (by simp) ?_
      refine AllReadyH.cons rfl (fun K hK => ?_) AllReadyH.nil
      go_simp
      refine (CO1.out _ (ra.up bq)).mono ?_
      rintro e u1 ⟨rfl, hb⟩
      replace bq := (by first | exact Gw.call bq hb | exact Gw.call (Below.drew bq) hb)
      clear hb
      dsimp only
      refine hK.out _ _ (HB.out _ bq) (fun hHeld => ?_)
      clear hK K
      try simp only [Act.put, List.setIfInBounds_toArray, List.set_cons_zero, List.set_cons_succ]
      refine wpAnyH_ready (rs := [11]) (by kernel_rfl) (by simp) ?_
      refine AllReadyH.cons rfl (fun K hK => ?_) AllReadyH.nil
      go_simp
      refine (CO2.out _ (rb.up bq)).mono ?_
      rintro e u1 ⟨rfl, hb⟩
      replace bq := (by first | exact Gw.call bq hb | exact Gw.call (Below.drew bq) hb)
      clear hb
      dsimp only
      refine hK.out _ _ (HB.out _ bq) (fun hHeld => ?_)
      clear hK K
      try simp only [Act.put, List.setIfInBounds_toArray, List.set_cons_zero, List.set_cons_succ]
      refine take_d (i := 12) (oi := _) (v := .bool true) (d := some 88) rfl (by kernel_rfl) (by as_aux_lemma => kernel_rfl) (by as_aux_lemma => kernel_rfl) (by as_aux_lemma => kernel_rfl) (fun _ _ _ h => h) (Or.inl ⟨by kernel_rfl, ?_⟩) hHeld ?_
      · intro W hSw
        have hee := eql_mark19 o o W
        rw [show decide (o = o) = true by simp] at hee
        go_simp; first | done | simp [hee]
      try simp only [Act.put, List.setIfInBounds_toArray, List.set_cons_zero, List.set_cons_succ]
      refine take_d (i := 13) (oi := _) (v := ?_) (d := some 89) rfl (by kernel_rfl) (by as_aux_lemma => kernel_rfl) (by as_aux_lemma => kernel_rfl) (by as_aux_lemma => kernel_rfl) (fun _ _ _ h => h) (Or.inl ⟨by kernel_rfl, ?_⟩) hHeld ?_
      rotate_left
      · intro w hSw; (try dsimp only at hSw); go_simp; (try with_reducible rfl)
      try simp only [Act.put, List.setIfInBounds_toArray, List.set_cons_zero, List.set_cons_succ]
      refine take_d (i := 14) (oi := _) (v := ?_) (d := some 90) rfl (by kernel_rfl) (by as_aux_lemma => kernel_rfl) (by as_aux_lemma => kernel_rfl) (by as_aux_lemma => kernel_rfl) (fun _ _ _ h => h) (Or.inl ⟨by kernel_rfl, ?_⟩) hHeld ?_
      rotate_left
      · intro w hSw; (try dsimp only at hSw); go_simp; (try with_reducible rfl)
      try simp only [Act.put, List.setIfInBounds_toArray, List.set_cons_zero, List.set_cons_succ]
      refine take_d (i := 15) (oi := _) (v := ?_) (d := some 91) rfl (by kernel_rfl) (by as_aux_lemma => kernel_rfl) (by as_aux_lemma => kernel_rfl) (by as_aux_lemma => kernel_rfl) (fun _ _ _ h => h) (Or.inl ⟨by kernel_rfl, ?_⟩) hHeld ?_
      rotate_left
      · intro w hSw; (try dsimp only at hSw); go_simp; (try with_reducible rfl)
      try simp only [Act.put, List.setIfInBounds_toArray, List.set_cons_zero, List.set_cons_succ]
      refine take_d (i := 16) (oi := _) (v := ?_) (d := some 92) rfl (by kernel_rfl) (by as_aux_lemma => kernel_rfl) (by as_aux_lemma => kernel_rfl) (by as_aux_lemma => kernel_rfl) (fun _ _ _ h => h) (Or.inl ⟨by kernel_rfl, ?_⟩) hHeld ?_
      rotate_left
      · intro w hSw; (try dsimp only at hSw); go_simp; (try with_reducible rfl)
      try simp only [Act.put, List.setIfInBounds_toArray, List.set_cons_zero, List.set_cons_succ]
      refine take_d (i := 17) (oi := _) (v := ?_) (d := some 93) rfl (by kernel_rfl) (by as_aux_lemma => kernel_rfl) (by as_aux_lemma => kernel_rfl) (by as_aux_lemma => kernel_rfl) (fun _ _ _ h => h) (Or.inl ⟨by kernel_rfl, ?_⟩) hHeld ?_
      rotate_left
      · intro w hSw; (try dsimp only at hSw); go_simp; (try with_reducible rfl)
      try simp only [Act.put, List.setIfInBounds_toArray, List.set_cons_zero, List.set_cons_succ]
      refine take_d (i := 18) (oi := _) (v := ?_) (d := some 94) rfl (by kernel_rfl) (by as_aux_lemma => kernel_rfl) (by as_aux_lemma => kernel_rfl) (by as_aux_lemma => kernel_rfl) (fun _ _ _ h => h) (Or.inl ⟨by kernel_rfl, ?_⟩) hHeld ?_
      rotate_left
      · intro w hSw; (try dsimp only at hSw); go_simp; (try with_reducible rfl)
      try simp only [Act.put, List.setIfInBounds_toArray, List.set_cons_zero, List.set_cons_succ]
      refine take_d (i := 19) (oi := _) (v := ?_) (d := some 95) rfl (by kernel_rfl) (by as_aux_lemma => kernel_rfl) (by as_aux_lemma => kernel_rfl) (by as_aux_lemma => kernel_rfl) (fun _ _ _ h => h) (Or.inl ⟨by kernel_rfl, ?_⟩) hHeld ?_
      rotate_left
      · intro w hSw; (try dsimp only at hSw); go_simp; (try with_reducible rfl)
      try simp only [Act.put, List.setIfInBounds_toArray, List.set_cons_zero, List.set_cons_succ]
      refine take_d (i := 21) (oi := _) (v := ?_) (d := some 97) rfl (by kernel_rfl) (by as_aux_lemma => kernel_rfl) (by as_aux_lemma => kernel_rfl) (by as_aux_lemma => kernel_rfl) (fun _ _ _ h => h) (Or.inl ⟨by kernel_rfl, ?_⟩) hHeld ?_
      rotate_left
      · intro w hSw; (try dsimp only at hSw); go_simp; (try with_reducible rfl)
      try simp only [Act.put, List.setIfInBounds_toArray, List.set_cons_zero, List.set_cons_succ]
      refine take_d (i := 22) (oi := _) (v := ?_) (d := some 98) rfl (by kernel_rfl) (by as_aux_lemma => kernel_rfl) (by as_aux_lemma => kernel_rfl) (by as_aux_lemma => kernel_rfl) (fun _ _ _ h => h) (Or.inl ⟨by kernel_rfl, ?_⟩) hHeld ?_
      rotate_left
      · intro w hSw; (try dsimp only at hSw); go_simp; (try with_reducible rfl)
      try simp only [Act.put, List.setIfInBounds_toArray, List.set_cons_zero, List.set_cons_succ]
      refine take_d (i := 23) (oi := _) (v := ?_) (d := some 99) rfl (by kernel_rfl) (by as_aux_lemma => kernel_rfl) (by as_aux_lemma => kernel_rfl) (by as_aux_lemma => kernel_rfl) (fun _ _ _ h => h) (Or.inl ⟨by kernel_rfl, ?_⟩) hHeld ?_
      rotate_left
      · intro w hSw; (try dsimp only at hSw); go_simp; (try with_reducible rfl)
      try simp only [Act.put, List.setIfInBounds_toArray, List.set_cons_zero, List.set_cons_succ]
      refine take_d (i := 24) (oi := _) (v := ?_) (d := some 100) rfl (by kernel_rfl) (by as_aux_lemma => kernel_rfl) (by as_aux_lemma => kernel_rfl) (by as_aux_lemma => kernel_rfl) (fun _ _ _ h => h) (Or.inl ⟨by kernel_rfl, ?_⟩) hHeld ?_
      rotate_left
      · intro w hSw; (try dsimp only at hSw); go_simp; (try with_reducible rfl)
      try simp only [Act.put, List.setIfInBounds_toArray, List.set_cons_zero, List.set_cons_succ]
      refine take_d (i := 25) (oi := _) (v := ?_) (d := some 101) rfl (by kernel_rfl) (by as_aux_lemma => kernel_rfl) (by as_aux_lemma => kernel_rfl) (by as_aux_lemma => kernel_rfl) (fun _ _ _ h => h) (Or.inl ⟨by kernel_rfl, ?_⟩) hHeld ?_
      rotate_left
      · intro w hSw; (try dsimp only at hSw); go_simp; (try with_reducible rfl)
      try simp only [Act.put, List.setIfInBounds_toArray, List.set_cons_zero, List.set_cons_succ]
      refine wpAnyH_ready (rs := [20]) (by kernel_rfl) (by simp) ?_
      refine AllReadyH.cons rfl (fun K hK => ?_) AllReadyH.nil
      go_simp
      refine (CS1.out _ (ra.up bq) (rm4.up bq) (rr4.up bq)).mono ?_
      rintro e u1 ⟨rfl, hb⟩
      replace bq := (by first | exact Gw.call bq hb | exact Gw.call (Below.drew bq) hb)
      clear hb
      dsimp only
      refine hK.out _ _ (HB.out _ bq) (fun hHeld => ?_)
      clear hK K
      try simp only [Act.put, List.setIfInBounds_toArray, List.set_cons_zero, List.set_cons_succ]
      refine wpAnyH_ready (rs := [26]) (by kernel_rfl) (by simp) ?_
      refine AllReadyH.cons rfl (fun K hK => ?_) AllReadyH.nil
      go_simp
      refine (CS2.out _ (rb.up bq) (rm4.up bq) (rr4.up bq)).mono ?_
      rintro e u1 ⟨rfl, hb⟩
      replace bq := (by first | exact Gw.call bq hb | exact Gw.call (Below.drew bq) hb)
      clear hb
      dsimp only
      refine hK.out _ _ (HB.out _ bq) (fun hHeld => ?_)
      clear hK K
      try simp only [Act.put, List.setIfInBounds_toArray, List.set_cons_zero, List.set_cons_succ]
      refine take_d (i := 27) (oi := _) (v := .bool true) (d := some 103) rfl (by kernel_rfl) (by as_aux_lemma => kernel_rfl) (by as_aux_lemma => kernel_rfl) (by as_aux_lemma => kernel_rfl) (fun _ _ _ h => h) (Or.inl ⟨by kernel_rfl, ?_⟩) hHeld ?_
      · intro W hSw
        go_simp; first | done | simp
      try simp only [Act.put, List.setIfInBounds_toArray, List.set_cons_zero, List.set_cons_succ]
      refine take_d (i := 28) (oi := _) (v := ?_) (d := some 104) rfl (by kernel_rfl) (by as_aux_lemma => kernel_rfl) (by as_aux_lemma => kernel_rfl) (by as_aux_lemma => kernel_rfl) (fun _ _ _ h => h) (Or.inl ⟨by kernel_rfl, ?_⟩) hHeld ?_
      rotate_left
      · intro w hSw; (try dsimp only at hSw); go_simp; (try with_reducible rfl)
      try simp only [Act.put, List.setIfInBounds_toArray, List.set_cons_zero, List.set_cons_succ]
      refine take_d (i := 29) (oi := _) (v := ?_) (d := some 105) rfl (by kernel_rfl) (by as_aux_lemma => kernel_rfl) (by as_aux_lemma => kernel_rfl) (by as_aux_lemma => kernel_rfl) (fun _ _ _ h => h) (Or.inl ⟨by kernel_rfl, ?_⟩) hHeld ?_
      rotate_left
      · intro w hSw; (try dsimp only at hSw); go_simp; (try with_reducible rfl)
      try simp only [Act.put, List.setIfInBounds_toArray, List.set_cons_zero, List.set_cons_succ]
      refine wpAnyH_ready (rs := [30]) (by kernel_rfl) (by simp) ?_
      refine AllReadyH.cons rfl (fun K hK => ?_) AllReadyH.nil
      go_simp
      refine (awake_any _).mono ?_
      rintro e u1 ⟨rfl, hb⟩
      replace bq := (by first | exact Gw.call bq hb | exact Gw.call (Below.drew bq) hb)
      clear hb
      dsimp only
      refine hK.out _ _ (HB.out _ bq) (fun hHeld => ?_)
      clear hK K
      try simp only [Act.put, List.setIfInBounds_toArray, List.set_cons_zero, List.set_cons_succ]
      refine take_d (i := 31) (oi := _) (v := ?_) (d := some 107) rfl (by kernel_rfl) (by as_aux_lemma => kernel_rfl) (by as_aux_lemma => kernel_rfl) (by as_aux_lemma => kernel_rfl) (fun _ _ _ h => h) (Or.inl ⟨by kernel_rfl, ?_⟩) hHeld ?_
      rotate_left
      · intro w hSw; (try dsimp only at hSw); go_simp; (try with_reducible rfl)
      try simp only [Act.put, List.setIfInBounds_toArray, List.set_cons_zero, List.set_cons_succ]
      refine take_d (i := 32) (oi := _) (v := ?_) (d := some 16) rfl (by kernel_rfl) (by as_aux_lemma => kernel_rfl) (by as_aux_lemma => kernel_rfl) (by as_aux_lemma => kernel_rfl) (fun _ _ _ h => h) (Or.inl ⟨by kernel_rfl, ?_⟩) hHeld ?_
      rotate_left
      · intro w hSw; (try dsimp only at hSw); go_simp; (try with_reducible rfl)
      try simp only [Act.put, List.setIfInBounds_toArray, List.set_cons_zero, List.set_cons_succ]
      refine wpAnyH_done (by kernel_rfl) ?_ _
      go_wp2_with fail
      go_ret
      exact ⟨rfl, Gw.call b0 bq⟩
end Go.Proofs.Ytcclnfpegepcnaa
