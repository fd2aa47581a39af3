/-
  StableAny (19): in whatever order reports come, and however often, they come to the same.
-/
import Derived.Test.YtcclnfpegepcnaaAnyL
import Derived.Test.YtcclnfpegepcnaaLaw19D
namespace Go.Proofs.Ytcclnfpegepcnaa
open Go.RowKit
set_option maxRecDepth 100000 in
set_option maxHeartbeats 8000000 in
theorem sany_any (nodes turn : Int) (l : List TdV) (A : Option Addr) (ca : Nat) (w : World) (hn : 0 ≤ nodes ∧ nodes ≤ 255) (ht : 0 ≤ turn ∧ turn ≤ 255) (hl : Rd tdc 3 w.heap.size w A l) (hlo : ∀ x ∈ l, x.ok w) (hlc : l.length ≤ ca) (hca : ca ≤ 9223372036854775807) :
    Calls Try.prog 4 #[.int .u8 nodes, .slice A l.length ca, .int .u8 turn] w fun e w' => e = .returned (.bool true) ∧ Below w.heap.size w w' := by
  obtain ⟨nn, hnn⟩ : ∃ nn : Nat, 1 + nodes % 12 = (nn : Int) := ⟨(1 + nodes % 12).toNat, by omega⟩
  have nn1 : 1 ≤ nn := by omega
  have nn12 : nn ≤ 12 := by omega
  have HLO := Lib.hid hlo
  obtain ⟨i2, hi2, hv0, hv1, hv2⟩ := info_parts Try.infoTd
  have hll : l.length ≤ 9223372036854775807 := by omega
  have HF1 := Lib.hid (fun W h => few_any l A ca 30 W h hll)
  have tnn : ((nn : Int) != (nn : Int)) = false := by simp
  clear hlo
  go_enter Try.func4, Try.ntmps4
  go_wp2_with fail
  refine (HF1.out _ hl).mono ?_
  rintro e w1 ⟨rfl, b0⟩
  clear HF1 hn hnn
  have HFW := Lib.hid (fun (h : fewB l 30 = true) => of_decide_eq_true h)
  cases hf : fewB l 30
  · clear HFW
    go_wp2_with fail
    refine (awake_any _).mono ?_
    rintro e w9 ⟨rfl, hb⟩
    go_wp2_with fail
    go_ret
    exact ⟨rfl, Gw.call b0 hb⟩
  obtain ⟨hf40, hf30⟩ := HFW.out hf
  have HF40 := Lib.hid hf40
  clear HFW hf hf40 hll
  obtain ⟨kk, hkk⟩ : ∃ kk : Nat, turn % ((l.length : Int) + 1) = kk := ⟨(turn % ((l.length : Int) + 1)).toNat, by have := Int.emod_nonneg turn (b := (l.length : Int) + 1) (by omega); omega⟩
  have hkl : kk ≤ l.length := by have := Int.emod_lt_of_pos turn (b := (l.length : Int) + 1) (by omega); omega
  have hk1 : (kk : Int) ≤ (l.length : Int) := by omega
  have hk2 : (kk : Int) ≤ (ca : Int) := by omega
  have HKK := Lib.hid hkk
  clear hkk
  have h30 : l.length ≤ 30 := by omega
  have HTD := Lib.hid (fun W h h2 => told_any nn l A ca W (by omega) h (by omega) h2 (fun x hx => by have := HF40.out x hx; omega))
  have HOK2 : Hid (∀ x ∈ l, 0 ≤ x.m ∧ ∀ m ∈ x.l, m.ok) := Lib.hid (fun x hx => ⟨(HLO.out x hx).1.1, (HLO.out x hx).2.2.2.2⟩)
  have HTURN := Lib.hid (told_turn (n := nn) kk HOK2.out)
  have HOF := Lib.hid (of_told nn l HOK2.out)
  have HSH := Lib.hid (toldL_shape nn l)
  go_wp2_with fail
  refine (HTD.out _ (hl.up b0) (fun x hx => (HLO.out x hx).up b0)).mono ?_
  rintro e w2 ⟨A1, c1, rfl, rt, hb⟩
  replace b0 := Gw.call b0 hb
  clear hb HTD
  have TL : Hid ((toldL nn l).length = nn) := Lib.hid HSH.out.1
  have TR : Hid (∀ r ∈ toldL nn l, r.length = nn) := Lib.hid HSH.out.2
  clear HSH
  rw [HKK.out]
  go_wp2_with fail
  have hl2 := hl.up b0
  have HT2 : Hid (∀ n A' c' W, n = ((l.drop kk ++ l.take kk) ++ l).length → Rd tdc 3 W.heap.size W A' ((l.drop kk ++ l.take kk) ++ l) → (∀ x ∈ l, x.ok W) → Calls Try.prog 11 #[.int .i64 nn, .slice A' n c'] W fun e w' => ∃ A' c', e = .returned (.slice A' nn c') ∧ Rep w'.heap.size w' A' (toldL nn l) ∧ Below W.heap.size W w') := Lib.hid fun n A' c' W hn h h2 => by
    subst hn
    rw [← HTURN.out]
    exact told_any nn ((l.drop kk ++ l.take kk) ++ l) A' c' W (by omega) h (by simp; omega) (fun x hx => h2 x ((turn_mem l kk x).2 hx)) (fun x hx => by have := HF40.out x ((turn_mem l kk x).2 hx); omega)
  have CSM := Lib.hid (fun (A1 A2 : Option Addr) (c1 c2 : Nat) (W : World) h3 h4 => (show decide (toldL nn l = toldL nn l) = true by simp) ▸ same_any (toldL nn l) (toldL nn l) A1 A2 c1 c2 nn nn W TL.out TL.out h3 h4 (fun r hr => by rw [TR.out r hr]; omega) (fun r hr => by rw [TR.out r hr]; omega) (by omega) (by omega))
  have L0 : Own tdc 3 31 w2.heap.size ((w2.alloc (.cells #[] 31)).drew) (.slice (some ⟨w2.heap.size, 0, none⟩) 0 0) [] := Own.drew (Own.litg _ _ rfl (Nat.le_refl _))
  have b := Below.refl w2.heap.size w2
  have hok2 : ∀ x ∈ l, x.ok w2 := fun x hx => (HLO.out x hx).up b0
  have HOK3 := Lib.hid hok2
  clear hok2
  go_region_held3 (fun W => True) (first | trivial) (first
    | ((with_reducible show Calls _ _ _ _ _); go_at_call 11; (with_reducible refine (HT2.out _ _ _ _ (by simp; omega) (hc.rd tdc_len) (fun x hx => (HOK3.out x hx).up b)).mono ?_); rintro e w7 ⟨A7, c7, rfl, r7, hb⟩; replace b := Gw.call b hb; clear hb hc; dsimp only)
    | ((with_reducible show Calls _ _ _ _ _); go_at_call 15; (with_reducible refine (CSM.out _ _ _ _ _ r7 (rt.up b)).mono ?_); rintro e w8 ⟨rfl, hb⟩; replace b := Gw.call b hb; clear hb r7; dsimp only)
    | (have hc := L0; clear L0; replace b := Gw.drew (Gw.al b (.cells #[] 31)); refine step_app rfl _ _ _ _ rfl w2.heap.size 31 i2 _ 40 Try.underlying22 hi2 hv0 hv1 hv2 rfl (by omega) tdc_len tdc_one _ _ rfl hc (0) rfl _ _ _ _ (l.drop kk) rfl (by simp) (Rd.cut (hl2.up b) hlc) (by omega) (by omega) b.size ?_; intro A5 c5 w5 hc3 hg; have hlo := Own.lt hc; replace b := Gw.gr b hg (fun k' h => hlo k' h); clear hg hlo hc; have hc := hc3; clear hc3; (try simp only [List.nil_append] at hc))
    | (refine step_app rfl _ _ _ _ rfl w2.heap.size 31 i2 _ 40 Try.underlying22 hi2 hv0 hv1 hv2 rfl (by omega) tdc_len tdc_one _ _ rfl hc (0 + (l.length - kk)) (by simp) _ _ _ _ (l.take kk) rfl (by simp; omega) (Rd.take (hl2.up b) kk) (by omega) (by omega) b.size ?_; intro A5 c5 w5 hc3 hg; have hlo := Own.lt hc; replace b := Gw.gr b hg (fun k' h => hlo k' h); clear hg hlo hc; have hc := hc3; clear hc3; (try simp only [List.nil_append] at hc))
    | (refine step_app rfl _ _ _ _ rfl w2.heap.size 31 i2 _ 40 Try.underlying22 hi2 hv0 hv1 hv2 rfl (by omega) tdc_len tdc_one _ _ rfl hc (0 + (l.length - kk) + kk) (by simp; omega) _ _ _ _ (l) rfl rfl (hl2.up b) (by omega) (by omega) b.size ?_; intro A5 c5 w5 hc3 hg; have hlo := Own.lt hc; replace b := Gw.gr b hg (fun k' h => hlo k' h); clear hg hlo hc; have hc := hc3; clear hc3; (try simp only [List.nil_append] at hc))
    | fail)
  replace b0 := Gw.call b0 b
  replace rt := rt.up b
  clear b HT2 CSM hl2 HOK3
  obtain ⟨T, hT⟩ : ∃ T, T = toldL nn l := ⟨_, rfl⟩
  rw [← hT] at rt TL TR HOF
  clear hT HTURN HOK2 TR HKK hk1 hk2 hkl hlc hca
  
  have bB := Below.refl w8.heap.size w8
  generalize (if ca = kk then A else Option.map (fun x => x.add (kk * 3)) A) = AX
  go_wp2_with fail
  go_loopw [57] (fun iv wr => ∃ i : Nat, i ≤ 13 ∧ iv = .int .i64 i ∧ Below w8.heap.size w8 wr) (fun iv _ => 13 - (intOf iv).toNat)
  case atStart => exact ⟨0, by omega, rfl, bB⟩
  case round =>
    clear bB
    obtain ⟨i, hi, rfl, bl⟩ := hrel
    by_cases hil : i < 13
    · have ii : (i : Int) < 13 := by omega
      go_wp2_with fail
      go_loopw [60] (fun kv wr => ∃ k : Nat, k ≤ 13 ∧ kv = .int .i64 k ∧ Below w8.heap.size w8 wr) (fun kv _ => 13 - (intOf kv).toNat)
      case atStart => exact ⟨0, by omega, rfl, bl⟩
      case round =>
        clear bl
        obtain ⟨k, hk, rfl, bl⟩ := hrel
        by_cases hkl : k < 13
        · have ki : (k : Int) < 13 := by omega
          have wi : IntKind.u8.wrap (i : Int) = (i : Int) := IntWalk.u8_in _ (by omega)
          have wk : IntKind.u8.wrap (k : Int) = (k : Int) := IntWalk.u8_in _ (by omega)
          have hof := HOF.out i k
          go_wp2_with fail
          refine (of_any T A1 c1 nn i k _ TL.out (rt.up bl) (by omega) (by omega)).mono ?_
          rintro e w6 ⟨rfl, hb⟩
          have b6 := Gw.call bl hb
          clear hb bl
          obtain ⟨o, ho⟩ : ∃ o, o = ofL T i k := ⟨_, rfl⟩
          rw [← ho] at hof ⊢
          clear ho
          have HOFF := Lib.hid hof
          clear hof
          go_upto_region 16 with fail
          have G := (Ob.new w6 #[.int .u8 o.n, .int .u16 o.i, .int .u32 o.s] 40).alloc (.cells #[.int .u8 (k : Int), .int .u16 0, .int .u32 0] 40)
          have Wn := Ob.new (w6.alloc (.cells #[.int .u8 o.n, .int .u16 o.i, .int .u32 o.s] 40)) #[.int .u8 (k : Int), .int .u16 0, .int .u32 0] 40
          rw [World.size_alloc] at Wn
          have bx := Gw.al (Gw.al b6 (.cells #[.int .u8 o.n, .int .u16 o.i, .int .u32 o.s] 40)) (.cells #[.int .u8 (k : Int), .int .u16 0, .int .u32 0] 40)
          generalize hwq : (w6.alloc (.cells #[.int .u8 o.n, .int .u16 o.i, .int .u32 o.s] 40)).alloc (.cells #[.int .u8 (k : Int), .int .u16 0, .int .u32 0] 40) = wq at *
          have hg1 := b6.size
          generalize hgb : w6.heap.size = gb at *
          have hg2 : gb ≠ gb + 1 := by omega
          clear hwq hgb b6
          generalize hgc : gb + 1 = gc at *
          have hg3 : w8.heap.size ≤ gc := by omega
          clear hgc
          go_wp2_with fail
          go_loopw [74] (fun pv wr => ∃ (p : Nat) (q : Id), p ≤ l.length ∧ pv = .int .i64 p ∧ Hid (q = wantL nn i k (l.take p)) ∧ Ob wr gb #[.int .u8 o.n, .int .u16 o.i, .int .u32 o.s] 40 ∧ Ob wr gc #[.int .u8 q.n, .int .u16 q.i, .int .u32 q.s] 40 ∧ Below w8.heap.size w8 wr) (fun pv _ => l.length - (intOf pv).toNat)
          case atStart => exact ⟨0, ⟨(k : Int), 0, 0⟩, by omega, rfl, Lib.hid rfl, G, Wn, bx⟩
          case round =>
            clear G Wn bx
            obtain ⟨p, q, hp, rfl, HQ, G, Wn, bl⟩ := hrel
            by_cases hpl : p < l.length
            · obtain ⟨x, hx⟩ : ∃ x, l[p]? = some x := ⟨_, List.getElem?_eq_getElem hpl⟩
              obtain ⟨⟨xm0, xm1⟩, xc, xcm, xr, xok⟩ := HLO.out x (List.mem_of_getElem? hx)
              have XOK := Lib.hid xok
              clear xok
              have x40 := HF40.out x (List.mem_of_getElem? hx)
              obtain ⟨bm, om, rfl, hbm, hc⟩ := (hl.below (Gw.call b0 bl)).at_ hx
              have d0 : wr.cell? ⟨bm, om + p * 3, none⟩ = some (.int .u8 x.m) := hc 0 _ rfl
              have d1 : wr.cell? ⟨bm, om + p * 3 + 1, none⟩ = some (.slice x.A x.l.length x.cap) := hc 1 _ rfl
              have d2 : wr.cell? ⟨bm, om + p * 3 + 2, none⟩ = some (.bool x.f) := hc 2 _ rfl
              have WT := Lib.hid (wantL_take (n := nn) (i := i) (j := k) hx)
              have pl : (p : Int) < (l.length : Int) := by omega
              clear hc hx
              have X := Ob.new wr #[.int .u8 x.m, .slice x.A x.l.length x.cap, .bool x.f] 31
              have G1 := G.alloc (.cells #[.int .u8 x.m, .slice x.A x.l.length x.cap, .bool x.f] 31)
              have W1 := Wn.alloc (.cells #[.int .u8 x.m, .slice x.A x.l.length x.cap, .bool x.f] 31)
              have bx := Gw.al bl (.cells #[.int .u8 x.m, .slice x.A x.l.length x.cap, .bool x.f] 31)
              go_upto_region 19 with fail
              have hg4 : gc ≠ wr.heap.size := Nat.ne_of_lt Wn.lt
              clear d0 d1 d2 G Wn bl
              generalize hwq : wr.alloc (.cells #[.int .u8 x.m, .slice x.A x.l.length x.cap, .bool x.f] 31) = wq2 at *
              generalize hgx : wr.heap.size = gx at *
              clear hwq hgx
              have e1 := X.blk.2.1 1 _ rfl
              go_wp2_with fail
              clear e1
              go_loopw [81] (fun jv wr => ∃ (j : Nat) (r : Id), j ≤ x.l.length ∧ jv = .int .i64 j ∧ Hid (r = wantR nn i k x.m q (x.l.take j)) ∧ Ob wr gb #[.int .u8 o.n, .int .u16 o.i, .int .u32 o.s] 40 ∧ Ob wr gc #[.int .u8 r.n, .int .u16 r.i, .int .u32 r.s] 40 ∧ Ob wr gx #[.int .u8 x.m, .slice x.A x.l.length x.cap, .bool x.f] 31 ∧ Below w8.heap.size w8 wr) (fun jv _ => x.l.length - (intOf jv).toNat)
              case atStart => exact ⟨0, q, by omega, rfl, Lib.hid rfl, G1, W1, X, bx⟩
              case round =>
                clear G1 W1 X bx
                obtain ⟨j, r, hj, rfl, HR, G, Wn, X, bl⟩ := hrel
                by_cases hjl : j < x.l.length
                · obtain ⟨m, hm⟩ : ∃ m, x.l[j]? = some m := ⟨_, List.getElem?_eq_getElem hjl⟩
                  obtain ⟨b1, o1, hxA, hb1, f0, f1, f2⟩ := (xr.below (Gw.call b0 bl)).id3 hm
                  have mok := XOK.out m (List.mem_of_getElem? hm)
                  have RT := Lib.hid (wantR_take (n := nn) (i := i) (j := k) (xm := x.m) (w := q) hm)
                  have jl : (j : Int) < (x.l.length : Int) := by omega
                  have HXA := Lib.hid hxA
                  obtain ⟨⟨m0, m1⟩, _⟩ := mok
                  clear hm
                  rw [hxA]
                  clear hxA
                  go_upto_region 22 with fail
                  have M := Ob.new wr #[.int .u8 m.n, .int .u16 m.i, .int .u32 m.s] 40
                  have G1 := G.alloc (.cells #[.int .u8 m.n, .int .u16 m.i, .int .u32 m.s] 40)
                  have W1 := Wn.alloc (.cells #[.int .u8 m.n, .int .u16 m.i, .int .u32 m.s] 40)
                  have X1 := X.alloc (.cells #[.int .u8 m.n, .int .u16 m.i, .int .u32 m.s] 40)
                  have bx := Gw.al bl (.cells #[.int .u8 m.n, .int .u16 m.i, .int .u32 m.s] 40)
                  clear f0 f1 f2 G Wn X bl
                  generalize hwq : wr.alloc (.cells #[.int .u8 m.n, .int .u16 m.i, .int .u32 m.s] 40) = wq3 at *
                  generalize hgm : wr.heap.size = gm at *
                  clear hwq hgm
                  have k0 := X1.blk.2.1 0 _ rfl
                  have k1 := M.blk.2.1 0 _ rfl
                  have k2 := M.blk.2.1 1 _ rfl
                  have k3 := M.blk.2.1 2 _ rfl
                  have k4 := W1.blk.2.1 0 _ rfl
                  have k5 := W1.blk.2.1 1 _ rfl
                  have k6 := W1.blk.2.1 2 _ rfl
                  have bq := Below.refl wq3.heap.size wq3
                  have CN := Lib.hid (newer_any m r)
                  have NO : ¬(x.m = (i : Int) ∧ i < nn ∧ m.n = (k : Int) ∧ k < nn ∧ newerB m r = true) → wantS nn i k x.m r m = r := want_no
                  have HNO := Lib.hid NO
                  clear NO
                  by_cases t1 : x.m = (i : Int)
                  · have u1 : (x.m == (i : Int)) = true := by rw [beq_iff_eq]; exact t1
                    have HT1 := Lib.hid t1
                    clear t1
                    by_cases t2 : i < nn
                    · have u2 : decide ((i : Int) < (nn : Int)) = true := by simp; omega
                      have u2n : decide (i < nn) = true := by simp; omega
                      by_cases t3 : m.n = (k : Int)
                      · have u3 : (m.n == (k : Int)) = true := by rw [beq_iff_eq]; exact t3
                        have HT3 := Lib.hid t3
                        clear t3
                        by_cases t4 : k < nn
                        · have u4 : decide ((k : Int) < (nn : Int)) = true := by simp; omega
                          have u4n : decide (k < nn) = true := by simp; omega
                          cases t5 : newerB m r
                          · have HN := Lib.hid (HNO.out (fun h => by rw [t5] at h; cases h.2.2.2.2))
                            clear HNO
                            go_wp2_with fail
                            refine (CN.out _).mono ?_
                            rintro e u1 ⟨rfl, hb⟩
                            replace bq := Gw.call bq hb
                            clear hb
                            rw [t5]
                            clear k0 k1 k2 k3 k4 k5 k6 CN
                            have bz := Gw.call bx bq
                            replace G1 := G1.call bq
                            replace W1 := W1.call bq
                            replace X1 := X1.call bq
                            clear bq bx
                            go_wp2_with fail
                            go_roundw
                            case rel => exact ⟨j + 1, r, hjl, by go_num, Lib.hid (by rw [RT.out, ← HR.out, HN.out]), G1, W1, by rw [← HXA.out]; exact X1, bz⟩
                            case measure => simp [intOf]; omega
                          · have HN : Hid (wantS nn i k x.m r m = m) := Lib.hid (by rw [HT1.out]; exact want_yes t2 HT3.out t4 t5)
                            clear HNO
                            go_wp2_with fail
                            refine (CN.out _).mono ?_
                            rintro e u1 ⟨rfl, hb⟩
                            replace bq := Gw.call bq hb
                            clear hb
                            rw [t5]
                            clear k0 k1 k2 k3 k4 k5 k6 CN
                            have bz := Gw.call bx bq
                            replace G1 := G1.call bq
                            replace W1 := W1.call bq
                            replace X1 := X1.call bq
                            replace M := M.call bq
                            clear bq bx
                            have y0 := M.blk.2.1 0 _ rfl
                            have y1 := M.blk.2.1 1 _ rfl
                            have y2 := M.blk.2.1 2 _ rfl
                            have z0 := W1.blk.2.1 0 _ rfl
                            have z1 := W1.blk.2.1 1 _ rfl
                            have z2 := W1.blk.2.1 2 _ rfl
                            have zf := W1.blk.2.2
                            have W2 := ((W1.set 0 (.int .u8 m.n)).set 1 (.int .u16 m.i)).set 2 (.int .u32 m.s)
                            have G2 := ((G1.far (p := gc) (j := 0) hg2 (.int .u8 m.n)).far (p := gc) (j := 1) hg2 (.int .u16 m.i)).far (p := gc) (j := 2) hg2 (.int .u32 m.s)
                            have X2 := ((X1.far (p := gc) (j := 0) (Ne.symm hg4) (.int .u8 m.n)).far (p := gc) (j := 1) (Ne.symm hg4) (.int .u16 m.i)).far (p := gc) (j := 2) (Ne.symm hg4) (.int .u32 m.s)
                            have bz2 := Gw.st (Gw.st (Gw.st bz (p := ⟨gc, 0, none⟩) hg3 (.int .u8 m.n)) (p := ⟨gc, 1, none⟩) hg3 (.int .u16 m.i)) (p := ⟨gc, 2, none⟩) hg3 (.int .u32 m.s)
                            go_wp2_with fail
                            go_roundw
                            case rel => exact ⟨j + 1, m, hjl, by go_num, Lib.hid (by rw [RT.out, ← HR.out, HN.out]), G2, W2, by rw [← HXA.out]; exact X2, bz2⟩
                            case measure => simp [intOf]; omega
                        · have u4 : decide ((k : Int) < (nn : Int)) = false := by simp; omega
                          have u4n : decide (k < nn) = false := by simp; omega
                          have HN := Lib.hid (HNO.out (fun h => t4 h.2.2.2.1))
                          clear HNO CN
                          have CN := trivial
                          have bz := Gw.call bx bq
                          replace G1 := G1.call bq
                          replace W1 := W1.call bq
                          replace X1 := X1.call bq
                          clear bq bx
                          go_wp2_with fail
                          go_roundw
                          case rel => exact ⟨j + 1, r, hjl, by go_num, Lib.hid (by rw [RT.out, ← HR.out, HN.out]), G1, W1, by rw [← HXA.out]; exact X1, bz⟩
                          case measure => simp [intOf]; omega
                      · have u3 : (m.n == (k : Int)) = false := by rw [beq_eq_false_iff_ne]; exact t3
                        have HN := Lib.hid (HNO.out (fun h => t3 h.2.2.1))
                        clear HNO t3 CN
                        have CN := trivial
                        have bz := Gw.call bx bq
                        replace G1 := G1.call bq
                        replace W1 := W1.call bq
                        replace X1 := X1.call bq
                        clear bq bx
                        go_wp2_with fail
                        go_roundw
                        case rel => exact ⟨j + 1, r, hjl, by go_num, Lib.hid (by rw [RT.out, ← HR.out, HN.out]), G1, W1, by rw [← HXA.out]; exact X1, bz⟩
                        case measure => simp [intOf]; omega
                    · have u2 : decide ((i : Int) < (nn : Int)) = false := by simp; omega
                      have u2n : decide (i < nn) = false := by simp; omega
                      have HN := Lib.hid (HNO.out (fun h => t2 h.2.1))
                      clear HNO CN
                      have CN := trivial
                      have bz := Gw.call bx bq
                      replace G1 := G1.call bq
                      replace W1 := W1.call bq
                      replace X1 := X1.call bq
                      clear bq bx
                      go_wp2_with fail
                      go_roundw
                      case rel => exact ⟨j + 1, r, hjl, by go_num, Lib.hid (by rw [RT.out, ← HR.out, HN.out]), G1, W1, by rw [← HXA.out]; exact X1, bz⟩
                      case measure => simp [intOf]; omega
                  · have u1 : (x.m == (i : Int)) = false := by rw [beq_eq_false_iff_ne]; exact t1
                    have HN := Lib.hid (HNO.out (fun h => t1 h.1))
                    clear HNO t1 CN
                    have CN := trivial
                    have bz := Gw.call bx bq
                    replace G1 := G1.call bq
                    replace W1 := W1.call bq
                    replace X1 := X1.call bq
                    clear bq bx
                    go_wp2_with fail
                    go_roundw
                    case rel => exact ⟨j + 1, r, hjl, by go_num, Lib.hid (by rw [RT.out, ← HR.out, HN.out]), G1, W1, by rw [← HXA.out]; exact X1, bz⟩
                    case measure => simp [intOf]; omega
                · obtain rfl : j = x.l.length := by omega
                  have HR2 : Hid (r = wantL nn i k (l.take (p + 1))) := Lib.hid (by rw [WT.out, ← HQ.out, HR.out, List.take_length])
                  clear HR
                  go_wp2_with fail
                  go_roundw
                  case rel => exact ⟨p + 1, r, hpl, by go_num, HR2, G, Wn, bl⟩
                  case measure => simp [intOf]; omega
            · obtain rfl : p = l.length := by omega
              obtain rfl : o = q := by rw [HQ.out, List.take_length, HOFF.out]
              have y0 := G.blk.2.1 0 _ rfl
              have y1 := G.blk.2.1 1 _ rfl
              have y2 := G.blk.2.1 2 _ rfl
              have z0 := Wn.blk.2.1 0 _ rfl
              have z1 := Wn.blk.2.1 1 _ rfl
              have z2 := Wn.blk.2.1 2 _ rfl
              have hnm := neq_mark19 o o
              rw [show decide (o ≠ o) = false by simp] at hnm
              go_wp2_with fail
              go_roundw
              case rel => exact ⟨k + 1, hkl, by go_num, bl⟩
              case measure => simp [intOf]; omega
        · obtain rfl : k = 13 := by omega
          go_wp2_with fail
          go_roundw
          case rel => exact ⟨i + 1, hil, by go_num, bl⟩
          case measure => simp [intOf]; omega
    · obtain rfl : i = 13 := by omega
      replace b0 := Gw.call b0 bl
      go_wp2_with fail
      refine (awake_any _).mono ?_
      rintro e w9 ⟨rfl, hb⟩
      go_wp2_with fail
      go_ret
      exact ⟨rfl, Gw.call b0 hb⟩
end Go.Proofs.Ytcclnfpegepcnaa
