/-
  SeenOnce (08).
-/
import Derived.Test.YtfdppebbpcjhjaaOnce08
import Derived.Test.YtfdppebbpcjhjaaMetStep
import Derived.Deep.DeepCutAuto
import Derived.Test.YtfdppebbpcjhjaaTaken08
import Derived.Test.YtfdppebbpcjhjaaAwake08
import Derived.Test.YtfdppebbpcjhjaaObj
namespace Go.Proofs.Ytfdppebbpcjhjaa
open Go.RowKit Go.Maps
set_option maxRecDepth 100000 in
set_option maxHeartbeats 8000000 in
theorem once_any (l : List Id) (A : Option Addr) (cap : Nat) (win : Int) (w : World) (hr : Rd idc 3 w.heap.size w A l) (hlc : l.length ≤ cap) (hcm : cap ≤ maxLen) (hok : ∀ x ∈ l, x.ok) (hwin : 0 ≤ win ∧ win ≤ 255) :
    Calls Try.prog 5 #[.slice A l.length cap, .int .u8 win] w fun e w' => e = .returned (.bool true) ∧ Below w.heap.size w w' := by
  obtain ⟨m, hm⟩ : ∃ m : Int, 1 + win % 64 = m := ⟨_, rfl⟩
  have hm1 : 1 ≤ m := by omega
  have hm2 : m ≤ 64 := by omega
  have WN := Lib.hid (fun W => win_any win hwin W)
  rw [hm] at WN
  obtain ⟨L, hL⟩ : ∃ L : Nat, L = min l.length 200 := ⟨_, rfl⟩
  have hmk := @run_makeMap Try.prog
  go_enter Try.func5, Try.ntmps5
  go_upto_region 4 with ((go_at_call 9; (with_reducible refine (WN.out _).mono ?_); rintro e w' ⟨rfl, rfl⟩))
  go_cut [23, 24, 25] (fun p q i wx => p = .slice A L cap ∧ q = .int .i64 L ∧ i = .int .i64 0 ∧ wx = (w.alloc (.cells #[.int .u16 0, .int .u32 0, .int .u64 0] 31)).alloc (.map #[] 0))
  case first =>
    by_cases h2 : 200 < l.length
    · have hLe : L = 200 := by omega
      subst hLe
      have hi : (200 : Int) < (l.length : Int) := by omega
      have hi2 : (200 : Int) ≤ (cap : Int) := by omega
      clear hL
      go_wp2_with fail
      go_meet
      exact ⟨rfl, rfl, rfl, rfl⟩
    · have hLe : L = l.length := by omega
      subst hLe
      have hi : (l.length : Int) ≤ 200 := by omega
      have hi2 : (l.length : Int) ≤ (cap : Int) := by omega
      clear hL
      go_wp2_with fail
      go_meet
      exact ⟨rfl, rfl, rfl, rfl⟩
  case rest =>
    obtain ⟨rfl, rfl, rfl, rfl⟩ := hcut
    have hL1 : L ≤ l.length := by omega
    have hL2 : L ≤ 200 := by omega
    have R0 := (Ob.new w #[.int .u16 0, .int .u32 0, .int .u64 0] 31).alloc (.map #[] 0)
    have M0 : OwnsM ((w.alloc (.cells #[.int .u16 0, .int .u32 0, .int .u64 0] 31)).alloc (.map #[] 0)) (w.heap.size + 1) 0 [] := by
      have := World.ownsMap_made (w.alloc (.cells #[.int .u16 0, .int .u32 0, .int .u64 0] 31)) Try.prog 35 (plainElem (H := Unit) Try.prog 3)
      rw [World.size_alloc] at this
      show World.ownsMap _ _ _ _ _ _ (met [])
      rw [met_nil]; exact this
    have b0 := Gw.al (Gw.al (Below.refl w.heap.size w) (.cells #[.int .u16 0, .int .u32 0, .int .u64 0] 31)) (.map #[] 0)
    have S0 := Lib.hid (once_nil hm1 hm2)
    have HM := Lib.hid hm
    have HOK := Lib.hid hok
    clear hL hmk WN hm hok hwin
    generalize (w.alloc (.cells #[.int .u16 0, .int .u32 0, .int .u64 0] 31)).alloc (.map #[] 0) = w0 at *
    obtain ⟨g, hg⟩ : ∃ g, g = w.heap.size := ⟨_, rfl⟩
    rw [← hg] at R0 M0 ⊢
    have hgl : w.heap.size ≤ g := by omega
    clear hg
    go_wp2_with fail
    go_loopw [25] (fun i wr => ∃ (k : Nat) (r : Rw) (acc : List Id), k ≤ L ∧ i = .int .i64 k ∧ Hid (OnceS m r acc) ∧ Ob wr g #[.int .u16 r.i, .int .u32 r.p, .int .u64 r.b] 31 ∧ OwnsM wr (g + 1) k acc ∧ Below w.heap.size w wr) (fun i _ => L - (intOf i).toNat)
    case atStart => exact ⟨0, ⟨0, 0, 0⟩, [], Nat.zero_le _, rfl, S0, R0, M0, b0⟩
    case round =>
      clear R0 M0 b0 S0
      obtain ⟨k, r, acc, hk, rfl, S, R, M, bl⟩ := hrel
      by_cases hkl : k < L
      · obtain ⟨x, hx⟩ : ∃ x, l[k]? = some x := ⟨_, List.getElem?_eq_getElem (by omega)⟩
        have hxo := HOK.out x (List.mem_of_getElem? hx)
        obtain ⟨bb, oo, hA, hbb, hcc⟩ := (hr.below bl).at_ hx
        have HA := Lib.hid hA
        rw [hA]
        clear hA
        have q0 : wr.cell? ⟨bb, oo + k * 3, none⟩ = some (.int .u8 x.n) := hcc 0 _ rfl
        have q1 : wr.cell? ⟨bb, oo + k * 3 + 1, none⟩ = some (.int .u16 x.i) := hcc 1 _ rfl
        have q2 : wr.cell? ⟨bb, oo + k * 3 + 2, none⟩ = some (.int .u32 x.s) := hcc 2 _ rfl
        clear hcc hx
        have hx0 : (⟨0, x.i, x.s⟩ : Id).ok := ⟨by simp, hxo.2.1, hxo.2.2⟩
        have ki : (k : Int) < (L : Int) := by omega
        have HX0 := Lib.hid hx0
        have HXL := Lib.hid hxo
        clear hxo hx0
        have X := Ob.new wr #[.int .u8 0, .int .u16 x.i, .int .u32 x.s] 35
        have al := Below.alloc (Below.refl wr.heap.size wr) (Nat.le_refl _) (.cells #[.int .u8 0, .int .u16 x.i, .int .u32 x.s] 35)
        have b1 := Gw.call bl al
        have M1 : OwnsM _ (g + 1) k acc := M.alloc (.cells #[.int .u8 0, .int .u16 x.i, .int .u32 x.s] 35)
        have R1 := R.call al
        have Mlt : Hid (g + 1 < wr.heap.size) := Lib.hid M.lt
        go_upto_region 8 with fail
        clear q0 q1 q2 al M R bl ki
        have hgx : g < wr.heap.size := by have := M1.lt; rw [World.size_alloc] at this; omega
        have hgm : g + 1 < wr.heap.size := Mlt.out
        generalize wr.alloc (.cells #[.int .u8 0, .int .u16 x.i, .int .u32 x.s] 35) = w1 at *
        generalize wr.heap.size = gx at *
        have r0 := R1.blk.2.1 0 _ rfl
        have r1 := R1.blk.2.1 1 _ rfl
        have r2 := R1.blk.2.1 2 _ rfl
        have x0 := X.blk.2.1 0 _ rfl
        have x1 := X.blk.2.1 1 _ rfl
        have x2 := X.blk.2.1 2 _ rfl
        have CM := Lib.hid (fun W => may_any r ⟨0, x.i, x.s⟩ m S.out.ok HX0.out W)
        have CN := Lib.hid (fun W h => take_no r ⟨0, x.i, x.s⟩ m S.out.ok HX0.out h W)
        have CY := Lib.hid (fun W h => take_yes r ⟨0, x.i, x.s⟩ m S.out.ok HX0.out h (fits_right S.out.ok S.out.right _) W)
        go_wp2_with fail
        refine (CM.out _).mono ?_
        rintro e w2 ⟨rfl, hb⟩
        rcases hmay : mayB r ⟨0, x.i, x.s⟩ m with _ | _
        · skip
          have HMAY := Lib.hid hmay
          clear hmay
          clear r0 r1 r2 x0 x1 x2
          replace R1 := R1.call hb
          replace X := X.call hb
          replace M1 := M1.call hb
          replace b1 := Gw.call b1 hb
          clear hb
          have r0 := R1.blk.2.1 0 _ rfl
          have r1 := R1.blk.2.1 1 _ rfl
          have r2 := R1.blk.2.1 2 _ rfl
          have x0 := X.blk.2.1 0 _ rfl
          have x1 := X.blk.2.1 1 _ rfl
          have x2 := X.blk.2.1 2 _ rfl
          clear CY CM
          go_wp2_with fail
          refine (CN.out _ HMAY.out).mono ?_
          rintro e w3 ⟨rfl, hb⟩
          clear r0 r1 r2 x0 x1 x2
          replace R1 := R1.call hb
          replace X := X.call hb
          replace M1 := M1.call hb
          replace b1 := Gw.call b1 hb
          clear hb
          have T := Ob.new w3 #[.int .u16 r.i, .int .u32 r.p, .int .u64 r.b] 31
          have al := Below.alloc (Below.refl w3.heap.size w3) (Nat.le_refl _) (.cells #[.int .u16 r.i, .int .u32 r.p, .int .u64 r.b] 31)
          replace R1 := R1.call al
          replace X := X.call al
          replace M1 := M1.call al
          replace b1 := Gw.call b1 al
          clear al
          obtain ⟨gt, hgt⟩ : ∃ g, g = w3.heap.size := ⟨_, rfl⟩
          have r0 := R1.blk.2.1 0 _ rfl
          have r1 := R1.blk.2.1 1 _ rfl
          have r2 := R1.blk.2.1 2 _ rfl
          have x0 := X.blk.2.1 0 _ rfl
          have x1 := X.blk.2.1 1 _ rfl
          have x2 := X.blk.2.1 2 _ rfl
          have CR := Lib.hid (fun W => rright_any r m S.out.ok W)
          go_wp2_with fail
          refine (CR.out _).mono ?_
          rintro e w4 ⟨rfl, hb⟩
          rw [S.out.right]
          clear r0 r1 r2 x0 x1 x2
          replace R1 := R1.call hb
          replace X := X.call hb
          replace T := T.call hb
          replace M1 := M1.call hb
          replace b1 := Gw.call b1 hb
          clear hb
          rw [← hgt] at T ⊢
          clear hgt CR
          have r0 := R1.blk.2.1 0 _ rfl
          have r1 := R1.blk.2.1 1 _ rfl
          have r2 := R1.blk.2.1 2 _ rfl
          have x0 := X.blk.2.1 0 _ rfl
          have x1 := X.blk.2.1 1 _ rfl
          have x2 := X.blk.2.1 2 _ rfl
          have t0 := T.blk.2.1 0 _ rfl
          have t1 := T.blk.2.1 1 _ rfl
          have t2 := T.blk.2.1 2 _ rfl
          have rf := R1.blk.2.2
          have R2 : Ob (((w4.setCell ⟨g, 0, none⟩ (.int .u16 r.i)).setCell ⟨g, 1, none⟩ (.int .u32 r.p)).setCell ⟨g, 2, none⟩ (.int .u64 r.b)) g #[.int .u16 r.i, .int .u32 r.p, .int .u64 r.b] 31 := ((R1.set 0 (.int .u16 r.i)).set 1 (.int .u32 r.p)).set 2 (.int .u64 r.b)
          have ne1 : g + 1 ≠ g := by omega
          have ne2 : gx ≠ g := by omega
          have M2 : OwnsM (((w4.setCell ⟨g, 0, none⟩ (.int .u16 r.i)).setCell ⟨g, 1, none⟩ (.int .u32 r.p)).setCell ⟨g, 2, none⟩ (.int .u64 r.b)) (g + 1) k acc := ((M1.far ne1 _).far ne1 _).far ne1 _
          have X2 : Ob (((w4.setCell ⟨g, 0, none⟩ (.int .u16 r.i)).setCell ⟨g, 1, none⟩ (.int .u32 r.p)).setCell ⟨g, 2, none⟩ (.int .u64 r.b)) gx #[.int .u8 0, .int .u16 x.i, .int .u32 x.s] 35 := ((X.far ne2 _).far ne2 _).far ne2 _
          have b2 : Below w.heap.size w (((w4.setCell ⟨g, 0, none⟩ (.int .u16 r.i)).setCell ⟨g, 1, none⟩ (.int .u32 r.p)).setCell ⟨g, 2, none⟩ (.int .u64 r.b)) := Gw.st (Gw.st (Gw.st b1 (p := ⟨g, 0, none⟩) hgl _) (p := ⟨g, 1, none⟩) hgl _) (p := ⟨g, 2, none⟩) hgl _
          go_wp2_with fail
          clear rf R1 M1 X b1 T
          generalize (((w4.setCell ⟨g, 0, none⟩ (.int .u16 r.i)).setCell ⟨g, 1, none⟩ (.int .u32 r.p)).setCell ⟨g, 2, none⟩ (.int .u64 r.b)) = w5 at *
          clear x0 x1 x2 t0 t1 t2
          clear r0 r1 r2
          go_loopw [13] (fun v wr => ∃ j : Nat, v = .int .u32 j ∧ (j : Int) ≤ r.p ∧ wr = w5) (fun v _ => r.p.toNat - (intOf v).toNat)
          case atStart => exact ⟨0, rfl, S.out.ok.2.1.1, rfl⟩
          case round =>
            obtain ⟨j, rfl, hj, hw⟩ := hrel
            subst hw
            have yok : (⟨0, r.i, ((j : Int) + 1) % 4294967296⟩ : Id).ok := ⟨by simp, S.out.ok.1, by show 0 ≤ ((j : Int) + 1) % 4294967296 ∧ ((j : Int) + 1) % 4294967296 ≤ 4294967295; omega⟩
            have LK := met_look M2 S.out.id_ok yok
            have CT := S.out.count (n := (j : Int)) (by omega) hj
            clear yok
            have r0 := R2.blk.2.1 0 _ rfl
            have r1 := R2.blk.2.1 1 _ rfl
            by_cases hlt : (j : Int) < r.p
            · rw [decide_eq_true hlt, decide_eq_true_iff] at CT
              rw [if_pos CT] at LK
              have HLK2 := Lib.hid LK
              clear LK CT hj
              go_wp2_with (first | (with_reducible refine wpList_met rfl _ _ (g + 1) (⟨0, r.i, ((j : Int) + 1) % 4294967296⟩ : Id) 1 rfl rfl rfl HLK2.out ?_) | fail)
              have hp := S.out.ok.2.1.2
              go_roundw
              case rel => exact ⟨j + 1, congrArg (Value.int .u32) (by omega), by omega, trivial⟩
              case measure => simp [intOf]; omega
            · rw [decide_eq_false hlt, decide_eq_false_iff_not] at CT
              rw [if_neg CT] at LK
              have HLK2 := Lib.hid LK
              have d5 : (r.p != (j : Int)) = false := by simp; omega
              clear LK CT hj hlt
              go_wp2_with (first | (with_reducible refine wpList_met rfl _ _ (g + 1) (⟨0, r.i, ((j : Int) + 1) % 4294967296⟩ : Id) 0 rfl rfl rfl HLK2.out ?_) | fail)
              all_goals
                go_roundw
                case rel => exact ⟨k + 1, r, acc, hkl, by go_num, S, R2, M2.mono (Nat.le_succ k), b2⟩
                case measure => simp [intOf]; omega
        · skip
          have HMAY := Lib.hid hmay
          clear hmay
          clear r0 r1 r2 x0 x1 x2
          replace R1 := R1.call hb
          replace X := X.call hb
          replace M1 := M1.call hb
          replace b1 := Gw.call b1 hb
          clear hb
          have r0 := R1.blk.2.1 0 _ rfl
          have r1 := R1.blk.2.1 1 _ rfl
          have r2 := R1.blk.2.1 2 _ rfl
          have x0 := X.blk.2.1 0 _ rfl
          have x1 := X.blk.2.1 1 _ rfl
          have x2 := X.blk.2.1 2 _ rfl
          obtain ⟨t, ht⟩ : ∃ t, t = takeR r ⟨0, x.i, x.s⟩ := ⟨_, rfl⟩
          obtain ⟨gt1, gt2, gt3, gt4⟩ := S.out.got HX0.out HMAY.out
          have NEW := Lib.hid (S.out.new (x := ⟨0, x.i, x.s⟩) rfl HMAY.out)
          have S2 := Lib.hid (S.out.take (x := ⟨0, x.i, x.s⟩) HX0.out rfl HMAY.out)
          have CY' := Lib.hid (fun W => CY.out W HMAY.out)
          rw [← ht] at gt1 gt2 gt3 S2 CY'
          have GT1 := Lib.hid gt1
          have GT2 := Lib.hid gt2
          have GT3 := Lib.hid gt3
          have gt4' : r.i ≤ x.i := gt4
          have gt3' : t.i = x.i := gt3
          have d1 : decide (t.i < r.i) = false := by simp; omega
          have d2 : decide (x.i < r.i) = false := by simp; omega
          have d3 : (t.i != x.i) = false := by simp [gt3']
          have d4 : (t.i == x.i) = true := by simp [gt3']
          clear ht gt1 gt2 gt3 gt4 gt4' gt3' CY CN CM
          go_wp2_with fail
          refine (CY'.out _).mono ?_
          rintro e w3 ⟨rfl, hb⟩
          clear r0 r1 r2 x0 x1 x2
          replace R1 := R1.call hb
          replace X := X.call hb
          replace M1 := M1.call hb
          replace b1 := Gw.call b1 hb
          clear hb
          have T := Ob.new w3 #[.int .u16 t.i, .int .u32 t.p, .int .u64 t.b] 31
          have al := Below.alloc (Below.refl w3.heap.size w3) (Nat.le_refl _) (.cells #[.int .u16 t.i, .int .u32 t.p, .int .u64 t.b] 31)
          replace R1 := R1.call al
          replace X := X.call al
          replace M1 := M1.call al
          replace b1 := Gw.call b1 al
          clear al
          obtain ⟨gt, hgt⟩ : ∃ g, g = w3.heap.size := ⟨_, rfl⟩
          have r0 := R1.blk.2.1 0 _ rfl
          have r1 := R1.blk.2.1 1 _ rfl
          have r2 := R1.blk.2.1 2 _ rfl
          have x0 := X.blk.2.1 0 _ rfl
          have x1 := X.blk.2.1 1 _ rfl
          have x2 := X.blk.2.1 2 _ rfl
          have CR := Lib.hid (fun W => rright_any t m S2.out.ok W)
          go_wp2_with fail
          refine (CR.out _).mono ?_
          rintro e w4 ⟨rfl, hb⟩
          rw [S2.out.right]
          clear r0 r1 r2 x0 x1 x2
          replace R1 := R1.call hb
          replace X := X.call hb
          replace T := T.call hb
          replace M1 := M1.call hb
          replace b1 := Gw.call b1 hb
          clear hb
          rw [← hgt] at T ⊢
          clear hgt CR
          have r0 := R1.blk.2.1 0 _ rfl
          have r1 := R1.blk.2.1 1 _ rfl
          have r2 := R1.blk.2.1 2 _ rfl
          have x0 := X.blk.2.1 0 _ rfl
          have x1 := X.blk.2.1 1 _ rfl
          have x2 := X.blk.2.1 2 _ rfl
          have t0 := T.blk.2.1 0 _ rfl
          have t1 := T.blk.2.1 1 _ rfl
          have t2 := T.blk.2.1 2 _ rfl
          have rf := R1.blk.2.2
          have R2 : Ob (((w4.setCell ⟨g, 0, none⟩ (.int .u16 t.i)).setCell ⟨g, 1, none⟩ (.int .u32 t.p)).setCell ⟨g, 2, none⟩ (.int .u64 t.b)) g #[.int .u16 t.i, .int .u32 t.p, .int .u64 t.b] 31 := ((R1.set 0 (.int .u16 t.i)).set 1 (.int .u32 t.p)).set 2 (.int .u64 t.b)
          have ne1 : g + 1 ≠ g := by omega
          have ne2 : gx ≠ g := by omega
          have M2 : OwnsM (((w4.setCell ⟨g, 0, none⟩ (.int .u16 t.i)).setCell ⟨g, 1, none⟩ (.int .u32 t.p)).setCell ⟨g, 2, none⟩ (.int .u64 t.b)) (g + 1) k acc := ((M1.far ne1 _).far ne1 _).far ne1 _
          have X2 : Ob (((w4.setCell ⟨g, 0, none⟩ (.int .u16 t.i)).setCell ⟨g, 1, none⟩ (.int .u32 t.p)).setCell ⟨g, 2, none⟩ (.int .u64 t.b)) gx #[.int .u8 0, .int .u16 x.i, .int .u32 x.s] 35 := ((X.far ne2 _).far ne2 _).far ne2 _
          have b2 : Below w.heap.size w (((w4.setCell ⟨g, 0, none⟩ (.int .u16 t.i)).setCell ⟨g, 1, none⟩ (.int .u32 t.p)).setCell ⟨g, 2, none⟩ (.int .u64 t.b)) := Gw.st (Gw.st (Gw.st b1 (p := ⟨g, 0, none⟩) hgl _) (p := ⟨g, 1, none⟩) hgl _) (p := ⟨g, 2, none⟩) hgl _
          go_upto_region 14 with fail
          clear r0 r1 r2 x0 x1 x2 t0 t1 t2
          clear R1 M1 X b1 T rf
          generalize (((w4.setCell ⟨g, 0, none⟩ (.int .u16 t.i)).setCell ⟨g, 1, none⟩ (.int .u32 t.p)).setCell ⟨g, 2, none⟩ (.int .u64 t.b)) = w5 at *
          have nx : gx ≠ g + 1 := by omega
          have ng : g ≠ g + 1 := by omega
          have HB : Hid (∀ W, w5.drew.grownBy W (some (g + 1)) → (fun W : World => W.cell? ⟨gx, 0, none⟩ = some (.int .u8 0) ∧ W.cell? ⟨gx, 1, none⟩ = some (.int .u16 x.i) ∧ W.cell? ⟨gx, 2, none⟩ = some (.int .u32 x.s)) W) := Lib.hid fun W hb => ⟨(Ob.grow (Ob.drew X2) hb nx).blk.2.1 0 _ rfl, (Ob.grow (Ob.drew X2) hb nx).blk.2.1 1 _ rfl, (Ob.grow (Ob.drew X2) hb nx).blk.2.1 2 _ rfl⟩
          have hg5 := World.grownBy.refl w5.drew (some (g + 1))
          have LK := Lib.hid (met_look (w := w5.drew) M2 S.out.id_ok HX0.out)
          rw [if_neg NEW.out] at LK
          obtain ⟨v0, st, wE, hE, HH⟩ := met_half (w := w5.drew) M2 S.out.id_ok HX0.out NEW.out (by unfold maxLen; omega)
          obtain ⟨wS, hs1, hs2, hs3⟩ := HH.store
          have HE := Lib.hid hE
          have HS1 := Lib.hid hs1
          have HLK := Lib.hid HH.look
          clear hE hs1
          refine wp_region_held_drew (S := fun W : World => W.cell? ⟨gx, 0, none⟩ = some (.int .u8 0) ∧ W.cell? ⟨gx, 1, none⟩ = some (.int .u16 x.i) ∧ W.cell? ⟨gx, 2, none⟩ = some (.int .u32 x.s)) (by kernel_rfl) (HB.out _ hg5) (fun hHeld => ?_)
          refine take_d (i := 0) (oi := _) (v := ?_) (d := some 85) rfl (by kernel_rfl) (by as_aux_lemma => kernel_rfl) (by as_aux_lemma => kernel_rfl) (by as_aux_lemma => kernel_rfl) (fun _ _ _ h => h) (Or.inl ⟨by kernel_rfl, ?_⟩) hHeld ?_
          rotate_left
          · intro w hSw; (try dsimp only at hSw); go_simp; (try with_reducible rfl)
          try simp only [Act.put, List.setIfInBounds_toArray, List.set_cons_zero, List.set_cons_succ]
          refine take_d (i := 1) (oi := _) (v := ?_) (d := some 86) rfl (by kernel_rfl) (by as_aux_lemma => kernel_rfl) (by as_aux_lemma => kernel_rfl) (by as_aux_lemma => kernel_rfl) (fun _ _ _ h => h) (Or.inl ⟨by kernel_rfl, ?_⟩) hHeld ?_
          rotate_left
          · intro w hSw; (try dsimp only at hSw); go_simp; (try with_reducible rfl)
          try simp only [Act.put, List.setIfInBounds_toArray, List.set_cons_zero, List.set_cons_succ]
          refine wpAnyH_ready (rs := [2, 4]) (by kernel_rfl) (by simp) ?_
          refine AllReadyH.cons rfl (fun K hK => ?_) (AllReadyH.cons rfl (fun K hK => ?_) AllReadyH.nil)
          · skip
            refine step_look rfl _ _ (g + 1) (⟨0, x.i, x.s⟩ : Id) 0 rfl rfl rfl LK.out ?_
            refine hK.out _ _ (HB.out _ hg5) (fun hHeld => ?_)
            clear hK K
            try simp only [Act.put, List.setIfInBounds_toArray, List.set_cons_zero, List.set_cons_succ]
            refine take_d (i := 3) (oi := _) (v := .int .i64 1) (d := some 88) rfl (by kernel_rfl) (by as_aux_lemma => kernel_rfl) (by as_aux_lemma => kernel_rfl) (by as_aux_lemma => kernel_rfl) (fun _ _ _ h => h) (Or.inl ⟨by kernel_rfl, ?_⟩) hHeld ?_
            · intro W hSw
              go_simp; first | done | rfl | simp
            try simp only [Act.put, List.setIfInBounds_toArray, List.set_cons_zero, List.set_cons_succ]
            refine wpAnyH_ready (rs := [4]) (by kernel_rfl) (by simp) ?_
            refine AllReadyH.cons rfl (fun K hK => ?_) AllReadyH.nil
            refine step_entry rfl _ _ (g + 1) (⟨0, x.i, x.s⟩ : Id) _ _ rfl rfl rfl HE.out ?_
            refine hK.out _ _ (HB.out _ HH.grown) (fun hHeld => ?_)
            clear hK K
            try simp only [Act.put, List.setIfInBounds_toArray, List.set_cons_zero, List.set_cons_succ]
            refine take_d (i := 5) (oi := _) (v := ?_) (d := some 90) rfl (by kernel_rfl) (by as_aux_lemma => kernel_rfl) (by as_aux_lemma => kernel_rfl) (by as_aux_lemma => kernel_rfl) (fun _ _ _ h => h) (Or.inl ⟨by kernel_rfl, ?_⟩) hHeld ?_
            rotate_left
            · intro w hSw; (try dsimp only at hSw); go_simp; (try with_reducible rfl)
            try simp only [Act.put, List.setIfInBounds_toArray, List.set_cons_zero, List.set_cons_succ]
            refine wpAnyH_ready (rs := [6]) (by kernel_rfl) (by simp) ?_
            refine AllReadyH.cons rfl (fun K hK => ?_) AllReadyH.nil
            refine step_estore rfl _ _ _ (g + 1) _ _ _ rfl rfl rfl rfl HS1.out ?_
            refine hK.out _ _ (HB.out _ hs2) (fun hHeld => ?_)
            clear hK K
            try simp only [Act.put, List.setIfInBounds_toArray, List.set_cons_zero, List.set_cons_succ]
            refine wpAnyH_done (by kernel_rfl) ?_ _
            clear HB hHeld hg5 LK HE HS1 HLK
            have R3 := Ob.grow (Ob.drew R2) hs2 ng
            have X3 := Ob.grow (Ob.drew X2) hs2 nx
            have b3 := Gw.gr (Gw.drew b2) hs2 (by intro j hj; injection hj with hj; omega)
            clear R2 X2 b2 M2 HH hs2
            have LK1 := Lib.hid (met_look hs3 S2.out.id_ok HX0.out)
            rw [if_pos (by simp)] at LK1
            have r0 := R3.blk.2.1 0 _ rfl
            have r1 := R3.blk.2.1 1 _ rfl
            have r2 := R3.blk.2.1 2 _ rfl
            have x0 := X3.blk.2.1 0 _ rfl
            have x1 := X3.blk.2.1 1 _ rfl
            have x2 := X3.blk.2.1 2 _ rfl
            have CH := Lib.hid (fun W => rhas_any t (⟨0, x.i, x.s⟩ : Id) S2.out.ok HX0.out W)
            have CM := Lib.hid (fun W => may_any t (⟨0, x.i, x.s⟩ : Id) m S2.out.ok HX0.out W)
            go_wp2_with (first | (with_reducible refine wpList_met rfl _ _ (g + 1) (⟨0, x.i, x.s⟩ : Id) 1 rfl rfl rfl LK1.out ?_) | fail)
            refine (CH.out _).mono ?_
            rintro e w6 ⟨rfl, hb⟩
            rw [GT1.out]
            clear r0 r1 r2 x0 x1 x2
            replace R3 := R3.call hb
            replace X3 := X3.call hb
            replace hs3 := hs3.call hb
            replace b3 := Gw.call b3 hb
            clear hb
            have r0 := R3.blk.2.1 0 _ rfl
            have r1 := R3.blk.2.1 1 _ rfl
            have r2 := R3.blk.2.1 2 _ rfl
            have x0 := X3.blk.2.1 0 _ rfl
            have x1 := X3.blk.2.1 1 _ rfl
            have x2 := X3.blk.2.1 2 _ rfl
            go_wp2_with fail
            refine (CM.out _).mono ?_
            rintro e w7 ⟨rfl, hb⟩
            rw [GT2.out]
            clear CH CM LK1
            clear r0 r1 r2 x0 x1 x2
            replace R3 := R3.call hb
            replace X3 := X3.call hb
            replace hs3 := hs3.call hb
            replace b3 := Gw.call b3 hb
            clear hb
            have r0 := R3.blk.2.1 0 _ rfl
            have r1 := R3.blk.2.1 1 _ rfl
            have r2 := R3.blk.2.1 2 _ rfl
            go_wp2_with fail
            clear r0 r1 r2
            go_loopw [13] (fun v wr => ∃ j : Nat, v = .int .u32 j ∧ (j : Int) ≤ t.p ∧ wr = w7) (fun v _ => t.p.toNat - (intOf v).toNat)
            case atStart => exact ⟨0, rfl, S2.out.ok.2.1.1, rfl⟩
            case round =>
              obtain ⟨j, rfl, hj, hw⟩ := hrel
              subst hw
              have yok : (⟨0, t.i, ((j : Int) + 1) % 4294967296⟩ : Id).ok := ⟨by simp, S2.out.ok.1, by show 0 ≤ ((j : Int) + 1) % 4294967296 ∧ ((j : Int) + 1) % 4294967296 ≤ 4294967295; omega⟩
              have LK := met_look hs3 S2.out.id_ok yok
              have CT := S2.out.count (n := (j : Int)) (by omega) hj
              clear yok
              have r0 := R3.blk.2.1 0 _ rfl
              have r1 := R3.blk.2.1 1 _ rfl
              by_cases hlt : (j : Int) < t.p
              · rw [decide_eq_true hlt, decide_eq_true_iff] at CT
                rw [if_pos CT] at LK
                have HLK2 := Lib.hid LK
                clear LK CT hj
                go_wp2_with (first | (with_reducible refine wpList_met rfl _ _ (g + 1) (⟨0, t.i, ((j : Int) + 1) % 4294967296⟩ : Id) 1 rfl rfl rfl HLK2.out ?_) | fail)
                have hp := S2.out.ok.2.1.2
                go_roundw
                case rel => exact ⟨j + 1, congrArg (Value.int .u32) (by omega), by omega, trivial⟩
                case measure => simp [intOf]; omega
              · rw [decide_eq_false hlt, decide_eq_false_iff_not] at CT
                rw [if_neg CT] at LK
                have HLK2 := Lib.hid LK
                have d5 : (t.p != (j : Int)) = false := by simp; omega
                clear LK CT hj hlt
                go_wp2_with (first | (with_reducible refine wpList_met rfl _ _ (g + 1) (⟨0, t.i, ((j : Int) + 1) % 4294967296⟩ : Id) 0 rfl rfl rfl HLK2.out ?_) | fail)
                all_goals
                  go_roundw
                  case rel => exact ⟨k + 1, t, (acc ++ [(⟨0, x.i, x.s⟩ : Id)]), hkl, by go_num, S2, R3, hs3, b3⟩
                  case measure => simp [intOf]; omega
          · skip
            refine step_entry rfl _ _ (g + 1) (⟨0, x.i, x.s⟩ : Id) _ _ rfl rfl rfl HE.out ?_
            refine hK.out _ _ (HB.out _ HH.grown) (fun hHeld => ?_)
            clear hK K
            try simp only [Act.put, List.setIfInBounds_toArray, List.set_cons_zero, List.set_cons_succ]
            refine take_d (i := 5) (oi := _) (v := ?_) (d := some 90) rfl (by kernel_rfl) (by as_aux_lemma => kernel_rfl) (by as_aux_lemma => kernel_rfl) (by as_aux_lemma => kernel_rfl) (fun _ _ _ h => h) (Or.inl ⟨by kernel_rfl, ?_⟩) hHeld ?_
            rotate_left
            · intro w hSw; (try dsimp only at hSw); go_simp; (try with_reducible rfl)
            try simp only [Act.put, List.setIfInBounds_toArray, List.set_cons_zero, List.set_cons_succ]
            refine wpAnyH_ready (rs := [2]) (by kernel_rfl) (by simp) ?_
            refine AllReadyH.cons rfl (fun K hK => ?_) AllReadyH.nil
            refine step_look rfl _ _ (g + 1) (⟨0, x.i, x.s⟩ : Id) 0 rfl rfl rfl HLK.out ?_
            refine hK.out _ _ (HB.out _ HH.grown) (fun hHeld => ?_)
            clear hK K
            try simp only [Act.put, List.setIfInBounds_toArray, List.set_cons_zero, List.set_cons_succ]
            refine take_d (i := 3) (oi := _) (v := .int .i64 1) (d := some 88) rfl (by kernel_rfl) (by as_aux_lemma => kernel_rfl) (by as_aux_lemma => kernel_rfl) (by as_aux_lemma => kernel_rfl) (fun _ _ _ h => h) (Or.inl ⟨by kernel_rfl, ?_⟩) hHeld ?_
            · intro W hSw
              go_simp; first | done | rfl | simp
            try simp only [Act.put, List.setIfInBounds_toArray, List.set_cons_zero, List.set_cons_succ]
            refine wpAnyH_ready (rs := [6]) (by kernel_rfl) (by simp) ?_
            refine AllReadyH.cons rfl (fun K hK => ?_) AllReadyH.nil
            refine step_estore rfl _ _ _ (g + 1) _ _ _ rfl rfl rfl rfl HS1.out ?_
            refine hK.out _ _ (HB.out _ hs2) (fun hHeld => ?_)
            clear hK K
            try simp only [Act.put, List.setIfInBounds_toArray, List.set_cons_zero, List.set_cons_succ]
            refine wpAnyH_done (by kernel_rfl) ?_ _
            clear HB hHeld hg5 LK HE HS1 HLK
            have R3 := Ob.grow (Ob.drew R2) hs2 ng
            have X3 := Ob.grow (Ob.drew X2) hs2 nx
            have b3 := Gw.gr (Gw.drew b2) hs2 (by intro j hj; injection hj with hj; omega)
            clear R2 X2 b2 M2 HH hs2
            have LK1 := Lib.hid (met_look hs3 S2.out.id_ok HX0.out)
            rw [if_pos (by simp)] at LK1
            have r0 := R3.blk.2.1 0 _ rfl
            have r1 := R3.blk.2.1 1 _ rfl
            have r2 := R3.blk.2.1 2 _ rfl
            have x0 := X3.blk.2.1 0 _ rfl
            have x1 := X3.blk.2.1 1 _ rfl
            have x2 := X3.blk.2.1 2 _ rfl
            have CH := Lib.hid (fun W => rhas_any t (⟨0, x.i, x.s⟩ : Id) S2.out.ok HX0.out W)
            have CM := Lib.hid (fun W => may_any t (⟨0, x.i, x.s⟩ : Id) m S2.out.ok HX0.out W)
            go_wp2_with (first | (with_reducible refine wpList_met rfl _ _ (g + 1) (⟨0, x.i, x.s⟩ : Id) 1 rfl rfl rfl LK1.out ?_) | fail)
            refine (CH.out _).mono ?_
            rintro e w6 ⟨rfl, hb⟩
            rw [GT1.out]
            clear r0 r1 r2 x0 x1 x2
            replace R3 := R3.call hb
            replace X3 := X3.call hb
            replace hs3 := hs3.call hb
            replace b3 := Gw.call b3 hb
            clear hb
            have r0 := R3.blk.2.1 0 _ rfl
            have r1 := R3.blk.2.1 1 _ rfl
            have r2 := R3.blk.2.1 2 _ rfl
            have x0 := X3.blk.2.1 0 _ rfl
            have x1 := X3.blk.2.1 1 _ rfl
            have x2 := X3.blk.2.1 2 _ rfl
            go_wp2_with fail
            refine (CM.out _).mono ?_
            rintro e w7 ⟨rfl, hb⟩
            rw [GT2.out]
            clear CH CM LK1
            clear r0 r1 r2 x0 x1 x2
            replace R3 := R3.call hb
            replace X3 := X3.call hb
            replace hs3 := hs3.call hb
            replace b3 := Gw.call b3 hb
            clear hb
            have r0 := R3.blk.2.1 0 _ rfl
            have r1 := R3.blk.2.1 1 _ rfl
            have r2 := R3.blk.2.1 2 _ rfl
            go_wp2_with fail
            clear r0 r1 r2
            go_loopw [13] (fun v wr => ∃ j : Nat, v = .int .u32 j ∧ (j : Int) ≤ t.p ∧ wr = w7) (fun v _ => t.p.toNat - (intOf v).toNat)
            case atStart => exact ⟨0, rfl, S2.out.ok.2.1.1, rfl⟩
            case round =>
              obtain ⟨j, rfl, hj, hw⟩ := hrel
              subst hw
              have yok : (⟨0, t.i, ((j : Int) + 1) % 4294967296⟩ : Id).ok := ⟨by simp, S2.out.ok.1, by show 0 ≤ ((j : Int) + 1) % 4294967296 ∧ ((j : Int) + 1) % 4294967296 ≤ 4294967295; omega⟩
              have LK := met_look hs3 S2.out.id_ok yok
              have CT := S2.out.count (n := (j : Int)) (by omega) hj
              clear yok
              have r0 := R3.blk.2.1 0 _ rfl
              have r1 := R3.blk.2.1 1 _ rfl
              by_cases hlt : (j : Int) < t.p
              · rw [decide_eq_true hlt, decide_eq_true_iff] at CT
                rw [if_pos CT] at LK
                have HLK2 := Lib.hid LK
                clear LK CT hj
                go_wp2_with (first | (with_reducible refine wpList_met rfl _ _ (g + 1) (⟨0, t.i, ((j : Int) + 1) % 4294967296⟩ : Id) 1 rfl rfl rfl HLK2.out ?_) | fail)
                have hp := S2.out.ok.2.1.2
                go_roundw
                case rel => exact ⟨j + 1, congrArg (Value.int .u32) (by omega), by omega, trivial⟩
                case measure => simp [intOf]; omega
              · rw [decide_eq_false hlt, decide_eq_false_iff_not] at CT
                rw [if_neg CT] at LK
                have HLK2 := Lib.hid LK
                have d5 : (t.p != (j : Int)) = false := by simp; omega
                clear LK CT hj hlt
                go_wp2_with (first | (with_reducible refine wpList_met rfl _ _ (g + 1) (⟨0, t.i, ((j : Int) + 1) % 4294967296⟩ : Id) 0 rfl rfl rfl HLK2.out ?_) | fail)
                all_goals
                  go_roundw
                  case rel => exact ⟨k + 1, t, (acc ++ [(⟨0, x.i, x.s⟩ : Id)]), hkl, by go_num, S2, R3, hs3, b3⟩
                  case measure => simp [intOf]; omega
      · obtain rfl : k = L := by omega
        have HACC := Lib.hid S.out.id_ok
        clear hkl hk
        obtain ⟨gr, hgr⟩ : ∃ g, g = wr.heap.size := ⟨_, rfl⟩
        have ngr : g ≠ gr := by have := R.lt; omega
        have hwl : w.heap.size ≤ gr := by rw [hgr]; exact bl.size
        go_wp2_with (first | (at_range; refine wpList_range_own _ rfl _ 45 rfl 35 3 idLaw Try.underlying45 _ (g + 1) k (met acc) rfl M ?_; intro w1 hrg0 hg0 hs0) | fail)
        go_frame
        rw [← hgr] at hrg0 ⊢
        have R0 := R.call (Gw.none_ hg0)
        have b0 := Gw.call bl (Gw.none_ hg0)
        clear hgr M R bl hg0 hs0
        go_loopw [14] (fun _ wq => ∃ (left : Lit → Bool) (cnt : Nat), wq.ranges Try.prog 35 (plainElem Try.prog 3) (g + 1) gr k (met acc) left cnt ∧ Ob wq g #[.int .u16 r.i, .int .u32 r.p, .int .u64 r.b] 31 ∧ Below w.heap.size w wq) (fun _ wq => wq.rangeLeft (g + 1) gr)
        case atStart => exact ⟨_, _, hrg0, R0, b0⟩
        case round =>
          clear hrg0 R0 b0
          obtain ⟨left, cnt, hrg, R, b⟩ := hrel
          go_wp2_with (first | (at_next; refine wpList_next_met rfl _ rfl (g + 1) gr k acc HACC.out left cnt rfl hrg ?_ ?_) | fail)
          · go_wp2_with fail
            refine (awake_any _).mono ?_
            rintro e w9 ⟨rfl, hb⟩
            go_wp2_with fail
            go_ret
            exact ⟨rfl, Gw.call b hb⟩
          · intro y c w2 cnt2 left2 hy hrg2 hlt hg2 hen
            have hyo := HACC.out y hy
            obtain ⟨l1, l2⟩ := S.out.last hy
            have CH : Hid (∀ W, Calls Try.prog 17 #[rwv r, idv y] W fun e w' => e = .returned (.bool (decide (y.i = r.i))) ∧ Below W.heap.size W w') := Lib.hid (fun W => l1 ▸ rhas_any r y S.out.ok hyo W)
            have CM : Hid (∀ W, Calls Try.prog 19 #[rwv r, idv y, .int .i64 m] W fun e w' => e = .returned (.bool false) ∧ Below W.heap.size W w') := Lib.hid (fun W => l2 ▸ may_any r y m S.out.ok hyo W)
            have HLT := Lib.hid (show w2.rangeLeft (g + 1) gr < wr.rangeLeft (g + 1) gr by rw [hrg2.left_eq, hrg.left_eq]; exact hlt)
            have al := Below.alloc (Below.refl w2.heap.size w2) (Nat.le_refl _) (.cells #[.int .u8 y.n, .int .u16 y.i, .int .u32 y.s] 35)
            have X := Ob.new w2 #[.int .u8 y.n, .int .u16 y.i, .int .u32 y.s] 35
            have R2 := (R.grow hg2 ngr).call al
            have b2 := Gw.call (Gw.gr b hg2 (by intro j hj; injection hj with hj; omega)) al
            have hrg3 := World.ranges.alloc hrg2 (.cells #[.int .u8 y.n, .int .u16 y.i, .int .u32 y.s] 35)
            have HL3 := Lib.hid (show (w2.alloc (.cells #[.int .u8 y.n, .int .u16 y.i, .int .u32 y.s] 35)).rangeLeft (g + 1) gr < wr.rangeLeft (g + 1) gr by rw [hrg3.left_eq, hrg.left_eq]; exact hlt)
            clear hlt l1 l2 hyo hy hrg hg2 R b al HLT
            go_upto_region 26 with fail
            clear hen hrg2
            generalize w2.alloc (.cells #[.int .u8 y.n, .int .u16 y.i, .int .u32 y.s] 35) = w3 at *
            generalize w2.heap.size = gx at *
            have bq := Below.drew (Below.refl w3.heap.size w3)
            have HB : Hid (∀ W, Below w3.heap.size w3 W → (fun W : World => W.cell? ⟨g, 0, none⟩ = some (.int .u16 r.i) ∧ W.cell? ⟨g, 1, none⟩ = some (.int .u32 r.p) ∧ W.cell? ⟨g, 2, none⟩ = some (.int .u64 r.b) ∧ W.cell? ⟨gx, 0, none⟩ = some (.int .u8 y.n) ∧ W.cell? ⟨gx, 1, none⟩ = some (.int .u16 y.i) ∧ W.cell? ⟨gx, 2, none⟩ = some (.int .u32 y.s)) W) := Lib.hid fun W hb => ⟨(R2.call hb).blk.2.1 0 _ rfl, (R2.call hb).blk.2.1 1 _ rfl, (R2.call hb).blk.2.1 2 _ rfl, (X.call hb).blk.2.1 0 _ rfl, (X.call hb).blk.2.1 1 _ rfl, (X.call hb).blk.2.1 2 _ rfl⟩
            refine wp_region_held_drew (S := fun W : World => W.cell? ⟨g, 0, none⟩ = some (.int .u16 r.i) ∧ W.cell? ⟨g, 1, none⟩ = some (.int .u32 r.p) ∧ W.cell? ⟨g, 2, none⟩ = some (.int .u64 r.b) ∧ W.cell? ⟨gx, 0, none⟩ = some (.int .u8 y.n) ∧ W.cell? ⟨gx, 1, none⟩ = some (.int .u16 y.i) ∧ W.cell? ⟨gx, 2, none⟩ = some (.int .u32 y.s)) (by kernel_rfl) (HB.out _ bq) (fun hHeld => ?_)
            refine take_d (i := 0) (oi := _) (v := ?_) (d := some 133) rfl (by kernel_rfl) (by as_aux_lemma => kernel_rfl) (by as_aux_lemma => kernel_rfl) (by as_aux_lemma => kernel_rfl) (fun _ _ _ h => h) (Or.inl ⟨by kernel_rfl, ?_⟩) hHeld ?_
            rotate_left
            · intro w hSw; (try dsimp only at hSw); go_simp; (try with_reducible rfl)
            try simp only [Act.put, List.setIfInBounds_toArray, List.set_cons_zero, List.set_cons_succ]
            refine take_d (i := 1) (oi := _) (v := ?_) (d := some 134) rfl (by kernel_rfl) (by as_aux_lemma => kernel_rfl) (by as_aux_lemma => kernel_rfl) (by as_aux_lemma => kernel_rfl) (fun _ _ _ h => h) (Or.inl ⟨by kernel_rfl, ?_⟩) hHeld ?_
            rotate_left
            · intro w hSw; (try dsimp only at hSw); go_simp; (try with_reducible rfl)
            try simp only [Act.put, List.setIfInBounds_toArray, List.set_cons_zero, List.set_cons_succ]
            refine take_d (i := 3) (oi := _) (v := ?_) (d := some 136) rfl (by kernel_rfl) (by as_aux_lemma => kernel_rfl) (by as_aux_lemma => kernel_rfl) (by as_aux_lemma => kernel_rfl) (fun _ _ _ h => h) (Or.inl ⟨by kernel_rfl, ?_⟩) hHeld ?_
            rotate_left
            · intro w hSw; (try dsimp only at hSw); go_simp; (try with_reducible rfl)
            try simp only [Act.put, List.setIfInBounds_toArray, List.set_cons_zero, List.set_cons_succ]
            refine take_d (i := 4) (oi := _) (v := ?_) (d := some 137) rfl (by kernel_rfl) (by as_aux_lemma => kernel_rfl) (by as_aux_lemma => kernel_rfl) (by as_aux_lemma => kernel_rfl) (fun _ _ _ h => h) (Or.inl ⟨by kernel_rfl, ?_⟩) hHeld ?_
            rotate_left
            · intro w hSw; (try dsimp only at hSw); go_simp; (try with_reducible rfl)
            try simp only [Act.put, List.setIfInBounds_toArray, List.set_cons_zero, List.set_cons_succ]
            refine take_d (i := 5) (oi := _) (v := ?_) (d := some 138) rfl (by kernel_rfl) (by as_aux_lemma => kernel_rfl) (by as_aux_lemma => kernel_rfl) (by as_aux_lemma => kernel_rfl) (fun _ _ _ h => h) (Or.inl ⟨by kernel_rfl, ?_⟩) hHeld ?_
            rotate_left
            · intro w hSw; (try dsimp only at hSw); go_simp; (try with_reducible rfl)
            try simp only [Act.put, List.setIfInBounds_toArray, List.set_cons_zero, List.set_cons_succ]
            refine take_d (i := 6) (oi := _) (v := ?_) (d := some 139) rfl (by kernel_rfl) (by as_aux_lemma => kernel_rfl) (by as_aux_lemma => kernel_rfl) (by as_aux_lemma => kernel_rfl) (fun _ _ _ h => h) (Or.inl ⟨by kernel_rfl, ?_⟩) hHeld ?_
            rotate_left
            · intro w hSw; (try dsimp only at hSw); go_simp; (try with_reducible rfl)
            try simp only [Act.put, List.setIfInBounds_toArray, List.set_cons_zero, List.set_cons_succ]
            refine take_d (i := 7) (oi := _) (v := (.bool (decide (y.i = r.i)))) (d := some 140) rfl (by kernel_rfl) (by as_aux_lemma => kernel_rfl) (by as_aux_lemma => kernel_rfl) (by as_aux_lemma => kernel_rfl) (fun _ _ _ h => h) (Or.inl ⟨by kernel_rfl, ?_⟩) hHeld ?_
            · intro W hSw
              go_simp; first | done | rfl | (simp; done) | (congr 1; simp)
            try simp only [Act.put, List.setIfInBounds_toArray, List.set_cons_zero, List.set_cons_succ]
            refine wpAnyH_ready (rs := [2]) (by kernel_rfl) (by simp) ?_
            refine AllReadyH.cons rfl (fun K hK => ?_) AllReadyH.nil
            go_simp
            refine (CH.out _).mono ?_
            rintro e u1 ⟨rfl, hb⟩
            replace bq := Gw.call bq hb
            clear hb
            dsimp only
            refine hK.out _ _ (HB.out _ bq) (fun hHeld => ?_)
            clear hK K
            try simp only [Act.put, List.setIfInBounds_toArray, List.set_cons_zero, List.set_cons_succ]
            refine take_d (i := 8) (oi := _) (v := .bool false) (d := some 141) rfl (by kernel_rfl) (by as_aux_lemma => kernel_rfl) (by as_aux_lemma => kernel_rfl) (by as_aux_lemma => kernel_rfl) (fun _ _ _ h => h) (Or.inl ⟨by kernel_rfl, ?_⟩) hHeld ?_
            · intro W hSw
              go_simp; first | done | rfl | (simp; done)
            try simp only [Act.put, List.setIfInBounds_toArray, List.set_cons_zero, List.set_cons_succ]
            refine take_d (i := 9) (oi := _) (v := ?_) (d := some 142) rfl (by kernel_rfl) (by as_aux_lemma => kernel_rfl) (by as_aux_lemma => kernel_rfl) (by as_aux_lemma => kernel_rfl) (fun _ _ _ h => h) (Or.inl ⟨by kernel_rfl, ?_⟩) hHeld ?_
            rotate_left
            · intro w hSw; (try dsimp only at hSw); go_simp; (try with_reducible rfl)
            try simp only [Act.put, List.setIfInBounds_toArray, List.set_cons_zero, List.set_cons_succ]
            refine take_d (i := 10) (oi := _) (v := ?_) (d := some 143) rfl (by kernel_rfl) (by as_aux_lemma => kernel_rfl) (by as_aux_lemma => kernel_rfl) (by as_aux_lemma => kernel_rfl) (fun _ _ _ h => h) (Or.inl ⟨by kernel_rfl, ?_⟩) hHeld ?_
            rotate_left
            · intro w hSw; (try dsimp only at hSw); go_simp; (try with_reducible rfl)
            try simp only [Act.put, List.setIfInBounds_toArray, List.set_cons_zero, List.set_cons_succ]
            refine take_d (i := 11) (oi := _) (v := ?_) (d := some 144) rfl (by kernel_rfl) (by as_aux_lemma => kernel_rfl) (by as_aux_lemma => kernel_rfl) (by as_aux_lemma => kernel_rfl) (fun _ _ _ h => h) (Or.inl ⟨by kernel_rfl, ?_⟩) hHeld ?_
            rotate_left
            · intro w hSw; (try dsimp only at hSw); go_simp; (try with_reducible rfl)
            try simp only [Act.put, List.setIfInBounds_toArray, List.set_cons_zero, List.set_cons_succ]
            refine take_d (i := 12) (oi := _) (v := ?_) (d := some 145) rfl (by kernel_rfl) (by as_aux_lemma => kernel_rfl) (by as_aux_lemma => kernel_rfl) (by as_aux_lemma => kernel_rfl) (fun _ _ _ h => h) (Or.inl ⟨by kernel_rfl, ?_⟩) hHeld ?_
            rotate_left
            · intro w hSw; (try dsimp only at hSw); go_simp; (try with_reducible rfl)
            try simp only [Act.put, List.setIfInBounds_toArray, List.set_cons_zero, List.set_cons_succ]
            refine wpAnyH_ready (rs := [13]) (by kernel_rfl) (by simp) ?_
            refine AllReadyH.cons rfl (fun K hK => ?_) AllReadyH.nil
            go_simp
            refine (CM.out _).mono ?_
            rintro e u1 ⟨rfl, hb⟩
            replace bq := Gw.call bq hb
            clear hb
            dsimp only
            refine hK.out _ _ (HB.out _ bq) (fun hHeld => ?_)
            clear hK K
            try simp only [Act.put, List.setIfInBounds_toArray, List.set_cons_zero, List.set_cons_succ]
            refine take_d (i := 14) (oi := _) (v := ?_) (d := some 147) rfl (by kernel_rfl) (by as_aux_lemma => kernel_rfl) (by as_aux_lemma => kernel_rfl) (by as_aux_lemma => kernel_rfl) (fun _ _ _ h => h) (Or.inl ⟨by kernel_rfl, ?_⟩) hHeld ?_
            rotate_left
            · intro w hSw; (try dsimp only at hSw); go_simp; (try with_reducible rfl)
            try simp only [Act.put, List.setIfInBounds_toArray, List.set_cons_zero, List.set_cons_succ]
            refine wpAnyH_done (by kernel_rfl) ?_ _
            clear HB hHeld CH CM
            have hrg4 := World.ranges.kept hrg3 (grow_none bq) (by simp) (by simp)
            have R4 := R2.call bq
            have b4 := Gw.call b2 bq
            have HL4 := Lib.hid (hrg4.left_eq.trans hrg3.left_eq.symm)
            clear hrg3 R2 b2 X bq
            go_wp2_with fail
            go_roundw
            case rel => exact ⟨left2, cnt2, hrg4, R4, b4⟩
            case measure =>
              have h3 := HL3.out
              have h4 := HL4.out
              omega
end Go.Proofs.Ytfdppebbpcjhjaa
