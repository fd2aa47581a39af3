/-
  OutboxNone (21).
-/
import Derived.Test.YtbengmgfddnkhaaAwake21
import Derived.Test.YtbengmgfddnkhaaFew21
import Derived.Test.YtbengmgfddnkhaaBoxes
import Derived.Test.YtbengmgfddnkhaaOpenMs
namespace Go.Proofs.Ytbengmgfddnkhaa
open Go.RowKit
theorem OutR.none_ {B : Nat} {W : World} {A : Option Addr} : OutR B W A [] := ⟨Rd.nil_, (fun m hm => by cases hm)⟩
theorem few1_any (m : MsV) (g : Nat) (w : World) (hE : Ob w g (msA m) 39) (hr : m.rd w.heap.size w) (hl : m.L.length ≤ 9223372036854775807) :
    Calls Try.prog 7 #[.slice (some ⟨g, 0, none⟩) 1 1, .int .i64 1] w fun e w' => ∃ r : Bool, e = .returned (.bool r) ∧ (r = true → m.few) ∧ Below w.heap.size w w' := by
  have hR : OutR w.heap.size w (some ⟨g, 0, none⟩) [m] := ⟨fun _ => ⟨g, 0, rfl, hE.lt, fun k x hx j c hj => by
    cases k with
    | zero =>
      obtain rfl : m = x := by simpa using hx
      have := obM hE j c hj
      rw [show 0 + 0 * 17 + j = 0 + j by omega]; exact this
    | succ k => simp at hx⟩, fun x hx => by obtain rfl : x = m := by simpa using hx
                                            exact hr⟩
  refine (fewM_any [m] (some ⟨g, 0, none⟩) 1 1 w hR (by simp) (fun x hx => by obtain rfl : x = m := by simpa using hx
                                                                              exact hl)).mono ?_
  rintro e w' ⟨r, rfl, h, hb⟩
  exact ⟨r, rfl, fun h1 => (h h1).2 m (by simp), hb⟩
set_option maxRecDepth 100000 in
set_option maxHeartbeats 4000000 in
theorem onone_any (room lost many : Int) (m : MsV) (w : World) (hroom : -9223372036854775808 ≤ room ∧ room ≤ 9223372036854775807) (hlost : 0 ≤ lost ∧ lost ≤ 65535) (hmany : 0 ≤ many ∧ many ≤ 255) (hm : m.ok w) :
    Calls Try.prog 5 #[.int .i64 room, .int .u16 lost, msv m, .int .u8 many] w fun e w' => e = .returned (.bool true) ∧ Below w.heap.size w w' := by
  obtain ⟨nn, hnn⟩ : ∃ nn : Nat, 1 + many % 40 = (nn : Int) := ⟨(1 + many % 40).toNat, by omega⟩
  have nn40 : nn ≤ 40 := by omega
  obtain ⟨ρ, hρ⟩ : ∃ ρ, (if 0 < room then 0 else room) = ρ := ⟨_, rfl⟩
  have hρ0 : ρ ≤ 0 := by rw [← hρ]; split <;> omega
  have hmr := hm.rd
  have hmL : m.L.length ≤ 9223372036854775807 := by have := hm.L; unfold maxLen at this; omega
  have M := Ob.new w (msA m) 39
  have b0 := Gw.al (Below.refl w.heap.size w) (.cells (msA m) 39)
  have al1 := Below.alloc (Below.refl (w.alloc (.cells (msA m) 39)).heap.size (w.alloc (.cells (msA m) 39))) (Nat.le_refl _) (.cells (msA m) 39)
  have F1 := Ob.new (w.alloc (.cells (msA m) 39)) (msA m) 39
  rw [World.size_alloc] at F1
  have CF := Lib.hid (fun W g h1 h2 => few1_any m g W h1 h2 hmL)
  have b1 := b0.trans (al1.mono b0.size)
  clear hm
  go_enter Try.func5, Try.ntmps5
  go_wp2_with (first | (with_reducible refine ldM m _ 0 (obM M) rfl _ rfl rfl ?_) | (with_reducible refine bsM m rfl _ rfl rfl ?_) | fail)
  refine (CF.out _ _ F1 (hmr.up b1)).mono ?_
  rintro e w2 ⟨r, rfl, hrr, hb⟩
  replace b1 := Gw.call b1 hb
  have HRR := Lib.hid hrr
  replace M := (M.call al1).call hb
  clear hb al1 F1 CF b0 hrr
  cases r
  · clear HRR
    go_wp2_with fail
    refine (awake_any _).mono ?_
    rintro e w9 ⟨rfl, hb⟩
    go_wp2_with fail
    go_ret
    exact ⟨rfl, Gw.call b1 hb⟩
  have HMF := Lib.hid (HRR.out rfl)
  clear HRR
  have wl : IntKind.i64.wrap lost = lost := IntWalk.i64_in _ (by omega)
  have HHM := Lib.hid hmany
  have HNN := Lib.hid hnn
  clear hroom
  go_upto_region 6 with fail
  have hmr2 := hmr.up b1
  have b2 := Gw.al (Gw.al b1 (.cells #[.int .i64 ρ, .slice none 0 0, .int .i64 lost] 24)) (.cells #[.int .i64 ρ, .slice none 0 0, .int .i64 lost] 24)
  have G9 := (Ob.new w2 #[.int .i64 ρ, .slice none 0 0, .int .i64 lost] 24).alloc (.cells #[.int .i64 ρ, .slice none 0 0, .int .i64 lost] 24)
  have G11 := Ob.new (w2.alloc (.cells #[.int .i64 ρ, .slice none 0 0, .int .i64 lost] 24)) #[.int .i64 ρ, .slice none 0 0, .int .i64 lost] 24
  rw [World.size_alloc] at G11
  have M2 := (M.alloc (.cells #[.int .i64 ρ, .slice none 0 0, .int .i64 lost] 24)).alloc (.cells #[.int .i64 ρ, .slice none 0 0, .int .i64 lost] 24)
  have hgm : w.heap.size < w2.heap.size := M.lt
  have HG := Lib.hid (show w.heap.size ≠ w2.heap.size + 1 ∧ w2.heap.size ≠ w2.heap.size + 1 ∧ w.heap.size ≤ w2.heap.size + 1 by omega)
  generalize hw3 : (w2.alloc (.cells #[.int .i64 ρ, .slice none 0 0, .int .i64 lost] 24)).alloc (.cells #[.int .i64 ρ, .slice none 0 0, .int .i64 lost] 24) = w3 at *
  clear hw3 M b1 hgm hnn hρ hmany
  generalize w2.heap.size = g9 at *
  go_wp2_with fail
  go_loopw [31] (fun i wr => ∃ (k : Nat) (A : Option Addr) (c : Nat), k ≤ nn ∧ i = .int .i64 k ∧ Ob wr (g9 + 1) #[.int .i64 ρ, .slice A 0 c, .int .i64 (lost + k)] 24 ∧ Ob wr g9 #[.int .i64 ρ, .slice none 0 0, .int .i64 lost] 24 ∧ Ob wr w.heap.size (msA m) 39 ∧ Below w.heap.size w wr) (fun i _ => nn - (intOf i).toNat)
  case atStart => exact ⟨0, none, 0, Nat.zero_le _, rfl, by simpa using G11, G9, M2, b2⟩
  case round =>
    clear G11 G9 M2 b2
    obtain ⟨k, A, c, hk, rfl, G11, G9, M2, b2⟩ := hrel
    have g0 := G11.blk.2.1 0 _ rfl
    have g1 := G11.blk.2.1 1 _ rfl
    have g2 := G11.blk.2.1 2 _ rfl
    have gf := G11.blk.2.2
    by_cases hlt : k < nn
    · have ki : (k : Int) < (nn : Int) := by omega
      have CP := Lib.hid (fun W h => put_full ρ (lost + k) A [] 0 c m W OutR.none_ (fun d hd => by cases hd) rfl (by omega) h HMF.out (by omega))
      go_wp2_with (first | (with_reducible refine ldM m _ 0 (obM M2) rfl _ rfl rfl ?_) | fail)
      refine (CP.out _ (hmr.up b2)).mono ?_
      rintro e w4 ⟨A2, c2, t, rfl, _, _, hb⟩
      rw [IntWalk.wrap64_in (lost + k + 1) (by omega)]
      have b4 := Gw.call b2 hb
      have G9' := G9.call hb
      have M2' := M2.call hb
      have G11' := G11.call hb
      clear hb CP g0 g1 g2 gf G11 G9 M2 b2
      have g0 := G11'.blk.2.1 0 _ rfl
      have g1 := G11'.blk.2.1 1 _ rfl
      have g2 := G11'.blk.2.1 2 _ rfl
      have gf := G11'.blk.2.2
      have G12 := ((G11'.set 0 (.int .i64 ρ)).set 1 (.slice A2 0 c2)).set 2 (.int .i64 (lost + k + 1))
      have G92 := ((G9'.far (p := g9 + 1) (j := 0) HG.out.2.1 (.int .i64 ρ)).far (p := g9 + 1) (j := 1) HG.out.2.1 (.slice A2 0 c2)).far (p := g9 + 1) (j := 2) HG.out.2.1 (.int .i64 (lost + k + 1))
      have M22 := ((M2'.far (p := g9 + 1) (j := 0) HG.out.1 (.int .i64 ρ)).far (p := g9 + 1) (j := 1) HG.out.1 (.slice A2 0 c2)).far (p := g9 + 1) (j := 2) HG.out.1 (.int .i64 (lost + k + 1))
      have b5 := Gw.st (Gw.st (Gw.st b4 (p := ⟨g9 + 1, 0, none⟩) HG.out.2.2 (.int .i64 ρ)) (p := ⟨g9 + 1, 1, none⟩) HG.out.2.2 (.slice A2 0 c2)) (p := ⟨g9 + 1, 2, none⟩) HG.out.2.2 (.int .i64 (lost + k + 1))
      clear G11' G9' M2' b4
      go_wp2_with fail
      go_roundw
      case rel =>
        have e : lost + ((k + 1 : Nat) : Int) = lost + k + 1 := by omega
        refine ⟨k + 1, A2, c2, hlt, by go_num, ?_, G92, M22, b5⟩
        rw [e]
        exact G12
      case measure => simp [intOf]; omega
    · obtain rfl : k = nn := by omega
      have CT := Lib.hid (take_none ρ (lost + k) A c)
      go_wp2_with fail
      refine (CT.out _).mono ?_
      rintro e w4 ⟨md, A2, c2, rfl, hmd, hmo, _, hb⟩
      have b4 := Gw.al (Gw.al (Gw.call b2 hb) (.cells (msA md) 39)) (.cells #[.int .i64 ρ, .slice A2 0 c2, .int .i64 (lost + k)] 24)
      have G11' := ((G11.call hb).alloc (.cells (msA md) 39)).alloc (.cells #[.int .i64 ρ, .slice A2 0 c2, .int .i64 (lost + k)] 24)
      have G9' := ((G9.call hb).alloc (.cells (msA md) 39)).alloc (.cells #[.int .i64 ρ, .slice A2 0 c2, .int .i64 (lost + k)] 24)
      have MD := (Ob.new w4 (msA md) 39).alloc (.cells #[.int .i64 ρ, .slice A2 0 c2, .int .i64 (lost + k)] 24)
      have P := Ob.new (w4.alloc (.cells (msA md) 39)) #[.int .i64 ρ, .slice A2 0 c2, .int .i64 (lost + k)] 24
      rw [World.size_alloc] at P
      have al := Below.alloc (Below.alloc (Below.refl w4.heap.size w4) (Nat.le_refl _) (.cells (msA md) 39)) (by simp) (.cells #[.int .i64 ρ, .slice A2 0 c2, .int .i64 (lost + k)] 24)
      have hmo2 := (hmo.below al).rd
      have HMD := Lib.hid hmd
      clear hb g0 g1 g2 gf G11 G9 M2 b2 CT hmo al hmd
      have g0 := G11'.blk.2.1 0 _ rfl
      have g1 := G11'.blk.2.1 1 _ rfl
      have g2 := G11'.blk.2.1 2 _ rfl
      have h0 := G9'.blk.2.1 0 _ rfl
      have t1 : ((lost + (k : Int)) == (lost + (k : Int))) = true := by simp
      have t2 : (ρ == ρ) = true := by simp
      have wlk : wrap64 (lost + (k : Int)) = lost + k := IntWalk.wrap64_in _ (by omega)
      have CS := Lib.hid (fun W h1 => same_yes md nilM W h1 nilM_rd HMD.out (few_of_abs (show nilM.abs = md.abs from HMD.out.symm) (by refine MsV.few_abs.2 (kM_few 0))))
      go_wp2_with (first | (with_reducible refine stM_under md _ _ rfl _ _ rfl rfl rfl rfl ?_) | (with_reducible refine ldMg md _ 0 (obM MD) (by kernel_rfl) _ rfl rfl ?_) | fail)
      refine (CS.out _ hmo2).mono ?_
      rintro e w5 ⟨rfl, hb⟩
      have b5 := Gw.call b4 hb
      have G5 := G11'.call hb
      have P5 := P.call hb
      clear hb g0 g1 g2 h0 G11' G9' MD P CS b4 hmo2
      have g0 := G5.blk.2.1 0 _ rfl
      have g1 := G5.blk.2.1 1 _ rfl
      have g2 := G5.blk.2.1 2 _ rfl
      have p0 := P5.blk.2.1 0 _ rfl
      have p1 := P5.blk.2.1 1 _ rfl
      have p2 := P5.blk.2.1 2 _ rfl
      have CB := Lib.hid (fun W => boxes_yes ⟨ρ, A2, [], c2, lost + k⟩ ⟨ρ, A, [], c, lost + k⟩ W OutR.none_ OutR.none_ rfl (fun d hd => by cases hd) (by simp))
      go_wp2_with fail
      refine (CB.out _).mono ?_
      rintro e w6 ⟨rfl, hb⟩
      have b6 := Gw.call b5 hb
      clear hb g0 g1 g2 p0 p1 p2 CB
      go_wp2_with fail
      refine (awake_any _).mono ?_
      rintro e w9 ⟨rfl, hb⟩
      go_wp2_with fail
      go_ret
      exact ⟨rfl, Gw.call b6 hb⟩
end Go.Proofs.Ytbengmgfddnkhaa
