/-
  OutboxApart (21).
-/
import Derived.Test.YtbengmgfddnkhaaApartL
import Derived.Test.YtbengmgfddnkhaaUse21
import Derived.Test.YtbengmgfddnkhaaAwake21
namespace Go.Proofs.Ytbengmgfddnkhaa
open Go.RowKit
set_option maxRecDepth 100000 in
set_option maxHeartbeats 8000000 in
theorem apart_any (m b : MsV) (w : World) (hm : m.ok w) (hb : b.ok w) :
    Calls Try.prog 6 #[msv m, msv b] w fun e w' => e = .returned (.bool true) ∧ Below w.heap.size w w' := by
  obtain ⟨i1, hi1, hp0, hp1, hp2⟩ := info_parts Try.info21Ds
  obtain ⟨i2, hi2, hq0, hq1, hq2⟩ := info_parts Try.info21Mb
  obtain ⟨i3, hi3, hr0, hr1, hr2⟩ := info_parts Try.info21Mk
  obtain ⟨i4, hi4, hs0, hs1, hs2⟩ := info_parts Try.info21Id
  obtain ⟨i5, hi5, ht0, ht1, ht2⟩ := info_parts Try.info21I32
  obtain ⟨i6, hi6, hu0, hu1, hu2⟩ := info_parts Try.info21U8
  have hmr := hm.rd
  have hbr := hb.rd
  have hmL : m.L.length ≤ 9223372036854775807 := by have := hm.L; unfold maxLen at this; omega
  have hbL : b.L.length ≤ 9223372036854775807 := by have := hb.L; unfold maxLen at this; omega
  have M := (Ob.new w (msA m) 39).alloc (.cells (msA b) 39)
  have N := Ob.new (w.alloc (.cells (msA m) 39)) (msA b) 39
  rw [World.size_alloc] at N
  have b0 := Gw.al (Gw.al (Below.refl w.heap.size w) (.cells (msA m) 39)) (.cells (msA b) 39)
  have F := Ob.new ((w.alloc (.cells (msA m) 39)).alloc (.cells (msA b) 39)) (mm m b) 39
  simp only [World.size_alloc] at F
  have b1 := Gw.al b0 (.cells (mm m b) 39)
  have CF := Lib.hid (fun W g h1 h2 h3 => few2_any m b g W h1 h2 h3 hmL hbL)
  clear hm hb hmL hbL
  go_enter Try.func6, Try.ntmps6
  go_wp2_with (first | (with_reducible refine ldM m _ 0 (obM M) rfl _ rfl rfl ?_) | (with_reducible refine ldM b _ 0 (obM N) rfl _ rfl rfl ?_) | (with_reducible refine bsM2 m b rfl _ _ rfl rfl rfl ?_) | fail)
  refine (CF.out _ _ F (hmr.up b1) (hbr.up b1)).mono ?_
  rintro e w1 ⟨r, rfl, hrr, hb⟩
  have HRR := Lib.hid hrr
  replace b1 := Gw.call b1 hb
  replace M := (M.alloc (.cells (mm m b) 39)).call hb
  replace N := (N.alloc (.cells (mm m b) 39)).call hb
  clear hb hrr F CF b0
  cases r
  · clear HRR
    go_wp2_with fail
    refine (awake_any _).mono ?_
    rintro e w9 ⟨rfl, hb⟩
    go_wp2_with fail
    go_ret
    exact ⟨rfl, Gw.call b1 hb⟩
  obtain ⟨hmf, hbf⟩ := HRR.out rfl
  have HMF := Lib.hid hmf
  have HBF := Lib.hid hbf.few
  obtain ⟨⟨l7, -, -, -, -, -, -⟩, l1, l2, l3, l4, l5, l6⟩ := id hmf
  clear HRR hmf hbf l7
  generalize hg0 : w.heap.size = g0 at M N
  have hgl : w.heap.size ≤ g0 := by omega
  have hne : g0 + 1 ≠ g0 := by omega
  have hg2 : g0 < g0 + 2 := by omega
  clear hg0
  generalize w1 = v0 at *
  have sz0 : g0 + 2 ≤ v0.heap.size := N.lt
  have q4 : (v0.alloc (.cells #[] 55)).cell? ⟨g0, 4, none⟩ = some (.slice m.LA m.L.length m.Lc) := (M.alloc (.cells #[] 55)).blk.2.1 4 _ rfl
  have RL := hmr.L.up b1
  go_upto_region 4 with (first
    | (at_builtin; refine wpList_app _ rfl (.tmp 22) (.tmp 24) _ rfl v0.heap.size 55 i1 _ 32 Try.underlying26 hi1 hp0 hp1 hp2 rfl (by omega) dsc_len dsc_one (.slice (some ⟨v0.heap.size, 0, none⟩) 0 0) [] rfl (Own.litg v0 _ rfl (Nat.le_refl _)) 0 rfl _ _ _ _ m.L rfl rfl (RL.allocS (.cells #[] 55)) (by omega) (by omega) (by simp only [World.size_alloc]; omega) ?_; intro A5 c5 w5 o5 hg5; rw [List.nil_append, Nat.zero_add] at o5; rw [Nat.zero_add]; have h5 : Below v0.heap.size v0 w5 := Gw.gr (Gw.al (Below.refl _ _) (.cells #[] 55)) hg5 (by intro k hk; have := own_blk hk; simp at this ⊢; omega); have s5 := h5.size; clear hg5)
    | (at_builtin; refine wpList_app _ rfl (.tmp 25) (.tmp 29) _ rfl v0.heap.size 55 i1 _ 32 Try.underlying26 hi1 hp0 hp1 hp2 rfl (by omega) dsc_len dsc_one (.slice A5 m.L.length c5) m.L rfl ((o5.alloc (.cells #[.int .i32 1, .int .i32 2] 51)).alloc (.cells #[.int .u8 0, .int .u16 0, .int .u8 0, .slice (some ⟨w5.heap.size, 0, none⟩) 1 1] 55)) m.L.length rfl _ (some ⟨(w5.heap.size + 1), 0, none⟩) 1 1 [(⟨0, 0, 0, some ⟨w5.heap.size, 0, none⟩, [⟨1, 2⟩], 1⟩ : DsV)] rfl rfl (Rd.lit dsc_len (w5.alloc (.cells #[.int .i32 1, .int .i32 2] 51)) (w5.heap.size + 1) (by rw [World.size_alloc]) #[.int .u8 0, .int .u16 0, .int .u8 0, .slice (some ⟨w5.heap.size, 0, none⟩) 1 1] 55 [(⟨0, 0, 0, some ⟨w5.heap.size, 0, none⟩, [⟨1, 2⟩], 1⟩ : DsV)] (by simp [dsc])) (by omega) (by omega) (by simp only [World.size_alloc]; omega) ?_; intro AL cL w6 o6 hg6; have h6 : Below v0.heap.size v0 w6 := Gw.gr (Gw.al (Gw.al h5 (.cells #[.int .i32 1, .int .i32 2] 51)) (.cells #[.int .u8 0, .int .u16 0, .int .u8 0, .slice (some ⟨w5.heap.size, 0, none⟩) 1 1] 55)) hg6 (Own.lt o5); have M6 := M.call h6; have k4 := M6.blk.2.1 4 _ rfl; have kf := M6.blk.2.2)
    | fail)
  clear k4 kf q4 RL
  obtain ⟨gs, hgs⟩ : ∃ g, g = w5.heap.size := ⟨_, rfl⟩
  have ox : Own spc 2 51 v0.heap.size (w5.alloc (.cells #[.int .i32 1, .int .i32 2] 51)) (.slice (some ⟨w5.heap.size, 0, none⟩) 1 1) [(⟨1, 2⟩ : Sp)] := Own.lit (l := [(⟨1, 2⟩ : Sp)]) w5 #[.int .i32 1, .int .i32 2] 1 s5 (by decide) rfl rfl rfl
  have OX : (⟨0, 0, 0, some ⟨w5.heap.size, 0, none⟩, [⟨1, 2⟩], 1⟩ : DsV).own (g0 + 2) (w6.setCell ⟨g0, 4, none⟩ (.slice AL (m.L.length + 1) cL)) := Own.hop (Own.base_le (Apart.keep (ox.alloc (.cells #[.int .u8 0, .int .u16 0, .int .u8 0, .slice (some ⟨w5.heap.size, 0, none⟩) 1 1] 55)) (own_unlike (ox.alloc (.cells #[.int .u8 0, .int .u16 0, .int .u8 0, .slice (some ⟨w5.heap.size, 0, none⟩) 1 1] 55)) ((o5.alloc (.cells #[.int .i32 1, .int .i32 2] 51)).alloc (.cells #[.int .u8 0, .int .u16 0, .int .u8 0, .slice (some ⟨w5.heap.size, 0, none⟩) 1 1] 55)) (by decide)) hg6) sz0) (grown_set _ _ _) hg2
  rw [← hgs] at o6 OX
  clear hgs ox
  have M7 : Ob (w6.setCell ⟨g0, 4, none⟩ (.slice AL (m.L.length + 1) cL)) g0 (msA (addL m AL cL (⟨0, 0, 0, some ⟨gs, 0, none⟩, [⟨1, 2⟩], 1⟩ : DsV))) 39 := addL_put (⟨0, 0, 0, some ⟨gs, 0, none⟩, [⟨1, 2⟩], 1⟩ : DsV) M6
  have N7 := (N.call h6).far (p := g0) (j := 4) hne (.slice AL (m.L.length + 1) cL)
  have b7 := Gw.st (Gw.call b1 h6) (p := ⟨g0, 4, none⟩) hgl (.slice AL (m.L.length + 1) cL)
  have OL := (o6.base_le sz0).hop (grown_set w6 ⟨g0, 4, none⟩ (.slice AL (m.L.length + 1) cL)) hg2
  clear M N b1 h5 h6 s5 hg6 o5 o6 M6
  generalize w6.setCell ⟨g0, 4, none⟩ (.slice AL (m.L.length + 1) cL) = v1 at *
  have M := M7
  have N := N7
  have b1 := b7
  clear M7 N7 b7
  have sz1 : g0 + 2 ≤ v1.heap.size := N.lt
  clear sz0
  have q5 : (v1.alloc (.cells #[] 57)).cell? ⟨g0, 5, none⟩ = some (.slice m.TA m.T.length m.Tc) := (M.alloc (.cells #[] 57)).blk.2.1 5 _ rfl
  have RT := hmr.T.up b1
  go_upto_region 5 with (first
    | (at_builtin; refine wpList_app _ rfl (.tmp 32) (.tmp 34) _ rfl v1.heap.size 57 i2 _ 4 Try.underlying27 hi2 hq0 hq1 hq2 rfl (by omega) memc_len memc_one (.slice (some ⟨v1.heap.size, 0, none⟩) 0 0) [] rfl (Own.litg v1 _ rfl (Nat.le_refl _)) 0 rfl _ _ _ _ m.T rfl rfl (RT.allocS (.cells #[] 57)) (by omega) (by omega) (by simp only [World.size_alloc]; omega) ?_; intro A5 c5 w5 o5 hg5; rw [List.nil_append, Nat.zero_add] at o5; rw [Nat.zero_add]; have h5 : Below v1.heap.size v1 w5 := Gw.gr (Gw.al (Below.refl _ _) (.cells #[] 57)) hg5 (by intro k hk; have := own_blk hk; simp at this ⊢; omega); have s5 := h5.size; clear hg5)
    | (at_builtin; refine wpList_app _ rfl (.tmp 35) (.tmp 37) _ rfl v1.heap.size 57 i2 _ 4 Try.underlying27 hi2 hq0 hq1 hq2 rfl (by omega) memc_len memc_one (.slice A5 m.T.length c5) m.T rfl (o5.alloc (.cells #[.int .u16 3, .int .u8 0, .int .u8 0] 57)) m.T.length rfl _ (some ⟨w5.heap.size, 0, none⟩) 1 1 [(⟨3, 0, 0⟩ : Mb)] rfl rfl (Rd.lit memc_len w5 w5.heap.size rfl #[.int .u16 3, .int .u8 0, .int .u8 0] 57 [(⟨3, 0, 0⟩ : Mb)] (by simp [memc])) (by omega) (by omega) (by simp only [World.size_alloc]; omega) ?_; intro AT cT w6 o6 hg6; have h6 : Below v1.heap.size v1 w6 := Gw.gr (Gw.al h5 (.cells #[.int .u16 3, .int .u8 0, .int .u8 0] 57)) hg6 (Own.lt o5); have M6 := M.call h6; have k5 := M6.blk.2.1 5 _ rfl; have kf := M6.blk.2.2)
    | fail)
  clear k5 kf q5 RT
  have M7 : Ob (w6.setCell ⟨g0, 5, none⟩ (.slice AT (m.T.length + 1) cT)) g0 (msA (addT (addL m AL cL (⟨0, 0, 0, some ⟨gs, 0, none⟩, [⟨1, 2⟩], 1⟩ : DsV)) AT cT (⟨3, 0, 0⟩ : Mb))) 39 := addT_put (⟨3, 0, 0⟩ : Mb) M6
  have N7 := (N.call h6).far (p := g0) (j := 5) hne (.slice AT (m.T.length + 1) cT)
  have b7 := Gw.st (Gw.call b1 h6) (p := ⟨g0, 5, none⟩) hgl (.slice AT (m.T.length + 1) cT)
  have OT := (o6.base_le sz1).hop (grown_set w6 ⟨g0, 5, none⟩ (.slice AT (m.T.length + 1) cT)) hg2
  replace OL := (Own.below OL h6).hop (grown_set w6 ⟨g0, 5, none⟩ (.slice AT (m.T.length + 1) cT)) hg2
  replace OX : DsV.own (g0 + 2) _ (⟨0, 0, 0, some ⟨gs, 0, none⟩, [⟨1, 2⟩], 1⟩ : DsV) := (Own.below OX h6).hop (grown_set w6 ⟨g0, 5, none⟩ (.slice AT (m.T.length + 1) cT)) hg2
  clear M N b1 h5 h6 s5 hg6 o5 o6 M6
  generalize w6.setCell ⟨g0, 5, none⟩ (.slice AT (m.T.length + 1) cT) = v2 at *
  have M := M7
  have N := N7
  have b1 := b7
  clear M7 N7 b7
  have sz2 : g0 + 2 ≤ v2.heap.size := N.lt
  clear sz1
  have q15 : (v2.alloc (.cells #[] 35)).cell? ⟨g0, 15, none⟩ = some (.slice m.MA m.M.length m.Mc) := (M.alloc (.cells #[] 35)).blk.2.1 15 _ rfl
  have RM := hmr.M.up b1
  go_upto_region 6 with (first
    | (at_builtin; refine wpList_app _ rfl (.tmp 40) (.tmp 42) _ rfl v2.heap.size 35 i3 _ 8 Try.underlying36 hi3 hr0 hr1 hr2 rfl (by omega) idc_len idc_one (.slice (some ⟨v2.heap.size, 0, none⟩) 0 0) [] rfl (Own.litg v2 _ rfl (Nat.le_refl _)) 0 rfl _ _ _ _ m.M rfl rfl (RM.allocS (.cells #[] 35)) (by omega) (by omega) (by simp only [World.size_alloc]; omega) ?_; intro A5 c5 w5 o5 hg5; rw [List.nil_append, Nat.zero_add] at o5; rw [Nat.zero_add]; have h5 : Below v2.heap.size v2 w5 := Gw.gr (Gw.al (Below.refl _ _) (.cells #[] 35)) hg5 (by intro k hk; have := own_blk hk; simp at this ⊢; omega); have s5 := h5.size; clear hg5)
    | (at_builtin; refine wpList_app _ rfl (.tmp 43) (.tmp 45) _ rfl v2.heap.size 35 i3 _ 8 Try.underlying36 hi3 hr0 hr1 hr2 rfl (by omega) idc_len idc_one (.slice A5 m.M.length c5) m.M rfl (o5.alloc (.cells #[.int .u8 0, .int .u16 3, .int .u32 0] 35)) m.M.length rfl _ (some ⟨w5.heap.size, 0, none⟩) 1 1 [(⟨0, 3, 0⟩ : Id)] rfl rfl (Rd.lit idc_len w5 w5.heap.size rfl #[.int .u8 0, .int .u16 3, .int .u32 0] 35 [(⟨0, 3, 0⟩ : Id)] (by simp [idc])) (by omega) (by omega) (by simp only [World.size_alloc]; omega) ?_; intro AM cM w6 o6 hg6; have h6 : Below v2.heap.size v2 w6 := Gw.gr (Gw.al h5 (.cells #[.int .u8 0, .int .u16 3, .int .u32 0] 35)) hg6 (Own.lt o5); have M6 := M.call h6; have k15 := M6.blk.2.1 15 _ rfl; have kf := M6.blk.2.2)
    | fail)
  clear k15 kf q15 RM
  have M7 : Ob (w6.setCell ⟨g0, 15, none⟩ (.slice AM (m.M.length + 1) cM)) g0 (msA (addM (addT (addL m AL cL (⟨0, 0, 0, some ⟨gs, 0, none⟩, [⟨1, 2⟩], 1⟩ : DsV)) AT cT (⟨3, 0, 0⟩ : Mb)) AM cM (⟨0, 3, 0⟩ : Id))) 39 := addM_put (⟨0, 3, 0⟩ : Id) M6
  have N7 := (N.call h6).far (p := g0) (j := 15) hne (.slice AM (m.M.length + 1) cM)
  have b7 := Gw.st (Gw.call b1 h6) (p := ⟨g0, 15, none⟩) hgl (.slice AM (m.M.length + 1) cM)
  have OM := (o6.base_le sz2).hop (grown_set w6 ⟨g0, 15, none⟩ (.slice AM (m.M.length + 1) cM)) hg2
  replace OL := (Own.below OL h6).hop (grown_set w6 ⟨g0, 15, none⟩ (.slice AM (m.M.length + 1) cM)) hg2
  replace OT := (Own.below OT h6).hop (grown_set w6 ⟨g0, 15, none⟩ (.slice AM (m.M.length + 1) cM)) hg2
  replace OX : DsV.own (g0 + 2) _ (⟨0, 0, 0, some ⟨gs, 0, none⟩, [⟨1, 2⟩], 1⟩ : DsV) := (Own.below OX h6).hop (grown_set w6 ⟨g0, 15, none⟩ (.slice AM (m.M.length + 1) cM)) hg2
  clear M N b1 h5 h6 s5 hg6 o5 o6 M6
  generalize w6.setCell ⟨g0, 15, none⟩ (.slice AM (m.M.length + 1) cM) = v3 at *
  have M := M7
  have N := N7
  have b1 := b7
  clear M7 N7 b7
  have sz3 : g0 + 2 ≤ v3.heap.size := N.lt
  clear sz2
  have q16 : (v3.alloc (.cells #[] 30)).cell? ⟨g0, 16, none⟩ = some (.slice m.IA m.I.length m.Ic) := (M.alloc (.cells #[] 30)).blk.2.1 16 _ rfl
  have RI := hmr.I.up b1
  go_upto_region 7 with (first
    | (at_builtin; refine wpList_app _ rfl (.tmp 48) (.tmp 50) _ rfl v3.heap.size 30 i4 _ 8 Try.underlying37 hi4 hs0 hs1 hs2 rfl (by omega) idc_len idc_one (.slice (some ⟨v3.heap.size, 0, none⟩) 0 0) [] rfl (Own.litg v3 _ rfl (Nat.le_refl _)) 0 rfl _ _ _ _ m.I rfl rfl (RI.allocS (.cells #[] 30)) (by omega) (by omega) (by simp only [World.size_alloc]; omega) ?_; intro A5 c5 w5 o5 hg5; rw [List.nil_append, Nat.zero_add] at o5; rw [Nat.zero_add]; have h5 : Below v3.heap.size v3 w5 := Gw.gr (Gw.al (Below.refl _ _) (.cells #[] 30)) hg5 (by intro k hk; have := own_blk hk; simp at this ⊢; omega); have s5 := h5.size; clear hg5)
    | (at_builtin; refine wpList_app _ rfl (.tmp 51) (.tmp 53) _ rfl v3.heap.size 30 i4 _ 8 Try.underlying37 hi4 hs0 hs1 hs2 rfl (by omega) idc_len idc_one (.slice A5 m.I.length c5) m.I rfl (o5.alloc (.cells #[.int .u8 0, .int .u16 3, .int .u32 0] 30)) m.I.length rfl _ (some ⟨w5.heap.size, 0, none⟩) 1 1 [(⟨0, 3, 0⟩ : Id)] rfl rfl (Rd.lit idc_len w5 w5.heap.size rfl #[.int .u8 0, .int .u16 3, .int .u32 0] 30 [(⟨0, 3, 0⟩ : Id)] (by simp [idc])) (by omega) (by omega) (by simp only [World.size_alloc]; omega) ?_; intro AI cI w6 o6 hg6; have h6 : Below v3.heap.size v3 w6 := Gw.gr (Gw.al h5 (.cells #[.int .u8 0, .int .u16 3, .int .u32 0] 30)) hg6 (Own.lt o5); have M6 := M.call h6; have k16 := M6.blk.2.1 16 _ rfl; have kf := M6.blk.2.2)
    | fail)
  clear k16 kf q16 RI
  have M7 : Ob (w6.setCell ⟨g0, 16, none⟩ (.slice AI (m.I.length + 1) cI)) g0 (msA (addI (addM (addT (addL m AL cL (⟨0, 0, 0, some ⟨gs, 0, none⟩, [⟨1, 2⟩], 1⟩ : DsV)) AT cT (⟨3, 0, 0⟩ : Mb)) AM cM (⟨0, 3, 0⟩ : Id)) AI cI (⟨0, 3, 0⟩ : Id))) 39 := addI_put (⟨0, 3, 0⟩ : Id) M6
  have N7 := (N.call h6).far (p := g0) (j := 16) hne (.slice AI (m.I.length + 1) cI)
  have b7 := Gw.st (Gw.call b1 h6) (p := ⟨g0, 16, none⟩) hgl (.slice AI (m.I.length + 1) cI)
  have OI := (o6.base_le sz3).hop (grown_set w6 ⟨g0, 16, none⟩ (.slice AI (m.I.length + 1) cI)) hg2
  replace OL := (Own.below OL h6).hop (grown_set w6 ⟨g0, 16, none⟩ (.slice AI (m.I.length + 1) cI)) hg2
  replace OT := (Own.below OT h6).hop (grown_set w6 ⟨g0, 16, none⟩ (.slice AI (m.I.length + 1) cI)) hg2
  replace OM := (Own.below OM h6).hop (grown_set w6 ⟨g0, 16, none⟩ (.slice AI (m.I.length + 1) cI)) hg2
  replace OX : DsV.own (g0 + 2) _ (⟨0, 0, 0, some ⟨gs, 0, none⟩, [⟨1, 2⟩], 1⟩ : DsV) := (Own.below OX h6).hop (grown_set w6 ⟨g0, 16, none⟩ (.slice AI (m.I.length + 1) cI)) hg2
  clear M N b1 h5 h6 s5 hg6 o5 o6 M6
  generalize w6.setCell ⟨g0, 16, none⟩ (.slice AI (m.I.length + 1) cI) = v4 at *
  have M := M7
  have N := N7
  have b1 := b7
  clear M7 N7 b7
  have sz4 : g0 + 2 ≤ v4.heap.size := N.lt
  clear sz3
  have q9 : (v4.alloc (.cells #[] 21)).cell? ⟨g0, 9, none⟩ = some (.slice m.VA m.V.length m.Vc) := (M.alloc (.cells #[] 21)).blk.2.1 9 _ rfl
  have RV := hmr.V.up b1
  go_upto_region 8 with (first
    | (at_builtin; refine wpList_app _ rfl (.tmp 56) (.tmp 59) _ rfl v4.heap.size 21 i5 _ 4 Try.underlying31 hi5 ht0 ht1 ht2 rfl (by omega) (int_len .i32) (int_one .i32) (.slice (some ⟨v4.heap.size, 0, none⟩) 0 0) [] rfl (Own.litg v4 _ rfl (Nat.le_refl _)) 0 rfl _ _ _ _ m.V rfl rfl (RV.allocS (.cells #[] 21)) (by omega) (by omega) (by simp only [World.size_alloc]; omega) ?_; intro A5 c5 w5 o5 hg5; rw [List.nil_append, Nat.zero_add] at o5; rw [Nat.zero_add]; have h5 : Below v4.heap.size v4 w5 := Gw.gr (Gw.al (Below.refl _ _) (.cells #[] 21)) hg5 (by intro k hk; have := own_blk hk; simp at this ⊢; omega); have s5 := h5.size; clear hg5)
    | (at_builtin; refine wpList_app _ rfl (.tmp 60) (.tmp 61) _ rfl v4.heap.size 21 i5 _ 4 Try.underlying31 hi5 ht0 ht1 ht2 rfl (by omega) (int_len .i32) (int_one .i32) (.slice A5 m.V.length c5) m.V rfl (o5.alloc (.cells #[.int .i32 3] 21)) m.V.length rfl _ (some ⟨w5.heap.size, 0, none⟩) 1 1 [(3 : Int)] rfl rfl (Rd.lit (int_len .i32) w5 w5.heap.size rfl #[.int .i32 3] 21 [(3 : Int)] (by simp [i32c])) (by omega) (by omega) (by simp only [World.size_alloc]; omega) ?_; intro AV cV w6 o6 hg6; have h6 : Below v4.heap.size v4 w6 := Gw.gr (Gw.al h5 (.cells #[.int .i32 3] 21)) hg6 (Own.lt o5); have M6 := M.call h6; have k9 := M6.blk.2.1 9 _ rfl; have kf := M6.blk.2.2)
    | fail)
  clear k9 kf q9 RV
  have M7 : Ob (w6.setCell ⟨g0, 9, none⟩ (.slice AV (m.V.length + 1) cV)) g0 (msA (addV (addI (addM (addT (addL m AL cL (⟨0, 0, 0, some ⟨gs, 0, none⟩, [⟨1, 2⟩], 1⟩ : DsV)) AT cT (⟨3, 0, 0⟩ : Mb)) AM cM (⟨0, 3, 0⟩ : Id)) AI cI (⟨0, 3, 0⟩ : Id)) AV cV (3 : Int))) 39 := addV_put (3 : Int) M6
  have N7 := (N.call h6).far (p := g0) (j := 9) hne (.slice AV (m.V.length + 1) cV)
  have b7 := Gw.st (Gw.call b1 h6) (p := ⟨g0, 9, none⟩) hgl (.slice AV (m.V.length + 1) cV)
  have OV := (o6.base_le sz4).hop (grown_set w6 ⟨g0, 9, none⟩ (.slice AV (m.V.length + 1) cV)) hg2
  replace OL := (Own.below OL h6).hop (grown_set w6 ⟨g0, 9, none⟩ (.slice AV (m.V.length + 1) cV)) hg2
  replace OT := (Own.below OT h6).hop (grown_set w6 ⟨g0, 9, none⟩ (.slice AV (m.V.length + 1) cV)) hg2
  replace OM := (Own.below OM h6).hop (grown_set w6 ⟨g0, 9, none⟩ (.slice AV (m.V.length + 1) cV)) hg2
  replace OI := (Own.below OI h6).hop (grown_set w6 ⟨g0, 9, none⟩ (.slice AV (m.V.length + 1) cV)) hg2
  replace OX : DsV.own (g0 + 2) _ (⟨0, 0, 0, some ⟨gs, 0, none⟩, [⟨1, 2⟩], 1⟩ : DsV) := (Own.below OX h6).hop (grown_set w6 ⟨g0, 9, none⟩ (.slice AV (m.V.length + 1) cV)) hg2
  clear M N b1 h5 h6 s5 hg6 o5 o6 M6
  generalize w6.setCell ⟨g0, 9, none⟩ (.slice AV (m.V.length + 1) cV) = v5 at *
  have M := M7
  have N := N7
  have b1 := b7
  clear M7 N7 b7
  have sz5 : g0 + 2 ≤ v5.heap.size := N.lt
  clear sz4
  have q10 : (v5.alloc (.cells #[] 5)).cell? ⟨g0, 10, none⟩ = some (.slice m.DA m.D.length m.Dc) := (M.alloc (.cells #[] 5)).blk.2.1 10 _ rfl
  have RD := hmr.D.up b1
  go_upto_region 9 with (first
    | (at_builtin; refine wpList_app _ rfl (.tmp 65) (.tmp 68) _ rfl v5.heap.size 5 i6 _ 1 Try.underlying32 hi6 hu0 hu1 hu2 rfl (by omega) (int_len .u8) (int_one .u8) (.slice (some ⟨v5.heap.size, 0, none⟩) 0 0) [] rfl (Own.litg v5 _ rfl (Nat.le_refl _)) 0 rfl _ _ _ _ m.D rfl rfl (RD.allocS (.cells #[] 5)) (by omega) (by omega) (by simp only [World.size_alloc]; omega) ?_; intro A5 c5 w5 o5 hg5; rw [List.nil_append, Nat.zero_add] at o5; rw [Nat.zero_add]; have h5 : Below v5.heap.size v5 w5 := Gw.gr (Gw.al (Below.refl _ _) (.cells #[] 5)) hg5 (by intro k hk; have := own_blk hk; simp at this ⊢; omega); have s5 := h5.size; clear hg5)
    | (at_builtin; refine wpList_app _ rfl (.tmp 69) (.tmp 70) _ rfl v5.heap.size 5 i6 _ 1 Try.underlying32 hi6 hu0 hu1 hu2 rfl (by omega) (int_len .u8) (int_one .u8) (.slice A5 m.D.length c5) m.D rfl (o5.alloc (.cells #[.int .u8 3] 5)) m.D.length rfl _ (some ⟨w5.heap.size, 0, none⟩) 1 1 [(3 : Int)] rfl rfl (Rd.lit (int_len .u8) w5 w5.heap.size rfl #[.int .u8 3] 5 [(3 : Int)] (by simp [u8c])) (by omega) (by omega) (by simp only [World.size_alloc]; omega) ?_; intro AD cD w6 o6 hg6; have h6 : Below v5.heap.size v5 w6 := Gw.gr (Gw.al h5 (.cells #[.int .u8 3] 5)) hg6 (Own.lt o5); have M6 := M.call h6; have k10 := M6.blk.2.1 10 _ rfl; have kf := M6.blk.2.2)
    | fail)
  clear k10 kf q10 RD
  have M7 : Ob (w6.setCell ⟨g0, 10, none⟩ (.slice AD (m.D.length + 1) cD)) g0 (msA (addD (addV (addI (addM (addT (addL m AL cL (⟨0, 0, 0, some ⟨gs, 0, none⟩, [⟨1, 2⟩], 1⟩ : DsV)) AT cT (⟨3, 0, 0⟩ : Mb)) AM cM (⟨0, 3, 0⟩ : Id)) AI cI (⟨0, 3, 0⟩ : Id)) AV cV (3 : Int)) AD cD (3 : Int))) 39 := addD_put (3 : Int) M6
  have N7 := (N.call h6).far (p := g0) (j := 10) hne (.slice AD (m.D.length + 1) cD)
  have b7 := Gw.st (Gw.call b1 h6) (p := ⟨g0, 10, none⟩) hgl (.slice AD (m.D.length + 1) cD)
  have OD := (o6.base_le sz5).hop (grown_set w6 ⟨g0, 10, none⟩ (.slice AD (m.D.length + 1) cD)) hg2
  replace OL := (Own.below OL h6).hop (grown_set w6 ⟨g0, 10, none⟩ (.slice AD (m.D.length + 1) cD)) hg2
  replace OT := (Own.below OT h6).hop (grown_set w6 ⟨g0, 10, none⟩ (.slice AD (m.D.length + 1) cD)) hg2
  replace OM := (Own.below OM h6).hop (grown_set w6 ⟨g0, 10, none⟩ (.slice AD (m.D.length + 1) cD)) hg2
  replace OI := (Own.below OI h6).hop (grown_set w6 ⟨g0, 10, none⟩ (.slice AD (m.D.length + 1) cD)) hg2
  replace OV := (Own.below OV h6).hop (grown_set w6 ⟨g0, 10, none⟩ (.slice AD (m.D.length + 1) cD)) hg2
  replace OX : DsV.own (g0 + 2) _ (⟨0, 0, 0, some ⟨gs, 0, none⟩, [⟨1, 2⟩], 1⟩ : DsV) := (Own.below OX h6).hop (grown_set w6 ⟨g0, 10, none⟩ (.slice AD (m.D.length + 1) cD)) hg2
  clear M N b1 h5 h6 s5 hg6 o5 o6 M6
  generalize w6.setCell ⟨g0, 10, none⟩ (.slice AD (m.D.length + 1) cD) = v6 at *
  have M := M7
  have N := N7
  have b1 := b7
  clear M7 N7 b7
  have sz6 : g0 + 2 ≤ v6.heap.size := N.lt
  clear sz5
  have QR : ((addD (addV (addI (addM (addT (addL m AL cL (⟨0, 0, 0, some ⟨gs, 0, none⟩, [⟨1, 2⟩], 1⟩ : DsV)) AT cT (⟨3, 0, 0⟩ : Mb)) AM cM (⟨0, 3, 0⟩ : Id)) AI cI (⟨0, 3, 0⟩ : Id)) AV cV (3 : Int)) AD cD (3 : Int))).rd v6.heap.size v6 := addD_rd (addV_rd (addI_rd (addM_rd (addT_rd (addL_rd (hmr.up b1) (OL.rd dsc_len) (DsV.own.rd OX)) (OT.rd memc_len)) (OM.rd idc_len)) (OI.rd idc_len)) (OV.rd (int_len .i32))) (OD.rd (int_len .u8))
  have QF : ((addD (addV (addI (addM (addT (addL m AL cL (⟨0, 0, 0, some ⟨gs, 0, none⟩, [⟨1, 2⟩], 1⟩ : DsV)) AT cT (⟨3, 0, 0⟩ : Mb)) AM cM (⟨0, 3, 0⟩ : Id)) AI cI (⟨0, 3, 0⟩ : Id)) AV cV (3 : Int)) AD cD (3 : Int))).few := add_few HMF.out _ _ _ _ _ _ _ _ _ _ _ _ _ (by show 1 ≤ 1000; omega) _ _ _ _ _
  obtain ⟨q, hq⟩ : ∃ q, q = (addD (addV (addI (addM (addT (addL m AL cL (⟨0, 0, 0, some ⟨gs, 0, none⟩, [⟨1, 2⟩], 1⟩ : DsV)) AT cT (⟨3, 0, 0⟩ : Mb)) AM cM (⟨0, 3, 0⟩ : Id)) AI cI (⟨0, 3, 0⟩ : Id)) AV cV (3 : Int)) AD cD (3 : Int)) := ⟨_, rfl⟩
  rw [← hq] at M QR QF
  have HQF := Lib.hid QF
  clear hq QF OL OT OM OI OV OD OX HMF l1 l2 l3 l4 l5 l6 hi1 hp0 hp1 hp2 hi2 hq0 hq1 hq2 hi3 hr0 hr1 hr2 hi4 hs0 hs1 hs2 hi5 ht0 ht1 ht2 hi6 hu0 hu1 hu2
  have CQ := Lib.hid (fun W h => refmsg_any q W h HQF.out)
  go_wp2_with (first | (with_reducible refine ldM q _ 0 (obM M) rfl _ rfl rfl ?_) | fail)
  refine (CQ.out _ QR).mono ?_
  rintro e w7 ⟨x1, rfl, hx1, ox1, hb⟩
  have HX1 := Lib.hid hx1
  have b7 := Gw.al (Gw.call b1 hb) (.cells (msA x1) 39)
  have G5 := Ob.new w7 (msA x1) 39
  replace M := (M.call hb).alloc (.cells (msA x1) 39)
  replace N := (N.call hb).alloc (.cells (msA x1) 39)
  have al7 := Below.alloc (Below.refl w7.heap.size w7) (Nat.le_refl _) (.cells (msA x1) 39)
  have hb7 := hb.trans (al7.mono hb.size)
  replace QR := QR.up hb7
  replace ox1 := (ox1.below al7)
  have hgn : g0 + 1 < w7.heap.size := by have := hb.size; omega
  have hg6 : g0 < v6.heap.size := by omega
  have bd1 := ox1.bnd
  have g5l := G5.lt
  clear hb hb7 al7 hx1 b1 sz6
  go_upto_region 10 with (first | (with_reducible refine stM_new x1 _ rfl _ _ rfl rfl rfl rfl ?_) | fail)
  generalize w7.alloc (.cells (msA x1) 39) = v9 at *
  generalize w7.heap.size = g5 at *
  generalize v6.heap.size = B1 at *
  have B2 := N.lt
  obtain ⟨L2, hL2⟩ : ∃ L, L = v9.heap.size := ⟨_, rfl⟩
  have hg8 : g0 < L2 := by omega
  go_wp2_with (first | (with_reducible refine ldM q _ 0 (obM M) rfl _ rfl rfl ?_) | fail)
  refine (CQ.out _ QR).mono ?_
  rintro e w8 ⟨x2, rfl, hx2, ox2, hb⟩
  rw [← hL2] at ox2
  have HX2 := Lib.hid hx2
  have HF2 := Lib.hid (few_of_abs hx2.symm HQF.out)
  have HF1 := Lib.hid (few_of_abs HX1.out.symm HQF.out)
  replace M := M.call hb
  have Mr := M.setRow (msA x2)
  replace N := (N.call hb).setRow_far hne (msA x2)
  have hne5 : g5 ≠ g0 := by omega
  replace G5 := (G5.call hb).setRow_far hne5 (msA x2)
  replace ox1 := (ox1.below hb).hop (setRow_grown w8 g0 (msA x2)) hg6
  replace ox2 := ox2.hop (setRow_grown w8 g0 (msA x2)) hg8
  have BD1 := Lib.hid (show x1.bnd L2 from hL2 ▸ bd1)
  have hg5l : g5 < L2 := by rw [hL2]; exact g5l
  have b11 := Gw.hop (Gw.call b7 hb) (setRow_grown w8 g0 (msA x2)) hgl
  have hL3 : L2 ≤ (w8.setRow g0 (msA x2)).heap.size := by rw [hL2]; have := hb.size; have := (setRow_grown w8 g0 (msA x2)).size; omega
  clear hb hx2 QR b7 hL2 B2 CQ bd1 g5l
  go_upto_region 12 with (first | (with_reducible refine stM_row x2 g0 _ M rfl rfl _ _ rfl rfl rfl ?_) | fail)
  clear M HQF
  have M := Mr
  clear Mr
  generalize w8.setRow g0 (msA x2) = v11 at *
  obtain ⟨L3, hL⟩ : ∃ L, L = v11.heap.size := ⟨_, rfl⟩
  have CP1 := Lib.hid (fun W h => put_one x2 W h HF2.out)
  have HBF2 := Lib.hid HBF.out
  have bq := Below.drew (Below.refl v11.heap.size v11)
  simp only [Act.put]
  go_cut [7] (fun p wx => ∃ (g : Nat) (A : Option Addr) (c : Nat) (y z : MsV), p = .pointer (some ⟨g, 0, none⟩) ∧ Hid (y.abs = x2.abs) ∧ Hid (z.abs = b.abs) ∧ v11.heap.size ≤ g ∧ Ob wx g #[.int .i64 2, .slice A 2 c, .int .i64 0] 24 ∧ OutX v11.heap.size wx (.slice A 2 c) [y, z] ∧ Below v11.heap.size v11 wx)
  case first =>
    have HB : Hid (∀ W, Below v11.heap.size v11 W → (fun W : World => Ob W g0 (msA x2) 39 ∧ Ob W (g0 + 1) (msA b) 39) W) := Lib.hid fun W hb => ⟨M.call hb, N.call hb⟩
    refine wp_region_held_drew (S := fun W : World => Ob W g0 (msA x2) 39 ∧ Ob W (g0 + 1) (msA b) 39) (by kernel_rfl) (HB.out _ bq) (fun hHeld => ?_)
    refine take_d (i := 0) (oi := _) (v := ?_) (d := some 78) rfl (by kernel_rfl) (by as_aux_lemma => kernel_rfl) (by as_aux_lemma => kernel_rfl) (by as_aux_lemma => kernel_rfl) (fun _ _ _ h => h) (Or.inl ⟨by kernel_rfl, ?_⟩) hHeld ?_
    rotate_left
    · intro w hSw; (try dsimp only at hSw); go_simp; (try with_reducible rfl)
    try simp only [Act.put, List.setIfInBounds_toArray, List.set_cons_zero, List.set_cons_succ]
    refine take_d (i := 1) (oi := _) (v := (.agg (msA x2))) (d := some 79) rfl (by kernel_rfl) (by as_aux_lemma => kernel_rfl) (by as_aux_lemma => kernel_rfl) (by as_aux_lemma => kernel_rfl) (fun _ _ _ h => h) (yl_M x2 _ 0 (fun W h => obM h.1) (by kernel_rfl) _ rfl rfl) hHeld ?_
    try simp only [Act.put, List.setIfInBounds_toArray, List.set_cons_zero, List.set_cons_succ]
    refine take_d (i := 3) (oi := _) (v := (.agg (msA b))) (d := some 81) rfl (by kernel_rfl) (by as_aux_lemma => kernel_rfl) (by as_aux_lemma => kernel_rfl) (by as_aux_lemma => kernel_rfl) (fun _ _ _ h => h) (yl_M b _ 0 (fun W h => obM h.2) (by kernel_rfl) _ rfl rfl) hHeld ?_
    try simp only [Act.put, List.setIfInBounds_toArray, List.set_cons_zero, List.set_cons_succ]
    refine wpAnyH_ready (rs := [2, 5]) (by kernel_rfl) (by simp) ?_
    refine AllReadyH.cons rfl (fun K hK => ?_) (AllReadyH.cons rfl (fun K hK => ?_) AllReadyH.nil)
    · skip
      go_simp
      refine (CP1.out _ ((ox2.rd.up bq))).mono ?_
      rintro e u1 ⟨A1, c1, y1, rfl, hy1, o1, hb⟩
      have HY1 := Lib.hid hy1
      have or1 := o1.rd
      replace bq := Gw.call bq hb
      clear hb hy1 o1
      refine hK.out _ _ (HB.out _ bq) (fun hHeld => ?_)
      clear hK K
      try simp only [Act.put, List.setIfInBounds_toArray, List.set_cons_zero, List.set_cons_succ]
      refine wpAnyH_ready (rs := [4, 5]) (by kernel_rfl) (by simp) ?_
      refine AllReadyH.cons rfl (fun K hK => ?_) (AllReadyH.cons rfl (fun K hK => ?_) AllReadyH.nil)
      · skip
        go_simp
        refine (put_two y1 A1 c1 b _ (or1.up (by first | exact Below.refl _ _ | exact Gw.al (Below.refl _ _) _)) (few_of_abs HY1.out.symm HF2.out) (hbr.up (Gw.call b11 bq)) HBF2.out).mono ?_
        rintro e u2 ⟨A2, c2, y, z, rfl, hy, hz, o2, hb⟩
        have HY := Lib.hid (hy.trans HY1.out)
        have HZ := Lib.hid hz
        replace o2 := o2.base_le bq.size
        replace bq := Gw.call bq hb
        clear hb hy hz or1 HY1
        refine hK.out _ _ (HB.out _ bq) (fun hHeld => ?_)
        clear hK K
        try simp only [Act.put, List.setIfInBounds_toArray, List.set_cons_zero, List.set_cons_succ]
        refine wpAnyH_ready (rs := [5]) (by kernel_rfl) (by simp) ?_
        refine AllReadyH.cons rfl (fun K hK => ?_) AllReadyH.nil
        go_simp
        have Z := Ob.new u2 #[.int .i64 0, .slice none 0 0, .int .i64 0] 24
        have lg : v11.heap.size ≤ u2.heap.size := bq.size
        replace o2 := o2.below (Gw.al (Below.refl u2.heap.size u2) (.cells #[.int .i64 0, .slice none 0 0, .int .i64 0] 24))
        replace bq := Gw.al bq (.cells #[.int .i64 0, .slice none 0 0, .int .i64 0] 24)
        refine hK.out _ _ (HB.out _ bq) (fun hHeld => ?_)
        clear hK K
        try simp only [Act.put, List.setIfInBounds_toArray, List.set_cons_zero, List.set_cons_succ]
        refine wpAnyH_ready (rs := [6]) (by kernel_rfl) (by simp) ?_
        refine AllReadyH.cons rfl (fun K hK => ?_) AllReadyH.nil
        refine step_stB (#[.int .i64 2, .slice A2 2 c2, .int .i64 0]) _ #[.int .i64 0, .slice none 0 0, .int .i64 0] Z rfl rfl (box_one _ _ _ _ _) rfl _ _ rfl rfl rfl ?_
        refine hK.out _ _ (HB.out _ (Gw.hop bq (setRow_grown _ _ _) lg)) (fun hHeld => ?_)
        clear hK K
        try simp only [Act.put, List.setIfInBounds_toArray, List.set_cons_zero, List.set_cons_succ]
        refine wpAnyH_done (by kernel_rfl) ?_ _
        go_wp2_with fail
        go_meet
        exact ⟨_, A2, c2, y, z, rfl, HY, HZ, lg, Z.setRow _, o2.past Z (setRow_grown _ _ _), Gw.hop bq (setRow_grown _ _ _) lg⟩
      · skip
        go_simp
        have Z := Ob.new u1 #[.int .i64 0, .slice none 0 0, .int .i64 0] 24
        have lg : v11.heap.size ≤ u1.heap.size := bq.size
        replace bq := Gw.al bq (.cells #[.int .i64 0, .slice none 0 0, .int .i64 0] 24)
        refine hK.out _ _ (HB.out _ bq) (fun hHeld => ?_)
        clear hK K
        try simp only [Act.put, List.setIfInBounds_toArray, List.set_cons_zero, List.set_cons_succ]
        refine wpAnyH_ready (rs := [4]) (by kernel_rfl) (by simp) ?_
        refine AllReadyH.cons rfl (fun K hK => ?_) AllReadyH.nil
        go_simp
        refine (put_two y1 A1 c1 b _ (or1.up (by first | exact Below.refl _ _ | exact Gw.al (Below.refl _ _) _)) (few_of_abs HY1.out.symm HF2.out) (hbr.up (Gw.call b11 bq)) HBF2.out).mono ?_
        rintro e u2 ⟨A2, c2, y, z, rfl, hy, hz, o2, hb⟩
        have HY := Lib.hid (hy.trans HY1.out)
        have HZ := Lib.hid hz
        replace Z := Z.call hb
        replace o2 := o2.base_le bq.size
        replace bq := Gw.call bq hb
        clear hb hy hz or1 HY1
        refine hK.out _ _ (HB.out _ bq) (fun hHeld => ?_)
        clear hK K
        try simp only [Act.put, List.setIfInBounds_toArray, List.set_cons_zero, List.set_cons_succ]
        refine wpAnyH_ready (rs := [6]) (by kernel_rfl) (by simp) ?_
        refine AllReadyH.cons rfl (fun K hK => ?_) AllReadyH.nil
        refine step_stB (#[.int .i64 2, .slice A2 2 c2, .int .i64 0]) _ #[.int .i64 0, .slice none 0 0, .int .i64 0] Z rfl rfl (box_one _ _ _ _ _) rfl _ _ rfl rfl rfl ?_
        refine hK.out _ _ (HB.out _ (Gw.hop bq (setRow_grown _ _ _) lg)) (fun hHeld => ?_)
        clear hK K
        try simp only [Act.put, List.setIfInBounds_toArray, List.set_cons_zero, List.set_cons_succ]
        refine wpAnyH_done (by kernel_rfl) ?_ _
        go_wp2_with fail
        go_meet
        exact ⟨_, A2, c2, y, z, rfl, HY, HZ, lg, Z.setRow _, o2.past Z (setRow_grown _ _ _), Gw.hop bq (setRow_grown _ _ _) lg⟩
    · skip
      go_simp
      have Z := Ob.new v11.drew #[.int .i64 0, .slice none 0 0, .int .i64 0] 24
      have lg : v11.heap.size ≤ v11.drew.heap.size := bq.size
      replace bq := Gw.al bq (.cells #[.int .i64 0, .slice none 0 0, .int .i64 0] 24)
      refine hK.out _ _ (HB.out _ bq) (fun hHeld => ?_)
      clear hK K
      try simp only [Act.put, List.setIfInBounds_toArray, List.set_cons_zero, List.set_cons_succ]
      refine wpAnyH_ready (rs := [2]) (by kernel_rfl) (by simp) ?_
      refine AllReadyH.cons rfl (fun K hK => ?_) AllReadyH.nil
      go_simp
      refine (CP1.out _ ((ox2.rd.up bq))).mono ?_
      rintro e u1 ⟨A1, c1, y1, rfl, hy1, o1, hb⟩
      have HY1 := Lib.hid hy1
      replace Z := Z.call hb
      have or1 := o1.rd
      replace bq := Gw.call bq hb
      clear hb hy1 o1
      refine hK.out _ _ (HB.out _ bq) (fun hHeld => ?_)
      clear hK K
      try simp only [Act.put, List.setIfInBounds_toArray, List.set_cons_zero, List.set_cons_succ]
      refine wpAnyH_ready (rs := [4]) (by kernel_rfl) (by simp) ?_
      refine AllReadyH.cons rfl (fun K hK => ?_) AllReadyH.nil
      go_simp
      refine (put_two y1 A1 c1 b _ (or1.up (by first | exact Below.refl _ _ | exact Gw.al (Below.refl _ _) _)) (few_of_abs HY1.out.symm HF2.out) (hbr.up (Gw.call b11 bq)) HBF2.out).mono ?_
      rintro e u2 ⟨A2, c2, y, z, rfl, hy, hz, o2, hb⟩
      have HY := Lib.hid (hy.trans HY1.out)
      have HZ := Lib.hid hz
      replace Z := Z.call hb
      replace o2 := o2.base_le bq.size
      replace bq := Gw.call bq hb
      clear hb hy hz or1 HY1
      refine hK.out _ _ (HB.out _ bq) (fun hHeld => ?_)
      clear hK K
      try simp only [Act.put, List.setIfInBounds_toArray, List.set_cons_zero, List.set_cons_succ]
      refine wpAnyH_ready (rs := [6]) (by kernel_rfl) (by simp) ?_
      refine AllReadyH.cons rfl (fun K hK => ?_) AllReadyH.nil
      refine step_stB (#[.int .i64 2, .slice A2 2 c2, .int .i64 0]) _ #[.int .i64 0, .slice none 0 0, .int .i64 0] Z rfl rfl (box_one _ _ _ _ _) rfl _ _ rfl rfl rfl ?_
      refine hK.out _ _ (HB.out _ (Gw.hop bq (setRow_grown _ _ _) lg)) (fun hHeld => ?_)
      clear hK K
      try simp only [Act.put, List.setIfInBounds_toArray, List.set_cons_zero, List.set_cons_succ]
      refine wpAnyH_done (by kernel_rfl) ?_ _
      go_wp2_with fail
      go_meet
      exact ⟨_, A2, c2, y, z, rfl, HY, HZ, lg, Z.setRow _, o2.past Z (setRow_grown _ _ _), Gw.hop bq (setRow_grown _ _ _) lg⟩
  case rest =>
    obtain ⟨g7, A2, c2, y, z, rfl, HY, HZ, lg, G7, o12, b12⟩ := hcut
    clear bq CP1
    have HCP := Lib.hid o12.cap
    rw [← hL] at hL3 lg o12
    have b12' : Below L3 v11 wc := hL ▸ b12
    have BD2 : Hid (x2.bnd L3) := Lib.hid (hL ▸ ox2.bnd)
    have b1 := Gw.call b11 b12
    have sz : L3 ≤ wc.heap.size := by rw [hL]; exact b12.size
    replace M := M.below b12' (by omega)
    replace N := N.below b12' (by omega)
    replace G5 := G5.below b12' (by omega)
    replace ox1 := ox1.same BD1.out (fun k _ h => b12'.block k (by omega))
    replace ox2 := ox2.same BD2.out (fun k _ h => b12'.block k (by omega))
    have hwl : w.heap.size ≤ L2 := by omega
    obtain ⟨L4, hL4⟩ : ∃ L, L = wc.heap.size := ⟨_, rfl⟩
    have G7l : Hid (g7 < L4) := Lib.hid (hL4 ▸ G7.lt)
    have BB : Hid (OutB L4 (.slice A2 2 c2) [y, z]) := Lib.hid (hL4 ▸ o12.bnd)
    have CS := Lib.hid (spoil_any x2 L2 L3 wc ox2 (ox2.rdB BD2.out) HF2.out sz)
    clear b12 b12' b11 hL ox2 BD2
    go_wp2_with (first | (with_reducible refine ldM x2 _ 0 (obM M) rfl _ rfl rfl ?_) | fail)
    refine (CS.out).mono ?_
    rintro e w13 ⟨rfl, sh⟩
    have s13 : L4 ≤ w13.heap.size := by rw [hL4]; exact sh.size
    rw [← hL4] at sz
    replace N := sh.ob N N.lt (.inl (by omega))
    replace G5 := sh.ob G5 G5.lt (.inl hg5l)
    replace G7 := sh.ob G7 G7.lt (.inr lg)
    replace ox1 := ox1.same BD1.out (fun k _ h => sh.block k (by omega) (.inl h))
    replace o12 := o12.same BB.out (fun k h1 h => sh.block k (by omega) (.inr h1))
    replace b1 := sh.belowOf b1 hwl
    clear sh CS M hL4
    have HYF := Lib.hid (few_of_abs HY.out.symm HF2.out)
    have HZF := Lib.hid (few_of_abs HZ.out.symm HBF.out)
    have CT := Lib.hid (fun W h => take_two A2 y z c2 W h HYF.out HZF.out HCP.out.2.1)
    have qb : (#[.int .i64 2, .slice A2 2 c2, .int .i64 0] : Array Value).size = 3 := rfl
    go_wp2_with (first | (with_reducible refine ldB #[.int .i64 2, .slice A2 2 c2, .int .i64 0] _ G7 qb rfl _ rfl rfl ?_) | fail)
    refine (CT.out _ o12.rd).mono ?_
    rintro e w14 ⟨got, A3, c3, r, Lm, rfl, hgt, hrt, hLm, hLm2, bdg, og, orr, hb⟩
    have HGT := Lib.hid (hgt.trans (HY.out.trans HX2.out))
    have HRT := Lib.hid (hrt.trans HZ.out)
    have al := Below.alloc (Below.alloc (Below.refl w14.heap.size w14) (Nat.le_refl _) (.cells (msA got) 39)) (by simp) (.cells #[.int .i64 2, .slice A3 1 c3, .int .i64 0] 24)
    have G8 := (Ob.new w14 (msA got) 39).alloc (.cells #[.int .i64 2, .slice A3 1 c3, .int .i64 0] 24)
    have G9 := Ob.new (w14.alloc (.cells (msA got) 39)) #[.int .i64 2, .slice A3 1 c3, .int .i64 0] 24
    rw [World.size_alloc] at G9
    obtain ⟨L5, hL5⟩ : ∃ L, L = w13.heap.size := ⟨_, rfl⟩
    obtain ⟨L6, hL6⟩ : ∃ L, L = w14.heap.size := ⟨_, rfl⟩
    have hs56 : L5 ≤ L6 := by rw [hL5, hL6]; exact hb.size
    have BR : Hid (OutB L6 (.slice A3 1 c3) [r]) := Lib.hid (hL6 ▸ orr.bnd)
    have BG := Lib.hid bdg
    rw [← hL6] at hLm2
    have hba := hb.trans (al.mono hb.size)
    replace b1 := Gw.call b1 hba
    replace N := N.call hba
    replace G5 := G5.call hba
    replace G7 := G7.call hba
    replace ox1 := ox1.below hba
    replace o12 := o12.below hba
    replace og := og.below al
    replace orr := orr.below al
    rw [← hL5] at hLm og
    have s14 : L6 + 2 ≤ ((w14.alloc (.cells (msA got) 39)).alloc (.cells #[.int .i64 2, .slice A3 1 c3, .int .i64 0] 24)).heap.size := by simp only [World.size_alloc]; omega
    rw [← hL5] at s13
    clear hb al hba hgt hrt bdg CT hL5
    go_upto_region 15 with (first | (with_reducible refine stM_under got _ _ rfl _ _ rfl rfl rfl rfl ?_) | fail)
    rw [← hL6] at G8 G9 ⊢
    generalize (w14.alloc (.cells (msA got) 39)).alloc (.cells #[.int .i64 2, .slice A3 1 c3, .int .i64 0] 24) = w15 at *
    clear hL6
    have HGF := Lib.hid (few_of_abs (HX2.out.trans HGT.out.symm) HF2.out)
    have CS1 := Lib.hid (same_yes got x1 w15 og.rd ox1.rd (HGT.out.trans HX1.out.symm) HGF.out)
    go_wp2_with (first | (with_reducible refine ldMg got _ 0 (obM G8) (by kernel_rfl) _ rfl rfl ?_) | (with_reducible refine ldMg x1 _ 0 (obM G5) (by kernel_rfl) _ rfl rfl ?_) | fail)
    refine CS1.out.mono ?_
    rintro e w16 ⟨rfl, hb⟩
    replace b1 := Gw.call b1 hb
    replace N := N.call hb
    replace G5 := G5.call hb
    replace G7 := G7.call hb
    replace G8 := G8.call hb
    replace G9 := G9.call hb
    replace ox1 := ox1.below hb
    replace o12 := o12.below hb
    replace og := og.below hb
    replace orr := orr.below hb
    replace s14 := Nat.le_trans s14 hb.size
    clear hb CS1
    have k1 := G9.blk.2.1 1 _ rfl
    have CS := Lib.hid (spoil_any got L5 Lm w16 og (og.rdB BG.out) HGF.out (by omega))
    clear og BG
    go_wp2_with (first | (with_reducible refine ldM got _ 0 (obM G8) rfl _ rfl rfl ?_) | fail)
    refine (CS.out).mono ?_
    rintro e w17 ⟨rfl, sh⟩
    have hsz := sh.size
    replace N := sh.ob N N.lt (.inl (by omega))
    replace G5 := sh.ob G5 G5.lt (.inl (by omega))
    replace G7 := sh.ob G7 G7.lt (.inl (by have := G7l.out; omega))
    replace G9 := sh.ob G9 G9.lt (.inr (by omega))
    replace ox1 := ox1.same BD1.out (fun k _ h => sh.block k (by omega) (.inl (by omega)))
    replace o12 := o12.same BB.out (fun k h1 h => sh.block k (by omega) (.inl (by omega)))
    replace orr := orr.same BR.out (fun k h1 h => sh.block k (by omega) (.inr h1))
    replace b1 := sh.belowOf b1 (by omega)
    replace s14 := Nat.le_trans s14 hsz
    clear sh CS k1 hsz G8
    have k1 := G9.blk.2.1 1 _ rfl
    go_wp2_with fail
    go_loopw [112] (fun i wr => (i = .int .i64 0 ∧ wr = w17 ∨ i = .int .i64 1 ∧ Hid (L6 + 2 ≤ wr.heap.size) ∧ Ob wr (g0 + 1) (msA b) 39 ∧ Ob wr g5 (msA x1) 39 ∧ Ob wr g7 #[.int .i64 2, .slice A2 2 c2, .int .i64 0] 24 ∧ MsV.own B1 wr x1 ∧ OutX L3 wr (.slice A2 2 c2) [y, z] ∧ Below w.heap.size w wr)) (fun i _ => 1 - (intOf i).toNat)
    case atStart => exact .inl ⟨rfl, rfl⟩
    case round =>
      rcases hrel with ⟨rfl, rfl⟩ | ⟨rfl, S8, N8, G58, G78, ox8, o128, b8⟩
      · obtain ⟨br, jr, rfl, hbr2, hcr⟩ := orr.rd.out.at_ (k := 0) (x := r) rfl
        have hc0 : ∀ j v, (msc r)[j]? = some v → wr.cell? ⟨br, jr + j, none⟩ = some v := fun j v h => by have := hcr j v h; rwa [show jr + 0 * 17 + j = jr + j by omega] at this
        have HRF := Lib.hid (few_of_abs HRT.out.symm HBF.out)
        have al := Below.alloc (Below.refl wr.heap.size wr) (Nat.le_refl _) (.cells (msA r) 39)
        have G12 := Ob.new wr (msA r) 39
        have or1 := (orr.row r (by simp)).below al
        have CS := Lib.hid (spoil_any r Lm L6 _ or1 (or1.rdB (BR.out.row r (by simp))) HRF.out (by simp only [World.size_alloc]; omega))
        have s15 : L6 + 2 ≤ (wr.alloc (.cells (msA r) 39)).heap.size := by simp only [World.size_alloc]; omega
        replace b1 := Gw.call b1 al
        replace N := N.call al
        replace G5 := G5.call al
        replace G7 := G7.call al
        replace ox1 := ox1.below al
        replace o12 := o12.below al
        clear hcr al or1 orr
        go_wp2_with (first | (with_reducible refine ldM r br jr hc0 rfl _ rfl rfl ?_) | (with_reducible refine ldM r br (jr + 0 * 17) hc0 rfl _ rfl rfl ?_) | (with_reducible refine stM_new r _ rfl _ _ rfl rfl rfl rfl ?_) | (with_reducible refine ldM r _ 0 (obM G12) rfl _ rfl rfl ?_) | fail)
        refine (CS.out).mono ?_
        rintro e w19 ⟨rfl, sh⟩
        have hsz := sh.size
        replace N := sh.ob N N.lt (.inl (by omega))
        replace G5 := sh.ob G5 G5.lt (.inl (by omega))
        replace G7 := sh.ob G7 G7.lt (.inl (by have := G7l.out; omega))
        replace ox1 := ox1.same BD1.out (fun k _ h => sh.block k (by omega) (.inl (by omega)))
        replace o12 := o12.same BB.out (fun k h1 h => sh.block k (by omega) (.inl (by omega)))
        replace b1 := sh.belowOf b1 (by omega)
        replace s15 := Lib.hid (Nat.le_trans s15 hsz)
        clear sh CS hsz G12 hc0 s14
        go_wp2_with fail
        go_roundw
        case rel => exact .inr ⟨rfl, s15, N, G5, G7, ox1, o12, b1⟩
        case measure => simp [intOf]
      · clear orr G9 k1 b1 o12 ox1 G7 G5 N s14
        have CT := Lib.hid (fun W h => take_two A2 y z c2 W h HYF.out HZF.out HCP.out.2.1)
        go_wp2_with (first | (with_reducible refine ldB #[.int .i64 2, .slice A2 2 c2, .int .i64 0] _ G78 qb rfl _ rfl rfl ?_) | fail)
        refine (CT.out _ o128.rd).mono ?_
        rintro e w20 ⟨ag, A4, c4, lf, Lq, rfl, hag, hlf, -, -, -, oag, olf, hb⟩
        have CSA := Lib.hid (fun W h1 h2 => same_yes ag x1 W h1 h2 (hag.trans (HY.out.trans (HX2.out.trans HX1.out.symm))) (few_of_abs hag.symm HYF.out))
        have CSL := Lib.hid (fun W h1 h2 => same_yes lf b W h1 h2 (hlf.trans HZ.out) (few_of_abs hlf.symm HZF.out))
        have al := Below.alloc (Below.alloc (Below.refl w20.heap.size w20) (Nat.le_refl _) (.cells (msA ag) 39)) (by simp) (.cells #[.int .i64 2, .slice A4 1 c4, .int .i64 0] 24)
        have G13 := (Ob.new w20 (msA ag) 39).alloc (.cells #[.int .i64 2, .slice A4 1 c4, .int .i64 0] 24)
        have G14 := Ob.new (w20.alloc (.cells (msA ag) 39)) #[.int .i64 2, .slice A4 1 c4, .int .i64 0] 24
        rw [World.size_alloc] at G14
        have hba := hb.trans (al.mono hb.size)
        have b9 := Gw.call b8 hba
        have N9 := N8.call hba
        have G59 := G58.call hba
        have ox9 := (ox8.below hba).rd
        have oag9 := (oag.below al).rd
        have olf9 := (olf.below al).rd
        clear hb al hba hag hlf CT oag olf b8 N8 G58 G78 ox8 o128 S8
        go_upto_region 24 with (first | (with_reducible refine stM_under ag _ _ rfl _ _ rfl rfl rfl rfl ?_) | fail)
        obtain ⟨g13, hg13⟩ : ∃ g, g = w20.heap.size := ⟨_, rfl⟩
        rw [← hg13] at G13 G14 ⊢
        generalize (w20.alloc (.cells (msA ag) 39)).alloc (.cells #[.int .i64 2, .slice A4 1 c4, .int .i64 0] 24) = w21 at *
        clear hg13
        obtain ⟨b4, o4, rfl, hb4, hc4⟩ := olf9.out.at_ (k := 0) (x := lf) rfl
        have hc0 : ∀ j v, (msc lf)[j]? = some v → w21.cell? ⟨b4, o4 + j, none⟩ = some v := fun j v h => by have := hc4 j v h; rwa [show o4 + 0 * 17 + j = o4 + j by omega] at this
        have HC0 := Lib.hid hc0
        have lf9 := olf9.row lf (by simp)
        have bq := Below.drew (Below.refl w21.heap.size w21)
        clear hc4 hc0 olf9
        have HB : Hid (∀ W, Below w21.heap.size w21 W → (fun W : World => Ob W g13 (msA ag) 39 ∧ Ob W g5 (msA x1) 39 ∧ W.cell? ⟨g13 + 1, 1, none⟩ = some (.slice (some ⟨b4, o4, none⟩) 1 c4) ∧ (∀ j v, (msc lf)[j]? = some v → W.cell? ⟨b4, o4 + j, none⟩ = some v) ∧ Ob W (g0 + 1) (msA b) 39) W) := Lib.hid fun W hb => ⟨G13.call hb, G59.call hb, (G14.call hb).blk.2.1 1 _ rfl, fun j v h => (hb.cell (p := ⟨b4, o4 + j, none⟩) hb4).trans (HC0.out j v h), N9.call hb⟩
        refine wp_region_held_drew (S := fun W : World => Ob W g13 (msA ag) 39 ∧ Ob W g5 (msA x1) 39 ∧ W.cell? ⟨g13 + 1, 1, none⟩ = some (.slice (some ⟨b4, o4, none⟩) 1 c4) ∧ (∀ j v, (msc lf)[j]? = some v → W.cell? ⟨b4, o4 + j, none⟩ = some v) ∧ Ob W (g0 + 1) (msA b) 39) (by kernel_rfl) (HB.out _ bq) (fun hHeld => ?_)
        refine take_d (i := 0) (oi := _) (v := ?_) (d := some 126) rfl (by kernel_rfl) (by as_aux_lemma => kernel_rfl) (by as_aux_lemma => kernel_rfl) (by as_aux_lemma => kernel_rfl) (fun _ _ _ h => h) (Or.inl ⟨by kernel_rfl, ?_⟩) hHeld ?_
        rotate_left
        · intro w hSw; (try dsimp only at hSw); go_simp; (try with_reducible rfl)
        try simp only [Act.put, List.setIfInBounds_toArray, List.set_cons_zero, List.set_cons_succ]
        refine take_d (i := 1) (oi := _) (v := ?_) (d := some 127) rfl (by kernel_rfl) (by as_aux_lemma => kernel_rfl) (by as_aux_lemma => kernel_rfl) (by as_aux_lemma => kernel_rfl) (fun _ _ _ h => h) (Or.inl ⟨by kernel_rfl, ?_⟩) hHeld ?_
        rotate_left
        · intro w hSw; (try dsimp only at hSw); go_simp; (try with_reducible rfl)
        try simp only [Act.put, List.setIfInBounds_toArray, List.set_cons_zero, List.set_cons_succ]
        refine take_d (i := 2) (oi := _) (v := (.agg (msA ag))) (d := some 128) rfl (by kernel_rfl) (by as_aux_lemma => kernel_rfl) (by as_aux_lemma => kernel_rfl) (by as_aux_lemma => kernel_rfl) (fun _ _ _ h => h) (yl_M ag _ 0 (fun W h => obM h.1) (by kernel_rfl) _ rfl rfl) hHeld ?_
        try simp only [Act.put, List.setIfInBounds_toArray, List.set_cons_zero, List.set_cons_succ]
        refine take_d (i := 3) (oi := _) (v := (.agg (msA x1))) (d := some 129) rfl (by kernel_rfl) (by as_aux_lemma => kernel_rfl) (by as_aux_lemma => kernel_rfl) (by as_aux_lemma => kernel_rfl) (fun _ _ _ h => h) (yl_M x1 _ 0 (fun W h => obM h.2.1) (by kernel_rfl) _ rfl rfl) hHeld ?_
        try simp only [Act.put, List.setIfInBounds_toArray, List.set_cons_zero, List.set_cons_succ]
        refine wpAnyH_ready (rs := [4]) (by kernel_rfl) (by simp) ?_
        refine AllReadyH.cons rfl (fun K hK => ?_) AllReadyH.nil
        go_simp
        refine (CSA.out _ (oag9.up bq) (ox9.up bq)).mono ?_
        rintro e u1 ⟨rfl, hb⟩
        replace bq := Gw.call bq hb
        clear hb
        dsimp only
        refine hK.out _ _ (HB.out _ bq) (fun hHeld => ?_)
        clear hK K
        try simp only [Act.put, List.setIfInBounds_toArray, List.set_cons_zero, List.set_cons_succ]
        refine take_d (i := 5) (oi := _) (v := ?_) (d := some 131) rfl (by kernel_rfl) (by as_aux_lemma => kernel_rfl) (by as_aux_lemma => kernel_rfl) (by as_aux_lemma => kernel_rfl) (fun _ _ _ h => h) (Or.inl ⟨by kernel_rfl, ?_⟩) hHeld ?_
        rotate_left
        · intro w hSw; (try dsimp only at hSw); go_simp; (try with_reducible rfl)
        try simp only [Act.put, List.setIfInBounds_toArray, List.set_cons_zero, List.set_cons_succ]
        refine take_d (i := 6) (oi := _) (v := ?_) (d := some 132) rfl (by kernel_rfl) (by as_aux_lemma => kernel_rfl) (by as_aux_lemma => kernel_rfl) (by as_aux_lemma => kernel_rfl) (fun _ _ _ h => h) (Or.inl ⟨by kernel_rfl, ?_⟩) hHeld ?_
        rotate_left
        · intro w hSw; (try dsimp only at hSw); go_simp; (try with_reducible rfl)
        try simp only [Act.put, List.setIfInBounds_toArray, List.set_cons_zero, List.set_cons_succ]
        refine take_d (i := 7) (oi := _) (v := ?_) (d := some 133) rfl (by kernel_rfl) (by as_aux_lemma => kernel_rfl) (by as_aux_lemma => kernel_rfl) (by as_aux_lemma => kernel_rfl) (fun _ _ _ h => h) (Or.inl ⟨by kernel_rfl, ?_⟩) hHeld ?_
        rotate_left
        · intro w hSw; (try dsimp only at hSw); go_simp; (try with_reducible rfl)
        try simp only [Act.put, List.setIfInBounds_toArray, List.set_cons_zero, List.set_cons_succ]
        refine take_d (i := 8) (oi := _) (v := ?_) (d := some 134) rfl (by kernel_rfl) (by as_aux_lemma => kernel_rfl) (by as_aux_lemma => kernel_rfl) (by as_aux_lemma => kernel_rfl) (fun _ _ _ h => h) (Or.inl ⟨by kernel_rfl, ?_⟩) hHeld ?_
        rotate_left
        · intro w hSw; (try dsimp only at hSw); go_simp; (try with_reducible rfl)
        try simp only [Act.put, List.setIfInBounds_toArray, List.set_cons_zero, List.set_cons_succ]
        refine take_d (i := 9) (oi := _) (v := ?_) (d := some 135) rfl (by kernel_rfl) (by as_aux_lemma => kernel_rfl) (by as_aux_lemma => kernel_rfl) (by as_aux_lemma => kernel_rfl) (fun _ _ _ h => h) (Or.inl ⟨by kernel_rfl, ?_⟩) hHeld ?_
        rotate_left
        · intro w hSw; (try dsimp only at hSw); go_simp; (try with_reducible rfl)
        try simp only [Act.put, List.setIfInBounds_toArray, List.set_cons_zero, List.set_cons_succ]
        refine take_d (i := 10) (oi := _) (v := .bool true) (d := some 136) rfl (by kernel_rfl) (by as_aux_lemma => kernel_rfl) (by as_aux_lemma => kernel_rfl) (by as_aux_lemma => kernel_rfl) (fun _ _ _ h => h) (Or.inl ⟨by kernel_rfl, ?_⟩) hHeld ?_
        · intro W hSw
          go_simp; first | done | simp
        try simp only [Act.put, List.setIfInBounds_toArray, List.set_cons_zero, List.set_cons_succ]
        refine take_d (i := 11) (oi := _) (v := ?_) (d := some 137) rfl (by kernel_rfl) (by as_aux_lemma => kernel_rfl) (by as_aux_lemma => kernel_rfl) (by as_aux_lemma => kernel_rfl) (fun _ _ _ h => h) (Or.inl ⟨by kernel_rfl, ?_⟩) hHeld ?_
        rotate_left
        · intro w hSw; (try dsimp only at hSw); go_simp; (try with_reducible rfl)
        try simp only [Act.put, List.setIfInBounds_toArray, List.set_cons_zero, List.set_cons_succ]
        refine take_d (i := 12) (oi := _) (v := ?_) (d := some 138) rfl (by kernel_rfl) (by as_aux_lemma => kernel_rfl) (by as_aux_lemma => kernel_rfl) (by as_aux_lemma => kernel_rfl) (fun _ _ _ h => h) (Or.inl ⟨by kernel_rfl, ?_⟩) hHeld ?_
        rotate_left
        · intro w hSw; (try dsimp only at hSw); go_simp; (try with_reducible rfl)
        try simp only [Act.put, List.setIfInBounds_toArray, List.set_cons_zero, List.set_cons_succ]
        refine take_d (i := 13) (oi := _) (v := ?_) (d := some 139) rfl (by kernel_rfl) (by as_aux_lemma => kernel_rfl) (by as_aux_lemma => kernel_rfl) (by as_aux_lemma => kernel_rfl) (fun _ _ _ h => h) (Or.inl ⟨by kernel_rfl, ?_⟩) hHeld ?_
        rotate_left
        · intro w hSw; (try dsimp only at hSw); go_simp; (try with_reducible rfl)
        try simp only [Act.put, List.setIfInBounds_toArray, List.set_cons_zero, List.set_cons_succ]
        refine take_d (i := 14) (oi := _) (v := ?_) (d := some 140) rfl (by kernel_rfl) (by as_aux_lemma => kernel_rfl) (by as_aux_lemma => kernel_rfl) (by as_aux_lemma => kernel_rfl) (fun _ _ _ h => h) (Or.inl ⟨by kernel_rfl, ?_⟩) hHeld ?_
        rotate_left
        · intro w hSw; (try dsimp only at hSw); go_simp; (try with_reducible rfl)
        try simp only [Act.put, List.setIfInBounds_toArray, List.set_cons_zero, List.set_cons_succ]
        refine take_d (i := 15) (oi := _) (v := (.pointer (some ⟨b4, o4, none⟩))) (d := some 141) rfl (by kernel_rfl) (by as_aux_lemma => kernel_rfl) (by as_aux_lemma => kernel_rfl) (by as_aux_lemma => kernel_rfl) (fun _ _ _ h => h) (Or.inl ⟨by kernel_rfl, ?_⟩) hHeld ?_
        · intro W hSw
          go_simp; first | done | (simp; done) | (rw [if_pos (by omega)])
        try simp only [Act.put, List.setIfInBounds_toArray, List.set_cons_zero, List.set_cons_succ]
        refine take_d (i := 16) (oi := _) (v := (.agg (msA lf))) (d := some 142) rfl (by kernel_rfl) (by as_aux_lemma => kernel_rfl) (by as_aux_lemma => kernel_rfl) (by as_aux_lemma => kernel_rfl) (fun _ _ _ h => h) (yl_M lf _ _ (fun W h => h.2.2.2.1) (by kernel_rfl) _ rfl rfl) hHeld ?_
        try simp only [Act.put, List.setIfInBounds_toArray, List.set_cons_zero, List.set_cons_succ]
        refine take_d (i := 17) (oi := _) (v := (.agg (msA b))) (d := some 143) rfl (by kernel_rfl) (by as_aux_lemma => kernel_rfl) (by as_aux_lemma => kernel_rfl) (by as_aux_lemma => kernel_rfl) (fun _ _ _ h => h) (yl_M b _ 0 (fun W h => obM h.2.2.2.2) (by kernel_rfl) _ rfl rfl) hHeld ?_
        try simp only [Act.put, List.setIfInBounds_toArray, List.set_cons_zero, List.set_cons_succ]
        refine wpAnyH_ready (rs := [18]) (by kernel_rfl) (by simp) ?_
        refine AllReadyH.cons rfl (fun K hK => ?_) AllReadyH.nil
        go_simp
        refine (CSL.out _ (lf9.up bq) (hbr.up (Gw.call b9 bq))).mono ?_
        rintro e u1 ⟨rfl, hb⟩
        replace bq := Gw.call bq hb
        clear hb
        dsimp only
        refine hK.out _ _ (HB.out _ bq) (fun hHeld => ?_)
        clear hK K
        try simp only [Act.put, List.setIfInBounds_toArray, List.set_cons_zero, List.set_cons_succ]
        refine take_d (i := 19) (oi := _) (v := ?_) (d := some 145) rfl (by kernel_rfl) (by as_aux_lemma => kernel_rfl) (by as_aux_lemma => kernel_rfl) (by as_aux_lemma => kernel_rfl) (fun _ _ _ h => h) (Or.inl ⟨by kernel_rfl, ?_⟩) hHeld ?_
        rotate_left
        · intro w hSw; (try dsimp only at hSw); go_simp; (try with_reducible rfl)
        try simp only [Act.put, List.setIfInBounds_toArray, List.set_cons_zero, List.set_cons_succ]
        refine take_d (i := 20) (oi := _) (v := ?_) (d := some 146) rfl (by kernel_rfl) (by as_aux_lemma => kernel_rfl) (by as_aux_lemma => kernel_rfl) (by as_aux_lemma => kernel_rfl) (fun _ _ _ h => h) (Or.inl ⟨by kernel_rfl, ?_⟩) hHeld ?_
        rotate_left
        · intro w hSw; (try dsimp only at hSw); go_simp; (try with_reducible rfl)
        try simp only [Act.put, List.setIfInBounds_toArray, List.set_cons_zero, List.set_cons_succ]
        refine wpAnyH_ready (rs := [21]) (by kernel_rfl) (by simp) ?_
        refine AllReadyH.cons rfl (fun K hK => ?_) AllReadyH.nil
        go_simp
        refine (awake_any _).mono ?_
        rintro e u1 ⟨rfl, hb⟩
        replace bq := Gw.call bq hb
        clear hb
        dsimp only
        refine hK.out _ _ (HB.out _ bq) (fun hHeld => ?_)
        clear hK K
        try simp only [Act.put, List.setIfInBounds_toArray, List.set_cons_zero, List.set_cons_succ]
        refine take_d (i := 22) (oi := _) (v := ?_) (d := some 148) rfl (by kernel_rfl) (by as_aux_lemma => kernel_rfl) (by as_aux_lemma => kernel_rfl) (by as_aux_lemma => kernel_rfl) (fun _ _ _ h => h) (Or.inl ⟨by kernel_rfl, ?_⟩) hHeld ?_
        rotate_left
        · intro w hSw; (try dsimp only at hSw); go_simp; (try with_reducible rfl)
        try simp only [Act.put, List.setIfInBounds_toArray, List.set_cons_zero, List.set_cons_succ]
        refine take_d (i := 23) (oi := _) (v := ?_) (d := some 4) rfl (by kernel_rfl) (by as_aux_lemma => kernel_rfl) (by as_aux_lemma => kernel_rfl) (by as_aux_lemma => kernel_rfl) (fun _ _ _ h => h) (Or.inl ⟨by kernel_rfl, ?_⟩) hHeld ?_
        rotate_left
        · intro w hSw; (try dsimp only at hSw); go_simp; (try with_reducible rfl)
        try simp only [Act.put, List.setIfInBounds_toArray, List.set_cons_zero, List.set_cons_succ]
        refine wpAnyH_done (by kernel_rfl) ?_ _
        go_wp2_with fail
        go_ret
        exact ⟨rfl, Gw.call b9 bq⟩
end Go.Proofs.Ytbengmgfddnkhaa
