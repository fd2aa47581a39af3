/-
  The document's Lacks (17).
-/
import Derived.Test.YthockpallaoelaaRefDig
import Derived.Deep.RegionWith
namespace Go.Proofs.Ythockpallaoelaa
open Go.RowKit
theorem hasB_mem {l : List Id} {x : Id} : hasB l x = true ↔ x ∈ l := by
  unfold hasB; rw [List.any_eq_true]; constructor
  · rintro ⟨y, hy, h⟩; rw [decide_eq_true_iff] at h; exact h ▸ hy
  · intro h; exact ⟨x, h, by simp⟩
theorem hasB_not {l : List Id} {x : Id} : hasB l x = false ↔ x ∉ l := by rw [← hasB_mem]; simp
set_option maxRecDepth 100000 in
set_option maxHeartbeats 8000000 in
theorem reflacks_any (ids : List Id) (rows : List Rw) (m : Int) (A B : Option Addr) (ca cb : Nat) (w : World) (ha : Rd idc 3 w.heap.size w A ids) (hb : Rd rowc 3 w.heap.size w B rows) (hi : ∀ x ∈ ids, x.ok) (hr : ∀ r ∈ rows, r.ok)
    (l1 : ids.length ≤ 1000000) (l2 : rows.length ≤ 1000000) :
    Calls Try.prog 21 #[.slice A ids.length ca, .slice B rows.length cb, .int .i64 m] w fun e w' => ∃ A' c', e = .returned (.slice A' (lacksL ids rows m).length c') ∧ Own idc 3 30 w.heap.size w' (.slice A' (lacksL ids rows m).length c') (lacksL ids rows m) ∧ Below w.heap.size w w' := by
  obtain ⟨i0, hi0, hz0, hz1, hz2⟩ := info_parts Try.infoLk
  have HI := Lib.hid hi
  have HR := Lib.hid hr
  clear hi hr
  go_enter Try.func21, Try.ntmps21
  go_wp2_with fail
  go_loopw [7, 8] (fun v i wr => ∃ (k : Nat) (acc : List Id) (A' : Option Addr) (c' : Nat), k ≤ ids.length ∧ i = .int .i64 k ∧ v = .slice A' acc.length c' ∧ Hid (lacksL (ids.take k) rows m = acc) ∧ Own idc 3 30 w.heap.size wr (.slice A' acc.length c') acc ∧ Below w.heap.size w wr) (fun _ i _ => ids.length - (intOf i).toNat)
  case atStart => exact ⟨0, [], none, 0, Nat.zero_le _, rfl, rfl, Lib.hid rfl, Own.nil_, Below.refl _ _⟩
  case round =>
    obtain ⟨k, acc, A', c', hk, rfl, rfl, HA, hown, hbl⟩ := hrel
    by_cases hlt : k < ids.length
    · obtain ⟨x, hx⟩ : ∃ x, ids[k]? = some x := ⟨_, List.getElem?_eq_getElem hlt⟩
      obtain ⟨b1, o1, rfl, hb1, e0, e1, e2⟩ := (ha.below hbl).id3 hx
      have xok := HI.out x (List.mem_of_getElem? hx)
      have HX := Lib.hid hx
      clear hx ha
      have xn := xok.1
      have X := Ob.new wr #[.int .u8 x.n, .int .u16 x.i, .int .u32 x.s] 30
      have bl1 := Gw.al hbl (.cells #[.int .u8 x.n, .int .u16 x.i, .int .u32 x.s] 30)
      have hown1 := hown.alloc (.cells #[.int .u8 x.n, .int .u16 x.i, .int .u32 x.s] 30)
      have ACCL := lacks_le ids rows m k
      rw [HA.out] at ACCL
      have hb1' := hb.up bl1
      clear hown hbl hb
      by_cases hin : x.n.toNat < rows.length
      · obtain ⟨r, hr⟩ : ∃ r, rows[x.n.toNat]? = some r := ⟨_, List.getElem?_eq_getElem hin⟩
        have hlk := lackOk_in (m := m) (x := x) hr
        have rok := HR.out r (List.mem_of_getElem? hr)
        obtain ⟨b2, o2, rfl, hb2, r0, r1, r2⟩ := row_at hb1' hr
        have t2 : decide (x.n < (rows.length : Int)) = true := by simp; omega
        have t3 : x.n < (rows.length : Int) := by omega
        clear hr hb1'
        cases hq : mayB r x m
        · have HM : Hid (∀ W, Calls Try.prog 35 #[.agg #[.int .u16 r.i, .int .u32 r.p, .int .u64 r.b], .agg #[.int .u8 x.n, .int .u16 x.i, .int .u32 x.s], .int .i64 m] W fun e w' => e = .returned (.bool false) ∧ Below W.heap.size W w') := Lib.hid (fun W => hq ▸ refmay_any r x m rok xok W)
          rw [hq] at hlk
          have STP := Lib.hid (ddStep_no (acc := acc) hlk)
          clear hlk hq
          go_upto_region 6 with fail
          clear e0 e1 e2
          obtain ⟨B1, hB1⟩ : ∃ B1, B1 = wr.heap.size := ⟨_, rfl⟩
          rw [← hB1] at X ⊢
          generalize wr.alloc (.cells #[.int .u8 x.n, .int .u16 x.i, .int .u32 x.s] 30) = W1 at *
          clear hB1
          have x0 := X.blk.2.1 0 _ rfl
          have x1 := X.blk.2.1 1 _ rfl
          have x2 := X.blk.2.1 2 _ rfl
          have b := Below.refl W1.heap.size W1
          have HWR : IntKind.i64.wrap x.n = x.n := IntWalk.i64_in _ (by omega)
          (first | go_region_with (first | ((with_reducible show Calls _ _ _ _ _); go_at_call 35; (with_reducible refine (HM.out _).mono ?_); rintro e w1 ⟨rfl, hb⟩; replace b := (by first | exact Gw.call b hb | exact Gw.call (Below.drew b) hb); clear hb) | fail) | fail)
          all_goals
            clear x0 x1 x2 r0 r1 r2 HWR
            have hown9 := hown1.below b
            have bl9 := Gw.call bl1 b
            clear X hown1 bl1 b
            go_wp2_with fail
            go_roundw
            case rel => exact ⟨k + 1, acc, A', c', hlt, by go_num, rfl, Lib.hid (by rw [lacks_take HX.out HA.out]; exact STP.out), hown9, bl9⟩
            case measure => simp [intOf]; omega
        · have HM : Hid (∀ W, Calls Try.prog 35 #[.agg #[.int .u16 r.i, .int .u32 r.p, .int .u64 r.b], .agg #[.int .u8 x.n, .int .u16 x.i, .int .u32 x.s], .int .i64 m] W fun e w' => e = .returned (.bool true) ∧ Below W.heap.size W w') := Lib.hid (fun W => hq ▸ refmay_any r x m rok xok W)
          rw [hq] at hlk
          have HLK := Lib.hid hlk
          clear hlk hq
          cases hm : decide (x ∈ acc)
          · have hhas : hasB acc x = false := by rw [hasB_not]; simpa using hm
            have STP := Lib.hid (ddStep_new (p := lackOk rows m) HLK.out hm)
            clear hm HLK
            go_upto_region 6 with fail
            clear e0 e1 e2
            obtain ⟨B1, hB1⟩ : ∃ B1, B1 = wr.heap.size := ⟨_, rfl⟩
            rw [← hB1] at X ⊢
            generalize wr.alloc (.cells #[.int .u8 x.n, .int .u16 x.i, .int .u32 x.s] 30) = W1 at *
            clear hB1
            have x0 := X.blk.2.1 0 _ rfl
            have x1 := X.blk.2.1 1 _ rfl
            have x2 := X.blk.2.1 2 _ rfl
            have b := Below.refl W1.heap.size W1
            have HB : Hid (∀ W, Below W1.heap.size W1 W → (fun W => W.cell? ⟨B1, 0, none⟩ = some (.int .u8 x.n) ∧ W.cell? ⟨B1, 1, none⟩ = some (.int .u16 x.i) ∧ W.cell? ⟨B1, 2, none⟩ = some (.int .u32 x.s) ∧ W.cell? ⟨b2, o2 + x.n.toNat * 3, none⟩ = some (.int .u16 r.i) ∧ W.cell? ⟨b2, o2 + x.n.toNat * 3 + 1, none⟩ = some (.int .u32 r.p) ∧ W.cell? ⟨b2, o2 + x.n.toNat * 3 + 2, none⟩ = some (.int .u64 r.b)) W) := Lib.hid fun W hb => ⟨(X.call hb).blk.2.1 0 _ rfl, (X.call hb).blk.2.1 1 _ rfl, (X.call hb).blk.2.1 2 _ rfl, (hb.cell (p := ⟨b2, o2 + x.n.toNat * 3, none⟩) hb2).trans r0, (hb.cell (p := ⟨b2, o2 + x.n.toNat * 3 + 1, none⟩) hb2).trans r1, (hb.cell (p := ⟨b2, o2 + x.n.toNat * 3 + 2, none⟩) hb2).trans r2⟩
            have HWR : IntKind.i64.wrap x.n = x.n := IntWalk.i64_in _ (by omega)
            go_region_held3 (fun W => W.cell? ⟨B1, 0, none⟩ = some (.int .u8 x.n) ∧ W.cell? ⟨B1, 1, none⟩ = some (.int .u16 x.i) ∧ W.cell? ⟨B1, 2, none⟩ = some (.int .u32 x.s) ∧ W.cell? ⟨b2, o2 + x.n.toNat * 3, none⟩ = some (.int .u16 r.i) ∧ W.cell? ⟨b2, o2 + x.n.toNat * 3 + 1, none⟩ = some (.int .u32 r.p) ∧ W.cell? ⟨b2, o2 + x.n.toNat * 3 + 2, none⟩ = some (.int .u64 r.b)) (first | exact HB.out _ b | exact HB.out _ (Below.drew b)) (first
              | ((with_reducible show Calls _ _ _ _ _); go_at_call 35; (with_reducible refine (HM.out _).mono ?_); rintro e w1 ⟨rfl, hb⟩; replace b := (by first | exact Gw.call b hb | exact Gw.call (Below.drew b) hb); clear hb)
              | ((with_reducible show Calls _ _ _ _ _); go_at_call 36; (with_reducible refine (ref_has_any acc x A' c' _ ((hown1.below b).rd idc_len) (by omega)).mono ?_); rintro e w2 ⟨rfl, hb⟩; rw [hhas]; replace b := Gw.call b hb; clear hb)
              | fail)
            clear x0 x1 x2 r0 r1 r2 HB HWR
            have X9 := X.call b
            have hown9 := hown1.below b
            have bl9 := Gw.call bl1 b
            clear X hown1 bl1 b
            have x90 := X9.blk.2.1 0 _ rfl
            have x91 := X9.blk.2.1 1 _ rfl
            have x92 := X9.blk.2.1 2 _ rfl
            have sz9 := bl9.size
            go_wp2_with (at_builtin; refine wpList_app _ rfl _ _ 23 rfl w.heap.size 30 i0 _ 8 Try.underlying23 hi0 hz0 hz1 hz2 rfl (by omega) idc_len idc_one _ acc rfl (hown9.alloc _) acc.length rfl _ _ 1 1 [x] rfl rfl (Rd.lit idc_len w2 _ rfl _ _ [x] rfl) (by omega) (by omega) (by rw [World.size_alloc]; omega) ?_; intro A2 c2 w3 hown3 hg3)
            have hg3' : (w2.alloc (.cells #[.int .u8 x.n, .int .u16 x.i, .int .u32 x.s] 30)).grownBy w3 (Value.slice A' acc.length c').ownBlock := hg3
            clear hg3
            have lown := Own.lt hown9
            go_roundw
            case rel => exact ⟨k + 1, acc ++ [x], A2, c2, hlt, by go_num, by simp, Lib.hid (by rw [lacks_take HX.out HA.out]; exact STP.out), by simpa using hown3, Gw.gr (Gw.al bl9 _) hg3' lown⟩
            case measure => simp [intOf]; omega
          · have hhas : hasB acc x = true := by rw [hasB_mem]; simpa using hm
            have STP := Lib.hid (ddStep_old (p := lackOk rows m) hm)
            clear hm HLK
            go_upto_region 6 with fail
            clear e0 e1 e2
            obtain ⟨B1, hB1⟩ : ∃ B1, B1 = wr.heap.size := ⟨_, rfl⟩
            rw [← hB1] at X ⊢
            generalize wr.alloc (.cells #[.int .u8 x.n, .int .u16 x.i, .int .u32 x.s] 30) = W1 at *
            clear hB1
            have x0 := X.blk.2.1 0 _ rfl
            have x1 := X.blk.2.1 1 _ rfl
            have x2 := X.blk.2.1 2 _ rfl
            have b := Below.refl W1.heap.size W1
            have HB : Hid (∀ W, Below W1.heap.size W1 W → (fun W => W.cell? ⟨B1, 0, none⟩ = some (.int .u8 x.n) ∧ W.cell? ⟨B1, 1, none⟩ = some (.int .u16 x.i) ∧ W.cell? ⟨B1, 2, none⟩ = some (.int .u32 x.s) ∧ W.cell? ⟨b2, o2 + x.n.toNat * 3, none⟩ = some (.int .u16 r.i) ∧ W.cell? ⟨b2, o2 + x.n.toNat * 3 + 1, none⟩ = some (.int .u32 r.p) ∧ W.cell? ⟨b2, o2 + x.n.toNat * 3 + 2, none⟩ = some (.int .u64 r.b)) W) := Lib.hid fun W hb => ⟨(X.call hb).blk.2.1 0 _ rfl, (X.call hb).blk.2.1 1 _ rfl, (X.call hb).blk.2.1 2 _ rfl, (hb.cell (p := ⟨b2, o2 + x.n.toNat * 3, none⟩) hb2).trans r0, (hb.cell (p := ⟨b2, o2 + x.n.toNat * 3 + 1, none⟩) hb2).trans r1, (hb.cell (p := ⟨b2, o2 + x.n.toNat * 3 + 2, none⟩) hb2).trans r2⟩
            have HWR : IntKind.i64.wrap x.n = x.n := IntWalk.i64_in _ (by omega)
            go_region_held3 (fun W => W.cell? ⟨B1, 0, none⟩ = some (.int .u8 x.n) ∧ W.cell? ⟨B1, 1, none⟩ = some (.int .u16 x.i) ∧ W.cell? ⟨B1, 2, none⟩ = some (.int .u32 x.s) ∧ W.cell? ⟨b2, o2 + x.n.toNat * 3, none⟩ = some (.int .u16 r.i) ∧ W.cell? ⟨b2, o2 + x.n.toNat * 3 + 1, none⟩ = some (.int .u32 r.p) ∧ W.cell? ⟨b2, o2 + x.n.toNat * 3 + 2, none⟩ = some (.int .u64 r.b)) (first | exact HB.out _ b | exact HB.out _ (Below.drew b)) (first
              | ((with_reducible show Calls _ _ _ _ _); go_at_call 35; (with_reducible refine (HM.out _).mono ?_); rintro e w1 ⟨rfl, hb⟩; replace b := (by first | exact Gw.call b hb | exact Gw.call (Below.drew b) hb); clear hb)
              | ((with_reducible show Calls _ _ _ _ _); go_at_call 36; (with_reducible refine (ref_has_any acc x A' c' _ ((hown1.below b).rd idc_len) (by omega)).mono ?_); rintro e w2 ⟨rfl, hb⟩; rw [hhas]; replace b := Gw.call b hb; clear hb)
              | fail)
            clear x0 x1 x2 r0 r1 r2 HB HWR
            have X9 := X.call b
            have hown9 := hown1.below b
            have bl9 := Gw.call bl1 b
            clear X hown1 bl1 b
            go_wp2_with fail
            go_roundw
            case rel => exact ⟨k + 1, acc, A', c', hlt, by go_num, rfl, Lib.hid (by rw [lacks_take HX.out HA.out]; exact STP.out), hown9, bl9⟩
            case measure => simp [intOf]; omega
      · have STP := Lib.hid (ddStep_no (acc := acc) (lackOk_out (m := m) (x := x) (rows := rows) (by omega)))
        have t2 : decide (x.n < (rows.length : Int)) = false := by simp; omega
        clear hb1'
        go_upto_region 6 with fail
        clear e0 e1 e2
        obtain ⟨B1, hB1⟩ : ∃ B1, B1 = wr.heap.size := ⟨_, rfl⟩
        rw [← hB1] at X ⊢
        generalize wr.alloc (.cells #[.int .u8 x.n, .int .u16 x.i, .int .u32 x.s] 30) = W1 at *
        clear hB1
        have x0 := X.blk.2.1 0 _ rfl
        have x1 := X.blk.2.1 1 _ rfl
        have x2 := X.blk.2.1 2 _ rfl
        have HWR : IntKind.i64.wrap x.n = x.n := IntWalk.i64_in _ (by omega)
        go_quiet (fail)
        clear x0 x1 x2 HWR
        have hown9 := hown1.below (Gw.drewN (Below.refl W1.heap.size W1) nq)
        have bl9 := Gw.drewN bl1 nq
        clear X hown1 bl1
        go_wp2_with fail
        go_roundw
        case rel => exact ⟨k + 1, acc, A', c', hlt, by go_num, rfl, Lib.hid (by rw [lacks_take HX.out HA.out]; exact STP.out), hown9, bl9⟩
        case measure => simp [intOf]; omega
    · obtain rfl : k = ids.length := by omega
      have hl : lacksL ids rows m = acc := by rw [← HA.out, List.take_length]
      go_wp2_with fail
      go_ret
      rw [hl]
      exact ⟨A', c', rfl, hown, hbl⟩
end Go.Proofs.Ythockpallaoelaa
