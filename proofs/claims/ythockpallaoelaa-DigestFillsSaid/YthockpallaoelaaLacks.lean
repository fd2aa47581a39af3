/-
  digest.Lacks.
-/
import Derived.Test.YthockpallaoelaaKnown
import Derived.Test.YthockpallaoelaaKey
import Derived.Test.YthockpallaoelaaObj
import Derived.Test.YthockpallaoelaaStep
import Derived.WalkKit
import Derived.Deep.QuietTactic
import Derived.BigQuiet
import Derived.IntWalk
import Derived.Deep.RegionHeld3
import Derived.Deep.DeepCutAuto
namespace Go.Proofs.Ythockpallaoelaa
open Go.RowKit Go.Maps
theorem Try.infoLk : (Try.prog.info? 30).map (fun i => (i.zero, i.size, i.bytes)) = some (some (.agg #[.int .u8 0, .int .u16 0, .int .u32 0]), 3, 8) := by kernel_rfl
theorem zeroUnit (w : World) : (zeroValue 54).run Try.prog w = .ok (.agg #[]) w := by kernel_rfl
theorem row_at {rows : List Rw} {W : World} {S : Nat} {A : Option Addr} (h : Rd rowc 3 S W A rows) {k : Nat} {r : Rw} (hx : rows[k]? = some r) :
    ∃ b o, A = some ⟨b, o, none⟩ ∧ b < S ∧ W.cell? ⟨b, o + k * 3, none⟩ = some (.int .u16 r.i) ∧ W.cell? ⟨b, o + k * 3 + 1, none⟩ = some (.int .u32 r.p) ∧ W.cell? ⟨b, o + k * 3 + 2, none⟩ = some (.int .u64 r.b) := by
  obtain ⟨b, o, hA, hb, hc⟩ := h.at_ hx
  exact ⟨b, o, hA, hb, hc 0 _ rfl, hc 1 _ rfl, hc 2 _ rfl⟩
theorem lackOk_in {rows : List Rw} {m : Int} {x : Id} {r : Rw} (h : rows[x.n.toNat]? = some r) : lackOk rows m x = mayB r x m := by unfold lackOk; rw [h]
theorem lackOk_out {rows : List Rw} {m : Int} {x : Id} (h : rows.length ≤ x.n.toNat) : lackOk rows m x = false := by unfold lackOk; rw [List.getElem?_eq_none h]
theorem lacks_take {ids : List Id} {rows : List Rw} {m : Int} {k : Nat} {x : Id} (h : ids[k]? = some x) {acc : List Id} (ha : lacksL (ids.take k) rows m = acc) : lacksL (ids.take (k + 1)) rows m = ddStep (lackOk rows m) acc x := by
  rw [← ha]; exact dd_take _ _ _ h
theorem lacks_ok {ids : List Id} {rows : List Rw} {m : Int} (h : ∀ x ∈ ids, x.ok) {k : Nat} : ∀ x ∈ lacksL (ids.take k) rows m, x.ok := fun x hx => h x (List.mem_of_mem_take ((mem_dd _ _).1 hx).1)
theorem lacks_le (ids : List Id) (rows : List Rw) (m : Int) (k : Nat) : (lacksL (ids.take k) rows m).length ≤ k := by
  have := dd_len (p := lackOk rows m) (ids.take k)
  rw [List.length_take] at this
  unfold lacksL; omega
theorem Ob.grown {W W' : World} {g : Nat} {cs : Array Value} {T : TypeId} {row : Option Nat} (h : Ob W g cs T) (hg : W.grownBy W' row) (hne : ∀ k, row = some k → g ≠ k) : Ob W' g cs T :=
  (hg.block g h.lt (fun e => hne g e.symm rfl)).trans h
theorem own_not {α : Type} {enc : α → List Value} {sz b : Nat} {E : TypeId} {w : World} {v : Value} {l : List α} (h : Own enc sz E (b + 1) w v l) : v.ownBlock = none ∨ v.ownBlock ≠ some b := by
  rcases hv : v.ownBlock with _ | k
  · exact .inl rfl
  · refine .inr fun e => ?_
    injection e with e
    have := Own.lt h k hv
    omega
set_option maxRecDepth 100000 in
set_option maxHeartbeats 4000000 in
theorem lacks_any (ids : List Id) (rows : List Rw) (m : Int) (A B : Option Addr) (ca cb : Nat) (w : World) (ha : Rd idc 3 w.heap.size w A ids) (hb : Rd rowc 3 w.heap.size w B rows) (hi : ∀ x ∈ ids, x.ok) (hr : ∀ r ∈ rows, r.ok)
    (l1 : ids.length ≤ 1000000) (l2 : rows.length ≤ 1000000) :
    Calls Try.prog 10 #[.slice A ids.length ca, .slice B rows.length cb, .int .i64 m] w fun e w' => ∃ A' c', e = .returned (.slice A' (lacksL ids rows m).length c') ∧ Own idc 3 30 w.heap.size w' (.slice A' (lacksL ids rows m).length c') (lacksL ids rows m) ∧ Below w.heap.size w w' := by
  obtain ⟨i0, hi0, hz0, hz1, hz2⟩ := info_parts Try.infoLk
  have hmm := @run_makeMap Try.prog
  have HI := Lib.hid hi
  have HR := Lib.hid hr
  clear hi hr
  go_enter Try.func10, Try.ntmps10
  go_wp2_with fail
  go_loopw [7, 16] (fun v i wr => ∃ (k : Nat) (acc : List Id) (A' : Option Addr) (c' : Nat), k ≤ ids.length ∧ i = .int .i64 k ∧ v = .slice A' acc.length c' ∧ Hid (lacksL (ids.take k) rows m = acc) ∧ Own idc 3 30 (w.heap.size + 1) wr (.slice A' acc.length c') acc ∧ wr.ownsMap Try.prog 30 (unitElem (H := Unit)) w.heap.size k (idSet acc) ∧ Below w.heap.size w wr) (fun _ i _ => ids.length - (intOf i).toNat)
  case atStart => exact ⟨0, [], none, 0, Nat.zero_le _, rfl, rfl, Lib.hid rfl, Own.nil_, by rw [idSet_nil]; exact World.ownsMap_made _ _ _ _, (Below.refl _ _).alloc (Nat.le_refl _) _⟩
  case round =>
    obtain ⟨k, acc, A', c', hk, rfl, rfl, HA, hown, hmap, hbl⟩ := hrel
    by_cases hlt : k < ids.length
    · obtain ⟨x, hx⟩ : ∃ x, ids[k]? = some x := ⟨_, List.getElem?_eq_getElem hlt⟩
      obtain ⟨b1, o1, rfl, hb1, e0, e1, e2⟩ := (ha.below hbl).id3 hx
      have xok := HI.out x (List.mem_of_getElem? hx)
      have HX := Lib.hid hx
      clear hx ha
      have xn := xok.1
      have X := Ob.new wr #[.int .u8 x.n, .int .u16 x.i, .int .u32 x.s] 30
      have bl1 := Gw.al hbl (.cells #[.int .u8 x.n, .int .u16 x.i, .int .u32 x.s] 30)
      have hown1 := hown.alloc (.cells #[.int .u8 x.n, .int .u16 x.i, .int .u32 x.s] 30)
      have hmap1 := hmap.alloc (.cells #[.int .u8 x.n, .int .u16 x.i, .int .u32 x.s] 30)
      have hbm := hmap.lt
      have ACCL := lacks_le ids rows m k
      have ACCK := Lib.hid (lacks_ok (rows := rows) (m := m) HI.out (k := k))
      rw [HA.out] at ACCK ACCL
      have hb1' := hb.up bl1
      clear hown hmap hbl hb
      by_cases hin : x.n.toNat < rows.length
      · obtain ⟨r, hr⟩ : ∃ r, rows[x.n.toNat]? = some r := ⟨_, List.getElem?_eq_getElem hin⟩
        have hlk := lackOk_in (m := m) (x := x) hr
        have rok := HR.out r (List.mem_of_getElem? hr)
        obtain ⟨b2, o2, rfl, hb2, r0, r1, r2⟩ := row_at hb1' hr
        have HRR := Lib.hid hr
        have t1 : decide ((rows.length : Int) ≤ x.n) = false := by simp; omega
        have t2 : decide (x.n < (rows.length : Int)) = true := by simp; omega
        have t3 : x.n < (rows.length : Int) := by omega
        clear hr hb1'
        cases hq : mayB r x m
        · have HM : Hid (∀ W, Calls Try.prog 11 #[.agg #[.int .u16 r.i, .int .u32 r.p, .int .u64 r.b], .agg #[.int .u8 x.n, .int .u16 x.i, .int .u32 x.s], .int .i64 m] W fun e w' => e = .returned (.bool false) ∧ Below W.heap.size W w') := Lib.hid (fun W => hq ▸ may_any r x m rok xok W)
          rw [hq] at hlk
          have STP := Lib.hid (ddStep_no (acc := acc) hlk)
          clear hlk hq
          go_upto_region 6 with fail
          clear e0 e1 e2
          obtain ⟨B1, hB1⟩ : ∃ B1, B1 = wr.heap.size := ⟨_, rfl⟩
          rw [← hB1] at X hbm ⊢
          generalize wr.alloc (.cells #[.int .u8 x.n, .int .u16 x.i, .int .u32 x.s] 30) = W1 at *
          clear hB1
          have x0 := X.blk.2.1 0 _ rfl
          have x1 := X.blk.2.1 1 _ rfl
          have x2 := X.blk.2.1 2 _ rfl
          have b := Below.refl W1.heap.size W1
          have HB : Hid (∀ W, Below W1.heap.size W1 W → (fun W => W.cell? ⟨B1, 0, none⟩ = some (.int .u8 x.n) ∧ W.cell? ⟨B1, 1, none⟩ = some (.int .u16 x.i) ∧ W.cell? ⟨B1, 2, none⟩ = some (.int .u32 x.s) ∧ W.cell? ⟨b2, o2 + x.n.toNat * 3, none⟩ = some (.int .u16 r.i) ∧ W.cell? ⟨b2, o2 + x.n.toNat * 3 + 1, none⟩ = some (.int .u32 r.p) ∧ W.cell? ⟨b2, o2 + x.n.toNat * 3 + 2, none⟩ = some (.int .u64 r.b)) W) := Lib.hid fun W hb => ⟨(X.call hb).blk.2.1 0 _ rfl, (X.call hb).blk.2.1 1 _ rfl, (X.call hb).blk.2.1 2 _ rfl, (hb.cell (p := ⟨b2, o2 + x.n.toNat * 3, none⟩) hb2).trans r0, (hb.cell (p := ⟨b2, o2 + x.n.toNat * 3 + 1, none⟩) hb2).trans r1, (hb.cell (p := ⟨b2, o2 + x.n.toNat * 3 + 2, none⟩) hb2).trans r2⟩
          have HWR : IntKind.i64.wrap x.n = x.n := IntWalk.i64_in _ (by omega)
          go_region_held3 (fun W => W.cell? ⟨B1, 0, none⟩ = some (.int .u8 x.n) ∧ W.cell? ⟨B1, 1, none⟩ = some (.int .u16 x.i) ∧ W.cell? ⟨B1, 2, none⟩ = some (.int .u32 x.s) ∧ W.cell? ⟨b2, o2 + x.n.toNat * 3, none⟩ = some (.int .u16 r.i) ∧ W.cell? ⟨b2, o2 + x.n.toNat * 3 + 1, none⟩ = some (.int .u32 r.p) ∧ W.cell? ⟨b2, o2 + x.n.toNat * 3 + 2, none⟩ = some (.int .u64 r.b)) (first | exact HB.out _ b | exact HB.out _ (Below.drew b)) (first
            | ((with_reducible show Calls _ _ _ _ _); go_at_call 11; (with_reducible refine (HM.out _).mono ?_); rintro e w1 ⟨rfl, hb⟩; replace b := (by first | exact Gw.call b hb | exact Gw.call (Below.drew b) hb); clear hb)
            | fail)
          clear x0 x1 x2 r0 r1 r2 HB HWR
          have X9 := X.call b
          have hown9 := hown1.below b
          have bl9 := Gw.call bl1 b
          have hmap9 := hmap1.kept (row := none) ⟨b.os, b.tape, b.output, b.size, fun k hk _ => b.block k hk⟩ (by simp)
          clear X hown1 bl1 hmap1 b
          go_wp2_with fail
          go_roundw
          case rel => exact ⟨k + 1, acc, A', c', hlt, by go_num, rfl, Lib.hid (by rw [lacks_take HX.out HA.out]; exact STP.out), hown9, hmap9.mono (Nat.le_succ _), bl9⟩
          case measure => simp [intOf]; omega
        · have HM : Hid (∀ W, Calls Try.prog 11 #[.agg #[.int .u16 r.i, .int .u32 r.p, .int .u64 r.b], .agg #[.int .u8 x.n, .int .u16 x.i, .int .u32 x.s], .int .i64 m] W fun e w' => e = .returned (.bool true) ∧ Below W.heap.size W w') := Lib.hid (fun W => hq ▸ may_any r x m rok xok W)
          rw [hq] at hlk
          have HLK := Lib.hid hlk
          clear hlk hq
          go_upto_region 6 with fail
          clear e0 e1 e2
          obtain ⟨B1, hB1⟩ : ∃ B1, B1 = wr.heap.size := ⟨_, rfl⟩
          rw [← hB1] at X hbm ⊢
          generalize wr.alloc (.cells #[.int .u8 x.n, .int .u16 x.i, .int .u32 x.s] 30) = W1 at *
          clear hB1
          have x0 := X.blk.2.1 0 _ rfl
          have x1 := X.blk.2.1 1 _ rfl
          have x2 := X.blk.2.1 2 _ rfl
          have b := Below.refl W1.heap.size W1
          have HB : Hid (∀ W, Below W1.heap.size W1 W → (fun W => W.cell? ⟨B1, 0, none⟩ = some (.int .u8 x.n) ∧ W.cell? ⟨B1, 1, none⟩ = some (.int .u16 x.i) ∧ W.cell? ⟨B1, 2, none⟩ = some (.int .u32 x.s) ∧ W.cell? ⟨b2, o2 + x.n.toNat * 3, none⟩ = some (.int .u16 r.i) ∧ W.cell? ⟨b2, o2 + x.n.toNat * 3 + 1, none⟩ = some (.int .u32 r.p) ∧ W.cell? ⟨b2, o2 + x.n.toNat * 3 + 2, none⟩ = some (.int .u64 r.b)) W) := Lib.hid fun W hb => ⟨(X.call hb).blk.2.1 0 _ rfl, (X.call hb).blk.2.1 1 _ rfl, (X.call hb).blk.2.1 2 _ rfl, (hb.cell (p := ⟨b2, o2 + x.n.toNat * 3, none⟩) hb2).trans r0, (hb.cell (p := ⟨b2, o2 + x.n.toNat * 3 + 1, none⟩) hb2).trans r1, (hb.cell (p := ⟨b2, o2 + x.n.toNat * 3 + 2, none⟩) hb2).trans r2⟩
          have HWR : IntKind.i64.wrap x.n = x.n := IntWalk.i64_in _ (by omega)
          go_region_held3 (fun W => W.cell? ⟨B1, 0, none⟩ = some (.int .u8 x.n) ∧ W.cell? ⟨B1, 1, none⟩ = some (.int .u16 x.i) ∧ W.cell? ⟨B1, 2, none⟩ = some (.int .u32 x.s) ∧ W.cell? ⟨b2, o2 + x.n.toNat * 3, none⟩ = some (.int .u16 r.i) ∧ W.cell? ⟨b2, o2 + x.n.toNat * 3 + 1, none⟩ = some (.int .u32 r.p) ∧ W.cell? ⟨b2, o2 + x.n.toNat * 3 + 2, none⟩ = some (.int .u64 r.b)) (first | exact HB.out _ b | exact HB.out _ (Below.drew b)) (first
            | ((with_reducible show Calls _ _ _ _ _); go_at_call 11; (with_reducible refine (HM.out _).mono ?_); rintro e w1 ⟨rfl, hb⟩; replace b := (by first | exact Gw.call b hb | exact Gw.call (Below.drew b) hb); clear hb)
            | fail)
          clear x0 x1 x2 r0 r1 r2 HB HWR
          have X9 := X.call b
          have hown9 := hown1.below b
          have bl9 := Gw.call bl1 b
          have hmap9 := hmap1.kept (row := none) ⟨b.os, b.tape, b.output, b.size, fun k hk _ => b.block k hk⟩ (by simp)
          clear X hown1 bl1 hmap1 b
          have hkey := idKey xok
          have B1w := X9.lt
          have x90 := X9.blk.2.1 0 _ rfl
          have x91 := X9.blk.2.1 1 _ rfl
          have x92 := X9.blk.2.1 2 _ rfl
          cases hm : decide (x ∈ acc)
          · have hhas : Maps.has (idSet acc) (idLit x) = false := by rw [has_idSet ACCK.out xok]; exact hm
            have STP := Lib.hid (ddStep_new (p := lackOk rows m) HLK.out hm)
            clear hm HLK
            go_wp2_with (first | (at_lookup; refine wpList_lookup_own_unit _ rfl _ _ 53 rfl 30 54 idLaw Try.underlying53 (zeroUnit _) w.heap.size k _ rfl hmap9 _ _ rfl hkey ?_) | (at_mapUpdate; refine wpList_mapUpdate_own _ rfl _ _ _ 53 rfl 30 54 idLaw Try.underlying53 (unitElem (H := Unit)) w.heap.size k _ rfl (hmap9.alloc _) (by unfold maxLen; omega) _ _ _ rfl rfl hkey _ [] unitElem_mk ?_; intro w2 hmap2 hg2; have X2 := (X9.alloc (.cells #[] 54)).grown hg2 (fun j e => by cases e; omega); have y0 := X2.blk.2.1 0 _ rfl; have y1 := X2.blk.2.1 1 _ rfl; have y2 := X2.blk.2.1 2 _ rfl; have hs2 := hg2.size; rw [World.size_alloc] at hs2) | (at_builtin; refine wpList_app _ rfl _ _ 23 rfl (w.heap.size + 1) 30 i0 _ 8 Try.underlying23 hi0 hz0 hz1 hz2 rfl (by omega) idc_len idc_one _ acc rfl ((Own.keep (hown9.alloc (.cells #[] 54)) hg2 (own_not hown9)).alloc _) acc.length rfl _ _ 1 1 [x] rfl rfl (Rd.lit idc_len w2 _ rfl _ _ [x] rfl) (by omega) (by omega) (by rw [World.size_alloc]; omega) ?_; intro A2 c2 w3 hown3 hg3))
            have hg3' : (w2.alloc (.cells #[.int .u8 x.n, .int .u16 x.i, .int .u32 x.s] 30)).grownBy w3 (Value.slice A' acc.length c').ownBlock := hg3
            clear hg3
            have hno := own_not hown9
            have lown := Own.lt hown9
            go_roundw
            case rel =>
              refine ⟨k + 1, acc ++ [x], A2, c2, hlt, by go_num, by simp, Lib.hid (by rw [lacks_take HX.out HA.out]; exact STP.out), by simpa using hown3, ?_, ?_⟩
              · rw [idSet_snoc]
                refine (hmap2.alloc _).kept hg3' (fun e => ?_)
                rcases hno with h | h
                · rw [h] at e; cases e
                · exact h e.symm
              · exact Gw.gr (Gw.al (Gw.gr (Gw.al bl9 (.cells #[] 54)) hg2 (fun j e => by cases e; exact Nat.le_refl _)) (.cells #[.int .u8 x.n, .int .u16 x.i, .int .u32 x.s] 30)) hg3' (fun j hj => by have := lown j hj; omega)
            case measure => simp [intOf]; omega
          · have hhas : Maps.has (idSet acc) (idLit x) = true := by rw [has_idSet ACCK.out xok]; exact hm
            have STP := Lib.hid (ddStep_old (p := lackOk rows m) hm)
            clear hm HLK
            go_wp2_with (at_lookup; refine wpList_lookup_own_unit _ rfl _ _ 53 rfl 30 54 idLaw Try.underlying53 (zeroUnit _) w.heap.size k _ rfl hmap9 _ _ rfl hkey ?_)
            replace hown9 := hown9.alloc (.cells #[] 54)
            replace hmap9 := hmap9.alloc (.cells #[] 54)
            replace bl9 := Gw.al bl9 (.cells #[] 54)
            go_roundw
            case rel => exact ⟨k + 1, acc, A', c', hlt, by go_num, rfl, Lib.hid (by rw [lacks_take HX.out HA.out]; exact STP.out), hown9, hmap9.mono (Nat.le_succ _), bl9⟩
            case measure => simp [intOf]; omega
      · have STP := Lib.hid (ddStep_no (acc := acc) (lackOk_out (m := m) (x := x) (rows := rows) (by omega)))
        have t1 : decide ((rows.length : Int) ≤ x.n) = true := by simp; omega
        have t2 : decide (x.n < (rows.length : Int)) = false := by simp; omega
        clear hb1'
        go_upto_region 6 with fail
        clear e0 e1 e2
        obtain ⟨B1, hB1⟩ : ∃ B1, B1 = wr.heap.size := ⟨_, rfl⟩
        rw [← hB1] at X hbm ⊢
        generalize wr.alloc (.cells #[.int .u8 x.n, .int .u16 x.i, .int .u32 x.s] 30) = W1 at *
        clear hB1
        have x0 := X.blk.2.1 0 _ rfl
        have x1 := X.blk.2.1 1 _ rfl
        have x2 := X.blk.2.1 2 _ rfl
        have HWR : IntKind.i64.wrap x.n = x.n := IntWalk.i64_in _ (by omega)
        go_quiet (fail)
        clear x0 x1 x2 HWR
        have hown9 := hown1.below (Gw.drewN (Below.refl W1.heap.size W1) nq)
        have bl9 := Gw.drewN bl1 nq
        have hmap9 : (W1.drewN nq).ownsMap Try.prog 30 (unitElem (H := Unit)) w.heap.size k (idSet acc) := hmap1
        clear X hown1 bl1 hmap1
        go_wp2_with fail
        go_roundw
        case rel => exact ⟨k + 1, acc, A', c', hlt, by go_num, rfl, Lib.hid (by rw [lacks_take HX.out HA.out]; exact STP.out), hown9, hmap9.mono (Nat.le_succ _), bl9⟩
        case measure => simp [intOf]; omega
    · obtain rfl : k = ids.length := by omega
      have hl : lacksL ids rows m = acc := by rw [← HA.out, List.take_length]
      go_wp2_with fail
      go_ret
      rw [hl]
      exact ⟨A', c', rfl, hown.base_le (by omega), hbl⟩
end Go.Proofs.Ythockpallaoelaa
