/-
  DigestAlike: whoever offers just what another one has seen offers nothing that this one lacks; in whatever order ids are offered, the same are lacked (17).
-/
import Derived.Test.YthockpallaoelaaRefLacks
import Derived.Test.YthockpallaoelaaAwake17
import Derived.Test.YthockpallaoelaaMade
import Derived.Deep.DeepCutAuto
namespace Go.Proofs.Ythockpallaoelaa
open Go.RowKit
def hasOk (rows : List Rw) (x : Id) : Bool := match rows[x.n.toNat]? with | some r => hasR r x | none => false
theorem hasOk_in {rows : List Rw} {x : Id} {r : Rw} (h : rows[x.n.toNat]? = some r) : hasOk rows x = hasR r x := by unfold hasOk; rw [h]
theorem hasOk_out {rows : List Rw} {x : Id} (h : rows.length ≤ x.n.toNat) : hasOk rows x = false := by unfold hasOk; rw [List.getElem?_eq_none h]
def haveL (ids : List Id) (rows : List Rw) : List Id := ids.filter (hasOk rows)
theorem have_no {ids : List Id} {rows : List Rw} {k : Nat} {x : Id} (h : ids[k]? = some x) (hn : hasOk rows x = false) : haveL (ids.take (k + 1)) rows = haveL (ids.take k) rows := by
  unfold haveL; rw [List.take_add_one, h, Option.toList_some, List.filter_append]; simp [hn]
theorem have_yes {ids : List Id} {rows : List Rw} {k : Nat} {x : Id} (h : ids[k]? = some x) (hn : hasOk rows x = true) : haveL (ids.take (k + 1)) rows = haveL (ids.take k) rows ++ [x] := by
  unfold haveL; rw [List.take_add_one, h, Option.toList_some, List.filter_append]; simp [hn]
theorem have_le (ids : List Id) (rows : List Rw) (k : Nat) : (haveL (ids.take k) rows).length ≤ k := by
  have := List.length_filter_le (hasOk rows) (ids.take k)
  rw [List.length_take] at this
  unfold haveL; omega
theorem has_not_lack {rows : List Rw} {m : Int} {x : Id} (h : hasOk rows x = true) : lackOk rows m x = false := by
  unfold hasOk at h
  unfold lackOk
  split at h
  · rename_i r hr
    rw [hr]
    simp only [hasR, decide_eq_true_iff] at h
    obtain ⟨h1, h2, h3⟩ := h
    have hl : lim r x = r := by unfold lim; rw [if_neg (by omega)]
    show mayB r x m = false
    unfold mayB
    rw [decide_eq_false_iff_not, hl, h3]
    rintro ⟨_, _, _, _, h, _⟩
    cases h
  · cases h
theorem lacks_have (ids : List Id) (rows : List Rw) (m : Int) : lacksL (haveL ids rows) rows m = [] := dd_none _ fun x hx => has_not_lack (List.mem_filter.1 hx).2
theorem lacks_turn {ids : List Id} {rows : List Rw} {m : Int} {k : Nat} {y : Id} : y ∈ lacksL (ids.drop k ++ ids.take k) rows m ↔ y ∈ lacksL ids rows m := by
  unfold lacksL
  rw [mem_dd, mem_dd, List.mem_append]
  have : y ∈ ids.drop k ∨ y ∈ ids.take k ↔ y ∈ ids := by
    conv => rhs; rw [← List.take_append_drop k ids, List.mem_append]
    exact Or.comm
  rw [this]
theorem alike1_any (l : List Id) (A : Option Addr) (cap : Nat) (w : World) (hr : Rd idc 3 w.heap.size w A l) (hlen : l.length ≤ 1000) :
    Calls Try.prog 15 #[.slice A l.length cap] w fun e w' => ∃ A' c', e = .returned (.slice A' (madeL l).length c') ∧ Own idc 3 30 w.heap.size w' (.slice A' (madeL l).length c') (madeL l) ∧ Below w.heap.size w w' := by
  go_enter Try.func15, Try.ntmps15
  go_wp2_with fail
  refine (made_any l A cap _ hr hlen).mono ?_
  rintro e w1 ⟨A1, c1, rfl, o1, hb⟩
  go_wp2_with fail
  go_ret
  exact ⟨A1, c1, rfl, o1, hb⟩
set_option maxRecDepth 100000 in
set_option maxHeartbeats 8000000 in
theorem dalike_any (rows : List Rw) (ids : List Id) (m t : Int) (A B : Option Addr) (ca cb : Nat) (w : World) (ha : Rd idc 3 w.heap.size w A ids) (hb : Rd rowc 3 w.heap.size w B rows) (hok : ∀ r ∈ rows, r.ok) (hio : ∀ x ∈ ids, x.ok) (hl : rows.length ≤ 9223372036854775807) (hl2 : ids.length ≤ ca) (hca : ca ≤ 9223372036854775807) (ht : 0 ≤ t ∧ t ≤ 255) :
    Calls Try.prog 4 #[.slice B rows.length cb, .slice A ids.length ca, .int .i64 m, .int .u8 t] w fun e w' => e = .returned (.bool true) ∧ Below w.heap.size w w' := by
  obtain ⟨i0, hi0, hz0, hz1, hz2⟩ := info_parts Try.infoLk
  have HR := Lib.hid hok
  have HI := Lib.hid hio
  clear hok hio
  go_enter Try.func4, Try.ntmps4
  go_wp2_with fail
  refine (right17_any rows B cb m 20 _ hb HR.out hl).mono ?_
  rintro e w1 ⟨rfl, b⟩
  cases hq : right17 rows m 20
  · clear hq
    go_wp2_with fail
    refine (awake_any _).mono ?_
    rintro e w2 ⟨rfl, hb⟩
    replace b := Gw.call b hb
    clear hb
    go_wp2_with fail
    go_ret
    exact ⟨rfl, b⟩
  · have h20 : rows.length ≤ 20 := by
      unfold right17 at hq; rw [decide_eq_true_iff] at hq; have := hq.2.1; omega
    clear hq
    by_cases h60 : 60 < ids.length
    · have t1 : decide ((60 : Int) < (ids.length : Int)) = true := by simp; omega
      go_wp2_with fail
      refine (awake_any _).mono ?_
      rintro e w2 ⟨rfl, hb⟩
      replace b := Gw.call b hb
      clear hb
      go_wp2_with fail
      go_ret
      exact ⟨rfl, b⟩
    · have t1 : decide ((60 : Int) < (ids.length : Int)) = false := by simp; omega
      obtain ⟨kk, hkk⟩ : ∃ kk : Nat, t % ((ids.length : Int) + 1) = kk := ⟨(t % ((ids.length : Int) + 1)).toNat, by have := Int.emod_nonneg t (b := (ids.length : Int) + 1) (by omega); omega⟩
      have hkl : kk ≤ ids.length := by have := Int.emod_lt_of_pos t (b := (ids.length : Int) + 1) (by omega); omega
      have hk1 : (kk : Int) ≤ (ids.length : Int) := by omega
      have hk2 : (kk : Int) ≤ (ca : Int) := by omega
      have HKK := Lib.hid hkk
      have hl2' := hl2
      clear hkk
      go_wp2_with fail
      clear t1
      go_loopw [9, 28] (fun v i wr => ∃ (k : Nat) (acc : List Id) (A' : Option Addr) (c' : Nat), k ≤ ids.length ∧ i = .int .i64 k ∧ v = .slice A' acc.length c' ∧ Hid (haveL (ids.take k) rows = acc) ∧ Own idc 3 30 w.heap.size wr (.slice A' acc.length c') acc ∧ Below w.heap.size w wr) (fun _ i _ => ids.length - (intOf i).toNat)
      case atStart => exact ⟨0, [], none, 0, Nat.zero_le _, rfl, rfl, Lib.hid rfl, Own.nil_, b⟩
      case round =>
        obtain ⟨k, acc, A', c', hk, rfl, rfl, HA, hown, hbl⟩ := hrel
        by_cases hlt : k < ids.length
        · obtain ⟨x, hx⟩ : ∃ x, ids[k]? = some x := ⟨_, List.getElem?_eq_getElem hlt⟩
          obtain ⟨b1, o1, rfl, hb1, e0, e1, e2⟩ := (ha.below hbl).id3 hx
          have xok := HI.out x (List.mem_of_getElem? hx)
          have HX := Lib.hid hx
          clear hx ha
          have xn := xok.1
          have X := Ob.new wr #[.int .u8 x.n, .int .u16 x.i, .int .u32 x.s] 30
          have bl1 := Gw.al hbl (.cells #[.int .u8 x.n, .int .u16 x.i, .int .u32 x.s] 30)
          have hown1 := hown.alloc (.cells #[.int .u8 x.n, .int .u16 x.i, .int .u32 x.s] 30)
          have ACCL := have_le ids rows k
          rw [HA.out] at ACCL
          have hb1' := hb.up bl1
          clear hown hbl hb
          by_cases hin : x.n.toNat < rows.length
          · obtain ⟨r, hr⟩ : ∃ r, rows[x.n.toNat]? = some r := ⟨_, List.getElem?_eq_getElem hin⟩
            have hlk := hasOk_in (x := x) hr
            have rok := HR.out r (List.mem_of_getElem? hr)
            obtain ⟨b2, o2, rfl, hb2, r0, r1, r2⟩ := row_at hb1' hr
            have t2 : decide (x.n < (rows.length : Int)) = true := by simp; omega
            have t3 : x.n < (rows.length : Int) := by omega
            clear hr hb1'
            cases hq2 : hasR r x
            · have HM : Hid (∀ W, Calls Try.prog 14 #[.agg #[.int .u16 r.i, .int .u32 r.p, .int .u64 r.b], .agg #[.int .u8 x.n, .int .u16 x.i, .int .u32 x.s]] W fun e w' => e = .returned (.bool false) ∧ Below W.heap.size W w') := Lib.hid (fun W => hq2 ▸ rhas_any r x rok xok W)
              rw [hq2] at hlk
              have STP := Lib.hid hlk
              clear hlk hq2
              go_upto_region 7 with fail
              clear e0 e1 e2
              obtain ⟨B1, hB1⟩ : ∃ B1, B1 = wr.heap.size := ⟨_, rfl⟩
              rw [← hB1] at X ⊢
              generalize wr.alloc (.cells #[.int .u8 x.n, .int .u16 x.i, .int .u32 x.s] 30) = W1 at *
              clear hB1
              have x0 := X.blk.2.1 0 _ rfl
              have x1 := X.blk.2.1 1 _ rfl
              have x2 := X.blk.2.1 2 _ rfl
              have b := Below.refl W1.heap.size W1
              have HB : Hid (∀ W, Below W1.heap.size W1 W → (fun W => W.cell? ⟨B1, 0, none⟩ = some (.int .u8 x.n) ∧ W.cell? ⟨B1, 1, none⟩ = some (.int .u16 x.i) ∧ W.cell? ⟨B1, 2, none⟩ = some (.int .u32 x.s) ∧ W.cell? ⟨b2, o2 + x.n.toNat * 3, none⟩ = some (.int .u16 r.i) ∧ W.cell? ⟨b2, o2 + x.n.toNat * 3 + 1, none⟩ = some (.int .u32 r.p) ∧ W.cell? ⟨b2, o2 + x.n.toNat * 3 + 2, none⟩ = some (.int .u64 r.b)) W) := Lib.hid fun W hb => ⟨(X.call hb).blk.2.1 0 _ rfl, (X.call hb).blk.2.1 1 _ rfl, (X.call hb).blk.2.1 2 _ rfl, (hb.cell (p := ⟨b2, o2 + x.n.toNat * 3, none⟩) hb2).trans r0, (hb.cell (p := ⟨b2, o2 + x.n.toNat * 3 + 1, none⟩) hb2).trans r1, (hb.cell (p := ⟨b2, o2 + x.n.toNat * 3 + 2, none⟩) hb2).trans r2⟩
              have HWR : IntKind.i64.wrap x.n = x.n := IntWalk.i64_in _ (by omega)
              go_region_held3 (fun W => W.cell? ⟨B1, 0, none⟩ = some (.int .u8 x.n) ∧ W.cell? ⟨B1, 1, none⟩ = some (.int .u16 x.i) ∧ W.cell? ⟨B1, 2, none⟩ = some (.int .u32 x.s) ∧ W.cell? ⟨b2, o2 + x.n.toNat * 3, none⟩ = some (.int .u16 r.i) ∧ W.cell? ⟨b2, o2 + x.n.toNat * 3 + 1, none⟩ = some (.int .u32 r.p) ∧ W.cell? ⟨b2, o2 + x.n.toNat * 3 + 2, none⟩ = some (.int .u64 r.b)) (first | exact HB.out _ b | exact HB.out _ (Below.drew b)) (first
                | ((with_reducible show Calls _ _ _ _ _); go_at_call 14; (with_reducible refine (HM.out _).mono ?_); rintro e w2 ⟨rfl, hb⟩; replace b := (by first | exact Gw.call b hb | exact Gw.call (Below.drew b) hb); clear hb)
                | fail)
              clear x0 x1 x2 r0 r1 r2 HB HWR
              have X9 := X.call b
              have hown9 := hown1.below b
              have bl9 := Gw.call bl1 b
              clear X hown1 bl1 b
              go_wp2_with fail
              go_roundw
              case rel => exact ⟨k + 1, acc, A', c', hlt, by go_num, rfl, Lib.hid (by rw [have_no HX.out STP.out]; exact HA.out), hown9, bl9⟩
              case measure => simp [intOf]; omega
            · have HM : Hid (∀ W, Calls Try.prog 14 #[.agg #[.int .u16 r.i, .int .u32 r.p, .int .u64 r.b], .agg #[.int .u8 x.n, .int .u16 x.i, .int .u32 x.s]] W fun e w' => e = .returned (.bool true) ∧ Below W.heap.size W w') := Lib.hid (fun W => hq2 ▸ rhas_any r x rok xok W)
              rw [hq2] at hlk
              have STP := Lib.hid hlk
              clear hlk hq2
              go_upto_region 7 with fail
              clear e0 e1 e2
              obtain ⟨B1, hB1⟩ : ∃ B1, B1 = wr.heap.size := ⟨_, rfl⟩
              rw [← hB1] at X ⊢
              generalize wr.alloc (.cells #[.int .u8 x.n, .int .u16 x.i, .int .u32 x.s] 30) = W1 at *
              clear hB1
              have x0 := X.blk.2.1 0 _ rfl
              have x1 := X.blk.2.1 1 _ rfl
              have x2 := X.blk.2.1 2 _ rfl
              have b := Below.refl W1.heap.size W1
              have HB : Hid (∀ W, Below W1.heap.size W1 W → (fun W => W.cell? ⟨B1, 0, none⟩ = some (.int .u8 x.n) ∧ W.cell? ⟨B1, 1, none⟩ = some (.int .u16 x.i) ∧ W.cell? ⟨B1, 2, none⟩ = some (.int .u32 x.s) ∧ W.cell? ⟨b2, o2 + x.n.toNat * 3, none⟩ = some (.int .u16 r.i) ∧ W.cell? ⟨b2, o2 + x.n.toNat * 3 + 1, none⟩ = some (.int .u32 r.p) ∧ W.cell? ⟨b2, o2 + x.n.toNat * 3 + 2, none⟩ = some (.int .u64 r.b)) W) := Lib.hid fun W hb => ⟨(X.call hb).blk.2.1 0 _ rfl, (X.call hb).blk.2.1 1 _ rfl, (X.call hb).blk.2.1 2 _ rfl, (hb.cell (p := ⟨b2, o2 + x.n.toNat * 3, none⟩) hb2).trans r0, (hb.cell (p := ⟨b2, o2 + x.n.toNat * 3 + 1, none⟩) hb2).trans r1, (hb.cell (p := ⟨b2, o2 + x.n.toNat * 3 + 2, none⟩) hb2).trans r2⟩
              have HWR : IntKind.i64.wrap x.n = x.n := IntWalk.i64_in _ (by omega)
              go_region_held3 (fun W => W.cell? ⟨B1, 0, none⟩ = some (.int .u8 x.n) ∧ W.cell? ⟨B1, 1, none⟩ = some (.int .u16 x.i) ∧ W.cell? ⟨B1, 2, none⟩ = some (.int .u32 x.s) ∧ W.cell? ⟨b2, o2 + x.n.toNat * 3, none⟩ = some (.int .u16 r.i) ∧ W.cell? ⟨b2, o2 + x.n.toNat * 3 + 1, none⟩ = some (.int .u32 r.p) ∧ W.cell? ⟨b2, o2 + x.n.toNat * 3 + 2, none⟩ = some (.int .u64 r.b)) (first | exact HB.out _ b | exact HB.out _ (Below.drew b)) (first
                | ((with_reducible show Calls _ _ _ _ _); go_at_call 14; (with_reducible refine (HM.out _).mono ?_); rintro e w2 ⟨rfl, hb⟩; replace b := (by first | exact Gw.call b hb | exact Gw.call (Below.drew b) hb); clear hb)
                | fail)
              clear x0 x1 x2 r0 r1 r2 HB HWR
              have X9 := X.call b
              have hown9 := hown1.below b
              have bl9 := Gw.call bl1 b
              clear X hown1 bl1 b
              have x90 := X9.blk.2.1 0 _ rfl
              have x91 := X9.blk.2.1 1 _ rfl
              have x92 := X9.blk.2.1 2 _ rfl
              have sz9 := bl9.size
              go_wp2_with (at_builtin; refine wpList_app _ rfl _ _ 23 rfl w.heap.size 30 i0 _ 8 Try.underlying23 hi0 hz0 hz1 hz2 rfl (by omega) idc_len idc_one _ acc rfl (hown9.alloc _) acc.length rfl _ _ 1 1 [x] rfl rfl (Rd.lit idc_len w2 _ rfl _ _ [x] rfl) (by omega) (by omega) (by rw [World.size_alloc]; omega) ?_; intro A2 c2 w3 hown3 hg3)
              have hg3' : (w2.alloc (.cells #[.int .u8 x.n, .int .u16 x.i, .int .u32 x.s] 30)).grownBy w3 (Value.slice A' acc.length c').ownBlock := hg3
              clear hg3
              have lown := Own.lt hown9
              go_roundw
              case rel => exact ⟨k + 1, acc ++ [x], A2, c2, hlt, by go_num, by simp, Lib.hid (by rw [have_yes HX.out STP.out, HA.out]), by simpa using hown3, Gw.gr (Gw.al bl9 _) hg3' lown⟩
              case measure => simp [intOf]; omega
          · have STP := Lib.hid (hasOk_out (x := x) (rows := rows) (by omega))
            have t2 : decide (x.n < (rows.length : Int)) = false := by simp; omega
            clear hb1'
            go_upto_region 7 with fail
            clear e0 e1 e2
            obtain ⟨B1, hB1⟩ : ∃ B1, B1 = wr.heap.size := ⟨_, rfl⟩
            rw [← hB1] at X ⊢
            generalize wr.alloc (.cells #[.int .u8 x.n, .int .u16 x.i, .int .u32 x.s] 30) = W1 at *
            clear hB1
            have x0 := X.blk.2.1 0 _ rfl
            have x1 := X.blk.2.1 1 _ rfl
            have x2 := X.blk.2.1 2 _ rfl
            have HWR : IntKind.i64.wrap x.n = x.n := IntWalk.i64_in _ (by omega)
            go_quiet (fail)
            clear x0 x1 x2 HWR
            have hown9 := hown1.below (Gw.drewN (Below.refl W1.heap.size W1) nq)
            have bl9 := Gw.drewN bl1 nq
            clear X hown1 bl1
            go_wp2_with fail
            go_roundw
            case rel => exact ⟨k + 1, acc, A', c', hlt, by go_num, rfl, Lib.hid (by rw [have_no HX.out STP.out]; exact HA.out), hown9, bl9⟩
            case measure => simp [intOf]; omega
        · obtain rfl : k = ids.length := by omega
          have hl0 : lacksL acc rows m = [] := by rw [← HA.out, List.take_length]; exact lacks_have ids rows m
          have hacc : ∀ x ∈ acc, x.ok := by rw [← HA.out, List.take_length]; exact fun x hx => HI.out x (List.mem_filter.1 hx).1
          have ACCL := have_le ids rows ids.length
          rw [HA.out] at ACCL
          have hra := ha.up hbl
          have hrb := hb.up hbl
          have L1 := Lib.hid (fun W h1 h2 => lacks_any acc rows m A' B c' cb W h1 h2 hacc HR.out (by omega) (by omega))
          rw [hl0] at L1
          have hmt : madeL (lacksL (ids.drop kk ++ ids.take kk) rows m) = madeL (lacksL ids rows m) := eq_of_mem (made_rise _) (made_rise _) (fun y => by rw [mem_made, mem_made, lacks_turn])
          clear hacc hl0 HA ha hb
          go_wp2_with fail
          refine (L1.out _ (hown.rd idc_len) hrb).mono ?_
          rintro e w3 ⟨A3, c3, rfl, -, hb⟩
          replace hbl := Gw.call hbl hb
          replace hra := hra.up hb
          replace hrb := hrb.up hb
          clear hb
          clear hown L1
          go_wp2_with fail
          refine (lacks_any ids rows m A B ca cb _ hra hrb HI.out HR.out (by omega) (by omega)).mono ?_
          rintro e w4 ⟨A4, c4, rfl, o4, hb⟩
          replace hbl := Gw.call hbl hb
          replace hra := hra.up hb
          replace hrb := hrb.up hb
          clear hb
          rw [HKK.out]
          go_wp2_with fail
          clear b
          have b := Below.refl w4.heap.size w4
          have ll : (ids.drop kk ++ ids.take kk).length = ids.length := by simp; omega
          have ld : (ids.drop kk).length = ids.length - kk := by simp
          have hturn : ∀ x ∈ ids.drop kk ++ ids.take kk, x.ok := fun x hx => HI.out x ((List.mem_append.1 hx).elim (fun h => List.mem_of_mem_drop h) (fun h => List.mem_of_mem_take h))
          have L2 : ∀ n A' c' W, n = ids.length → Rd idc 3 W.heap.size W A' (ids.drop kk ++ ids.take kk) → Rd rowc 3 W.heap.size W B rows → Calls Try.prog 10 #[.slice A' n c', .slice B rows.length cb, .int .i64 m] W fun e w' => ∃ A2 c2, e = .returned (.slice A2 (lacksL (ids.drop kk ++ ids.take kk) rows m).length c2) ∧ Own idc 3 30 W.heap.size w' (.slice A2 (lacksL (ids.drop kk ++ ids.take kk) rows m).length c2) (lacksL (ids.drop kk ++ ids.take kk) rows m) ∧ Below W.heap.size W w' := fun n A' c' W hn h h2 => by
            have := lacks_any (ids.drop kk ++ ids.take kk) rows m A' B c' cb W h h2 hturn HR.out (by omega) (by omega)
            rw [ll, ← hn] at this
            exact this
          replace L2 := Lib.hid L2
          have lla : (lacksL ids rows m).length ≤ 60 := by have := dd_len (p := lackOk rows m) ids; unfold lacksL; omega
          have llt : (lacksL (ids.drop kk ++ ids.take kk) rows m).length ≤ 60 := by have := dd_len (p := lackOk rows m) (ids.drop kk ++ ids.take kk); unfold lacksL; omega
          have lma : (madeL (lacksL ids rows m)).length ≤ 60 := by have := made_len (lacksL ids rows m); omega
          have L0 : Own idc 3 30 w4.heap.size ((w4.alloc (.cells #[] 30)).drew) (.slice (some ⟨w4.heap.size, 0, none⟩) 0 0) [] := Own.drew (Own.litg _ _ rfl (Nat.le_refl _))
          clear hturn
          have HMT := Lib.hid hmt
          clear hmt ACCL hk hlt hl hl2 HKK
          have hlc := hl2'
          go_region_held3 (fun W => True) (first | trivial) (first
            | ((with_reducible show Calls _ _ _ _ _); go_at_call 10; (with_reducible refine (L2.out _ _ _ _ (by omega) (hc.rd idc_len) (hrb.up b)).mono ?_); rintro e w7 ⟨A7, c7, rfl, o7, hb⟩; replace b := Gw.call b hb; clear hb hc; dsimp only)
            | (have hc := L0; clear L0; replace b := Gw.drew (Gw.al b (.cells #[] 30)); refine step_app rfl _ _ _ _ rfl w4.heap.size 30 i0 _ 8 Try.underlying23 hi0 hz0 hz1 hz2 rfl (by omega) idc_len idc_one _ _ rfl hc 0 rfl _ _ _ _ (ids.drop kk) rfl (by simp) (Rd.cut (hra.up b) hlc) (by omega) (by omega) b.size ?_; intro A5 c5 w5 hc3 hg; have hlo := Own.lt hc; replace b := Gw.gr b hg (fun k' h => hlo k' h); clear hg hlo hc; have hc := hc3; clear hc3; (try simp only [List.nil_append] at hc))
            | (refine step_app rfl _ _ _ _ rfl w4.heap.size 30 i0 _ 8 Try.underlying23 hi0 hz0 hz1 hz2 rfl (by omega) idc_len idc_one _ _ rfl hc (0 + (ids.length - kk)) (by simp) _ _ _ _ (ids.take kk) rfl (by simp; omega) (Rd.take (hra.up b) kk) (by omega) (by omega) b.size ?_; intro A5 c5 w5 hc3 hg; have hlo := Own.lt hc; replace b := Gw.gr b hg (fun k' h => hlo k' h); clear hg hlo hc; have hc := hc3; clear hc3; (try simp only [List.nil_append] at hc))
            | fail)
          all_goals
            clear hra hrb
            replace o4 := o4.below b
            replace hbl := Gw.call hbl b
            clear b L2
            go_wp2_with fail
            all_goals
              refine (alike1_any _ A4 c4 _ (o4.rd idc_len) (by omega)).mono ?_
              rintro e w8 ⟨A8, c8, rfl, o8, hb⟩
              replace o7 := o7.below hb
              replace hbl := Gw.call hbl hb
              clear hb o4
              go_wp2_with fail
              refine (alike1_any _ A7 c7 _ (o7.rd idc_len) (by omega)).mono ?_
              rintro e w9 ⟨A9, c9, rfl, o9, hb⟩
              replace o8 := o8.below hb
              replace hbl := Gw.call hbl hb
              clear hb o7
              rw [HMT.out] at o9 ⊢
              go_wp2_with fail
              refine (same_any _ _ A8 A9 c8 c9 _ (o8.rd idc_len) (o9.rd idc_len) (by omega) (by omega)).mono ?_
              rintro e w10 ⟨rfl, hb⟩
              rw [decide_eq_true rfl]
              replace hbl := Gw.call hbl hb
              clear hb o8 o9
              go_wp2_with fail
              refine (awake_any _).mono ?_
              rintro e w11 ⟨rfl, hb⟩
              replace hbl := Gw.call hbl hb
              clear hb
              go_wp2_with fail
              go_ret
              exact ⟨rfl, hbl⟩
end Go.Proofs.Ythockpallaoelaa
