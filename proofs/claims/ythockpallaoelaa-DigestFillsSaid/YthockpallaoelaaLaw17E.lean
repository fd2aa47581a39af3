/-
  DigestFills (17).
-/
import Derived.Test.YthockpallaoelaaFillsL
import Derived.Test.YthockpallaoelaaLaw17D
import Derived.Test.YthockpallaoelaaLaw17A
import Derived.Test.YthockpallaoelaaIdSets
import Derived.Test.YthockpallaoelaaIdLists
namespace Go.Proofs.Ythockpallaoelaa
open Go.RowKit
theorem World.cell?_alloc_lt' {w : World} {p : Addr} {v : Value} (h : w.cell? p = some v) (o : Obj) : (w.alloc o).cell? p = some v := by
  rw [World.cell?_alloc_lt _ _ _ (World.block_lt_of_cell? w p h)]; exact h
theorem lacks_one (rows : List Rw) (n : Nat) (A B : Option Addr) (ca cb : Nat) (x : Id) (m : Int) (w : World) (hl : rows.length = n) (ha : Rd idc 3 w.heap.size w A [x]) (hb : Rd rowc 3 w.heap.size w B rows) (hno : lackOk rows m x = false) (hx : x.ok) (hg : ∀ r ∈ rows, r.ok) (hn : n ≤ 1000000) :
    Calls Try.prog 10 #[.slice A 1 ca, .slice B n cb, .int .i64 m] w fun e w' => ∃ A' c', e = .returned (.slice A' 0 c') ∧ Below w.heap.size w w' := by
  subst hl
  refine (lacks_any [x] rows m A B ca cb w ha hb (fun y hy => by obtain rfl : y = x := by simpa using hy
                                                                 exact hx) hg (by simp) hn).mono ?_
  rintro e w' ⟨A', c', rfl, _, hb⟩
  rw [show lacksL [x] rows m = [] from dd_none _ (fun y hy => by obtain rfl : y = x := by simpa using hy
                                                                 exact hno)]
  exact ⟨A', c', rfl, hb⟩
theorem has_nil (x : Id) (A : Option Addr) (c : Nat) (w : World) :
    Calls Try.prog 12 #[.slice A 0 c, idv x] w fun e w' => e = .returned (.bool false) ∧ Below w.heap.size w w' :=
  has_any [] x A c w Rd.nil_ (by simp)
theorem Own.head {α : Type} {enc : α → List Value} {sz : Nat} {E : TypeId} {base : Nat} {w : World} {A : Option Addr} {n c : Nat} {l : List α} (h : Own enc sz E base w (.slice A n c) l) (hl : 0 < l.length) : ∃ g, A = some ⟨g, 0, none⟩ := by
  rcases h.2 with ⟨_, h0⟩ | ⟨g, cap, cur, hv, _⟩
  · omega
  · injection hv with hA _ _
    exact ⟨g, hA⟩
set_option maxRecDepth 100000 in
set_option maxHeartbeats 8000000 in
theorem dfills_any (rows : List Rw) (ids : List Id) (m : Int) (B A : Option Addr) (cb ca : Nat) (w : World) (hr : Rd rowc 3 w.heap.size w B rows) (hi : Rd idc 3 w.heap.size w A ids) (hrok : ∀ r ∈ rows, r.ok) (hiok : ∀ x ∈ ids, x.ok) (hrl : rows.length ≤ 9223372036854775807) (hil : ids.length ≤ 9223372036854775807) :
    Calls Try.prog 3 #[.slice B rows.length cb, .slice A ids.length ca, .int .i64 m] w fun e w' => e = .returned (.bool true) ∧ Below w.heap.size w w' := by
  obtain ⟨i0, hi0, hz0, hz1, hz2⟩ := info_parts Try.infoRow17
  have HR17 := Lib.hid (fun W h => right17_any rows B cb m 20 W h hrok hrl)
  have HROK := Lib.hid hrok
  have HIOK := Lib.hid hiok
  clear hrok hiok
  go_enter Try.func3, Try.ntmps3
  go_wp2_with fail
  refine (HR17.out _ hr).mono ?_
  rintro e w0 ⟨rfl, bl⟩
  have HRG := Lib.hid (fun h => right17_good (m := m) (most := 20) HROK.out h)
  clear HR17
  cases hq : right17 rows m 20
  · clear HRG
    go_wp2_with fail
    refine (awake_any _).mono ?_
    rintro e w9 ⟨rfl, hb⟩
    replace bl := Gw.call bl hb
    clear hb
    go_wp2_with fail
    go_ret
    exact ⟨rfl, bl⟩
  obtain ⟨RG0, hr20, hm1, hm2⟩ := HRG.out hq
  have RG := Lib.hid RG0
  clear HRG RG0
  by_cases h60 : 60 < ids.length
  · have t1 : decide ((60 : Int) < (ids.length : Int)) = true := by simp; omega
    go_wp2_with fail
    refine (awake_any _).mono ?_
    rintro e w9 ⟨rfl, hb⟩
    replace bl := Gw.call bl hb
    clear hb
    go_wp2_with fail
    go_ret
    exact ⟨rfl, bl⟩
  have t1 : decide ((60 : Int) < (ids.length : Int)) = false := by simp; omega
  have hr20' : rows.length ≤ 20 := by omega
  have hi60 : ids.length ≤ 60 := by omega
  have HL := Lib.hid (fun W h1 h2 => lacks_any ids rows m A B ca cb W h1 h2 HIOK.out HROK.out (by omega) (by omega))
  have HM := Lib.hid (fun x (h : x ∈ lacksL ids rows m) => lacks_mem h)
  have HI := Lib.hid (fun x (h1 : x ∈ ids) (h2 : lackOk rows m x = true) => lacks_in h1 h2)
  have HRI := Lib.hid (fun i x y (h1 : (lacksL ids rows m)[i]? = some x) (h2 : (lacksL ids rows m)[i + 1]? = some y) => lacks_rise h1 h2)
  have HF := Lib.hid (fun i x (h : (lacksL ids rows m)[i]? = some x) => lacks_fresh h)
  have hll : (lacksL ids rows m).length ≤ ids.length := dd_len ids
  obtain ⟨L, hL⟩ : ∃ L, L = lacksL ids rows m := ⟨_, rfl⟩
  rw [← hL] at HL HM HI HRI HF hll
  clear hL hrl hil h60
  replace hr := hr.up bl
  replace hi := hi.up bl
  go_wp2_with fail
  refine (HL.out _ hi hr).mono ?_
  rintro e w1 ⟨A7, c7, rfl, q7, hb⟩
  have rR := hr.up hb
  have rI := hi.up hb
  have rL := q7.rd idc_len
  have hc7 : L.length ≤ c7 := by
    obtain ⟨A', c', he, hle⟩ := Own.len q7
    injection he with _ _ h3
    omega
  replace bl := Gw.call bl hb
  clear q7 hb hr hi HL
  go_wp2_with fail
  go_loopw [8, 38] (fun av iv wr => ∃ (j a : Nat), j ≤ L.length ∧ iv = .int .i64 j ∧ av = .int .i64 a ∧ a ≤ ids.length ∧ Hid (∀ x, L[j]? = some x → a ≤ fi x ids) ∧ Below w1.heap.size w1 wr) (fun _ iv _ => L.length - (intOf iv).toNat)
  case atStart => exact ⟨0, 0, Nat.zero_le _, rfl, rfl, Nat.zero_le _, Lib.hid (fun _ _ => Nat.zero_le _), Below.refl _ _⟩
  case round =>
    obtain ⟨j, a, hj, rfl, rfl, ha, HA, bq⟩ := hrel
    by_cases hjl : j < L.length
    · obtain ⟨⟨n, i, s⟩, hx⟩ : ∃ x, L[j]? = some x := ⟨_, List.getElem?_eq_getElem (by omega)⟩
      have hxm := HM.out _ (List.mem_of_getElem? hx)
      have xok := Lib.hid (HIOK.out _ hxm.1)
      obtain ⟨⟨n0, n1⟩, ⟨j0, j1⟩, s0, s1⟩ := xok.out
      simp only at n0 n1 j0 j1 s0 s1
      obtain ⟨n, rfl⟩ := Int.eq_ofNat_of_zero_le n0
      obtain ⟨r, hr1, hmay⟩ := lack_row hxm.2
      simp only [Int.toNat_natCast] at hr1
      have HR1 := Lib.hid hr1
      have RR := Lib.hid (RG.out r (List.mem_of_getElem? hr1))
      have hnr : n < rows.length := (List.getElem?_eq_some_iff.1 hr1).1
      have haf := HA.out _ hx
      have hfl := fi_lt hxm.1
      have hfa := fi_at hxm.1
      have hfn := Lib.hid (fun b y => fi_no (x := (⟨n, i, s⟩ : Id)) (y := y) (l := ids) (b := b))
      have HN := Lib.hid (fun y h => HRI.out j ⟨n, i, s⟩ y hx h)
      generalize fi (⟨n, i, s⟩ : Id) ids = f at *
      have CM := Lib.hid (fun W => hmay ▸ may_any r ⟨n, i, s⟩ m RR.out.1 xok.out W)
      have HFA := Lib.hid hfa
      obtain ⟨bL, oL, hAL, hbL, hc⟩ := (rL.below bq).at_ hx
      subst hAL
      have d0 : wr.cell? ⟨bL, oL + j * 3, none⟩ = some (.int .u8 (n : Int)) := hc 0 _ rfl
      have d1 : wr.cell? ⟨bL, oL + j * 3 + 1, none⟩ = some (.int .u16 i) := hc 1 _ rfl
      have d2 : wr.cell? ⟨bL, oL + j * 3 + 2, none⟩ = some (.int .u32 s) := hc 2 _ rfl
      have G := Ob.new wr #[.int .u8 (n : Int), .int .u16 i, .int .u32 s] 30
      replace bq := Gw.al bq (.cells #[.int .u8 (n : Int), .int .u16 i, .int .u32 s] 30)
      have hji : (j : Int) < (L.length : Int) := by omega
      clear hc hx hxm hmay hr1 hfa HA
      go_wp2_with fail
      generalize hwq : wr.alloc (.cells #[.int .u8 (n : Int), .int .u16 i, .int .u32 s] 30) = wq at *
      generalize hg : wr.heap.size = g at *
      clear hwq hg d0 d1 d2
      go_loopw [8] (fun av wi => ∃ a : Nat, av = .int .i64 a ∧ a ≤ f ∧ Below wq.heap.size wq wi) (fun av _ => f - (intOf av).toNat)
      case atStart => exact ⟨a, rfl, haf, Below.refl _ _⟩
      case round =>
        clear haf
        obtain ⟨a, rfl, haf, bi⟩ := hrel
        have bw := Gw.call bq bi
        obtain ⟨y, hy⟩ : ∃ y, ids[a]? = some y := ⟨_, List.getElem?_eq_getElem (by omega)⟩
        have ta : decide ((a : Int) < (ids.length : Int)) = true := by simp; omega
        have tan : decide (a < ids.length) = true := by simp; omega
        have hai : (a : Int) < (ids.length : Int) := by omega
        have bk := Below.refl wr.heap.size wr
        have Gr := G.call bi
        by_cases haf2 : a < f
        · have hne := hfn.out a y haf2 hy
          have yok := Lib.hid (HIOK.out _ (List.mem_of_getElem? hy))
          have hyl := List.mem_of_getElem? hy
          obtain ⟨yn, yi, ys⟩ := y
          obtain ⟨⟨y0, y1⟩, ⟨y2, y3⟩, y4, y5⟩ := yok.out
          simp only at y0 y1 y2 y3 y4 y5
          obtain ⟨yn, rfl⟩ := Int.eq_ofNat_of_zero_le y0
          obtain ⟨bI, oI, hAI, hbI, hc⟩ := (rI.below (bw)).at_ hy
          subst hAI
          have f0 : wr.cell? ⟨bI, oI + a * 3, none⟩ = some (.int .u8 (yn : Int)) := hc 0 _ rfl
          have f1 : wr.cell? ⟨bI, oI + a * 3 + 1, none⟩ = some (.int .u16 yi) := hc 1 _ rfl
          have f2 : wr.cell? ⟨bI, oI + a * 3 + 2, none⟩ = some (.int .u32 ys) := hc 2 _ rfl
          clear hc
          have hbI2 : bI < wr.heap.size := Nat.lt_of_lt_of_le hbI bw.size
          have HB : Hid (∀ W, Below wr.heap.size wr W → (fun W : World => W.cell? ⟨g, 0, none⟩ = some (.int .u8 (n : Int)) ∧ W.cell? ⟨g, 1, none⟩ = some (.int .u16 i) ∧ W.cell? ⟨g, 2, none⟩ = some (.int .u32 s) ∧ W.cell? ⟨bI, oI + a * 3, none⟩ = some (.int .u8 (yn : Int)) ∧ W.cell? ⟨bI, oI + a * 3 + 1, none⟩ = some (.int .u16 yi) ∧ W.cell? ⟨bI, oI + a * 3 + 2, none⟩ = some (.int .u32 ys)) W) := Lib.hid fun W hb => ⟨(Gr.call hb).blk.2.1 0 _ rfl, (Gr.call hb).blk.2.1 1 _ rfl, (Gr.call hb).blk.2.1 2 _ rfl, (hb.cell (p := ⟨bI, _, none⟩) hbI2).trans f0, (hb.cell (p := ⟨bI, _, none⟩) hbI2).trans f1, (hb.cell (p := ⟨bI, _, none⟩) hbI2).trans f2⟩
          have hnx := neq_id ⟨yn, yi, ys⟩ ⟨n, i, s⟩
          rw [show decide ((⟨(yn : Int), yi, ys⟩ : Id) ≠ ⟨n, i, s⟩) = true by rw [decide_eq_true_iff]; exact hne] at hnx
          clear hne hy
          go_upto_region 8 with fail
          refine wp_region_held_drew (S := fun W : World => W.cell? ⟨g, 0, none⟩ = some (.int .u8 (n : Int)) ∧ W.cell? ⟨g, 1, none⟩ = some (.int .u16 i) ∧ W.cell? ⟨g, 2, none⟩ = some (.int .u32 s) ∧ W.cell? ⟨bI, oI + a * 3, none⟩ = some (.int .u8 (yn : Int)) ∧ W.cell? ⟨bI, oI + a * 3 + 1, none⟩ = some (.int .u16 yi) ∧ W.cell? ⟨bI, oI + a * 3 + 2, none⟩ = some (.int .u32 ys)) (by kernel_rfl) (HB.out _ (Below.drew bk)) (fun hHeld => ?_)
          refine take_d (i := 0) (oi := _) (v := ?_) (d := some 42) rfl (by kernel_rfl) (by as_aux_lemma => kernel_rfl) (by as_aux_lemma => kernel_rfl) (by as_aux_lemma => kernel_rfl) (fun _ _ _ h => h) (Or.inl ⟨by kernel_rfl, ?_⟩) hHeld ?_
          rotate_left
          · intro w hSw; (try dsimp only at hSw); go_simp; (try with_reducible rfl)
          try simp only [Act.put, List.setIfInBounds_toArray, List.set_cons_zero, List.set_cons_succ]
          refine take_d (i := 1) (oi := _) (v := ?_) (d := some 43) rfl (by kernel_rfl) (by as_aux_lemma => kernel_rfl) (by as_aux_lemma => kernel_rfl) (by as_aux_lemma => kernel_rfl) (fun _ _ _ h => h) (Or.inl ⟨by kernel_rfl, ?_⟩) hHeld ?_
          rotate_left
          · intro w hSw; (try dsimp only at hSw); go_simp; (try with_reducible rfl)
          try simp only [Act.put, List.setIfInBounds_toArray, List.set_cons_zero, List.set_cons_succ]
          refine take_d (i := 2) (oi := _) (v := ?_) (d := some 44) rfl (by kernel_rfl) (by as_aux_lemma => kernel_rfl) (by as_aux_lemma => kernel_rfl) (by as_aux_lemma => kernel_rfl) (fun _ _ _ h => h) (Or.inl ⟨by kernel_rfl, ?_⟩) hHeld ?_
          rotate_left
          · intro w hSw; (try dsimp only at hSw); go_simp; (try with_reducible rfl)
          try simp only [Act.put, List.setIfInBounds_toArray, List.set_cons_zero, List.set_cons_succ]
          refine take_d (i := 3) (oi := _) (v := .bool true) (d := some 45) rfl (by kernel_rfl) (by as_aux_lemma => kernel_rfl) (by as_aux_lemma => kernel_rfl) (by as_aux_lemma => kernel_rfl) (fun _ _ _ h => h) (Or.inl ⟨by kernel_rfl, ?_⟩) hHeld ?_
          · intro W hSw
            go_simp; first | done | simp only [ta] | simp only [tan] | simp [ta, tan]
          try simp only [Act.put, List.setIfInBounds_toArray, List.set_cons_zero, List.set_cons_succ]
          refine take_d (i := 4) (oi := _) (v := ?_) (d := some 46) rfl (by kernel_rfl) (by as_aux_lemma => kernel_rfl) (by as_aux_lemma => kernel_rfl) (by as_aux_lemma => kernel_rfl) (fun _ _ _ h => h) (Or.inl ⟨by kernel_rfl, ?_⟩) hHeld ?_
          rotate_left
          · intro w hSw; (try dsimp only at hSw); go_simp; (try with_reducible rfl)
          try simp only [Act.put, List.setIfInBounds_toArray, List.set_cons_zero, List.set_cons_succ]
          refine take_d (i := 5) (oi := _) (v := ?_) (d := some 47) rfl (by kernel_rfl) (by as_aux_lemma => kernel_rfl) (by as_aux_lemma => kernel_rfl) (by as_aux_lemma => kernel_rfl) (fun _ _ _ h => h) (Or.inl ⟨by kernel_rfl, ?_⟩) hHeld ?_
          rotate_left
          · intro w hSw; (try dsimp only at hSw); go_simp; (try with_reducible rfl)
          try simp only [Act.put, List.setIfInBounds_toArray, List.set_cons_zero, List.set_cons_succ]
          refine take_d (i := 6) (oi := _) (v := ?_) (d := some 48) rfl (by kernel_rfl) (by as_aux_lemma => kernel_rfl) (by as_aux_lemma => kernel_rfl) (by as_aux_lemma => kernel_rfl) (fun _ _ _ h => h) (Or.inl ⟨by kernel_rfl, ?_⟩) hHeld ?_
          rotate_left
          · intro w hSw; (try dsimp only at hSw); go_simp; (try with_reducible rfl)
          try simp only [Act.put, List.setIfInBounds_toArray, List.set_cons_zero, List.set_cons_succ]
          refine take_d (i := 7) (oi := _) (v := ?_) (d := some 49) rfl (by kernel_rfl) (by as_aux_lemma => kernel_rfl) (by as_aux_lemma => kernel_rfl) (by as_aux_lemma => kernel_rfl) (fun _ _ _ h => h) (Or.inl ⟨by kernel_rfl, ?_⟩) hHeld ?_
          rotate_left
          · intro w hSw; (try dsimp only at hSw); go_simp; (try with_reducible rfl)
          try simp only [Act.put, List.setIfInBounds_toArray, List.set_cons_zero, List.set_cons_succ]
          refine take_d (i := 8) (oi := _) (v := ?_) (d := some 50) rfl (by kernel_rfl) (by as_aux_lemma => kernel_rfl) (by as_aux_lemma => kernel_rfl) (by as_aux_lemma => kernel_rfl) (fun _ _ _ h => h) (Or.inl ⟨by kernel_rfl, ?_⟩) hHeld ?_
          rotate_left
          · intro w hSw; (try dsimp only at hSw); go_simp; (try with_reducible rfl)
          try simp only [Act.put, List.setIfInBounds_toArray, List.set_cons_zero, List.set_cons_succ]
          refine take_d (i := 9) (oi := _) (v := ?_) (d := some 51) rfl (by kernel_rfl) (by as_aux_lemma => kernel_rfl) (by as_aux_lemma => kernel_rfl) (by as_aux_lemma => kernel_rfl) (fun _ _ _ h => h) (Or.inl ⟨by kernel_rfl, ?_⟩) hHeld ?_
          rotate_left
          · intro w hSw; (try dsimp only at hSw); go_simp; (try with_reducible rfl)
          try simp only [Act.put, List.setIfInBounds_toArray, List.set_cons_zero, List.set_cons_succ]
          refine take_d (i := 10) (oi := _) (v := .bool true) (d := some 52) rfl (by kernel_rfl) (by as_aux_lemma => kernel_rfl) (by as_aux_lemma => kernel_rfl) (by as_aux_lemma => kernel_rfl) (fun _ _ _ h => h) (Or.inl ⟨by kernel_rfl, ?_⟩) hHeld ?_
          · intro W hSw
            go_simp; first | done | simp only [hnx] | simp [hnx]
          try simp only [Act.put, List.setIfInBounds_toArray, List.set_cons_zero, List.set_cons_succ]
          refine take_d (i := 11) (oi := _) (v := ?_) (d := some 53) rfl (by kernel_rfl) (by as_aux_lemma => kernel_rfl) (by as_aux_lemma => kernel_rfl) (by as_aux_lemma => kernel_rfl) (fun _ _ _ h => h) (Or.inl ⟨by kernel_rfl, ?_⟩) hHeld ?_
          rotate_left
          · intro w hSw; (try dsimp only at hSw); go_simp; (try with_reducible rfl)
          try simp only [Act.put, List.setIfInBounds_toArray, List.set_cons_zero, List.set_cons_succ]
          refine wpAnyH_done (by kernel_rfl) ?_ _
          clear hHeld HB hnx
          replace f0 : wr.drew.cell? ⟨bI, oI + a * 3, none⟩ = some (.int .u8 (yn : Int)) := f0
          replace f1 : wr.drew.cell? ⟨bI, oI + a * 3 + 1, none⟩ = some (.int .u16 yi) := f1
          replace f2 : wr.drew.cell? ⟨bI, oI + a * 3 + 2, none⟩ = some (.int .u32 ys) := f2
          have bz := Gw.drew (Gw.al bw (.cells #[.int .u8 (yn : Int), .int .u16 yi, .int .u32 ys] 30))
          have Gy : Ob (wr.alloc (.cells #[.int .u8 (yn : Int), .int .u16 yi, .int .u32 ys] 30)).drew wr.heap.size #[.int .u8 (yn : Int), .int .u16 yi, .int .u32 ys] 30 := Ob.new wr #[.int .u8 (yn : Int), .int .u16 yi, .int .u32 ys] 30
          have bi2 := Gw.drew (Gw.al bi (.cells #[.int .u8 (yn : Int), .int .u16 yi, .int .u32 ys] 30))
          go_upto_region 10 with fail
          generalize hwy : (wr.alloc (.cells #[.int .u8 (yn : Int), .int .u16 yi, .int .u32 ys] 30)).drew = wy at *
          clear hwy f0 f1 f2
          generalize hgy : wr.heap.size = gy at *
          clear hgy
          go_cut [79] (fun v wx => v = .bool false ∧ Below wy.heap.size wy wx)
          case first =>
            have bq := Below.refl wy.heap.size wy
            have way : IntKind.i64.wrap (yn : Int) = (yn : Int) := IntWalk.i64_in _ (by omega)
            by_cases hyn : yn < rows.length
            · obtain ⟨ry, hry⟩ : ∃ r, rows[yn]? = some r := ⟨_, List.getElem?_eq_getElem (by omega)⟩
              obtain ⟨bR, oR, hAR, hbR, hc⟩ := (rR.below bz).at_ hry
              subst hAR
              have e0 : wy.cell? ⟨bR, oR + yn * 3, none⟩ = some (.int .u16 ry.i) := hc 0 _ rfl
              have e1 : wy.cell? ⟨bR, oR + yn * 3 + 1, none⟩ = some (.int .u32 ry.p) := hc 1 _ rfl
              have e2 : wy.cell? ⟨bR, oR + yn * 3 + 2, none⟩ = some (.int .u64 ry.b) := hc 2 _ rfl
              have hbR2 : bR < wy.heap.size := Nat.lt_of_lt_of_le hbR bz.size
              have tyn : decide ((yn : Int) < (rows.length : Int)) = true := by simp; omega
              have tynn : decide (yn < rows.length) = true := by simp; omega
              have ynr : (yn : Int) < (rows.length : Int) := by omega
              have RYok := (RG.out ry (List.mem_of_getElem? hry)).1
              have CY := Lib.hid (fun W => may_any ry ⟨yn, yi, ys⟩ m RYok yok.out W)
              have HB : Hid (∀ W, Below wy.heap.size wy W → (fun W : World => W.cell? ⟨gy, 0, none⟩ = some (.int .u8 (yn : Int)) ∧ W.cell? ⟨gy, 1, none⟩ = some (.int .u16 yi) ∧ W.cell? ⟨gy, 2, none⟩ = some (.int .u32 ys) ∧ W.cell? ⟨bR, oR + yn * 3, none⟩ = some (.int .u16 ry.i) ∧ W.cell? ⟨bR, oR + yn * 3 + 1, none⟩ = some (.int .u32 ry.p) ∧ W.cell? ⟨bR, oR + yn * 3 + 2, none⟩ = some (.int .u64 ry.b)) W) := Lib.hid fun W hb => ⟨(Gy.call hb).blk.2.1 0 _ rfl, (Gy.call hb).blk.2.1 1 _ rfl, (Gy.call hb).blk.2.1 2 _ rfl, (hb.cell (p := ⟨bR, _, none⟩) hbR2).trans e0, (hb.cell (p := ⟨bR, _, none⟩) hbR2).trans e1, (hb.cell (p := ⟨bR, _, none⟩) hbR2).trans e2⟩
              clear e0 e1 e2 hc RYok
              cases hmy : mayB ry ⟨yn, yi, ys⟩ m
              · rw [hmy] at CY
                clear hmy hry
                refine wp_region_held_drew (S := fun W : World => W.cell? ⟨gy, 0, none⟩ = some (.int .u8 (yn : Int)) ∧ W.cell? ⟨gy, 1, none⟩ = some (.int .u16 yi) ∧ W.cell? ⟨gy, 2, none⟩ = some (.int .u32 ys) ∧ W.cell? ⟨bR, oR + yn * 3, none⟩ = some (.int .u16 ry.i) ∧ W.cell? ⟨bR, oR + yn * 3 + 1, none⟩ = some (.int .u32 ry.p) ∧ W.cell? ⟨bR, oR + yn * 3 + 2, none⟩ = some (.int .u64 ry.b)) (by kernel_rfl) (HB.out _ (Below.drew bq)) (fun hHeld => ?_)
                refine take_d (i := 0) (oi := _) (v := ?_) (d := some 58) rfl (by kernel_rfl) (by as_aux_lemma => kernel_rfl) (by as_aux_lemma => kernel_rfl) (by as_aux_lemma => kernel_rfl) (fun _ _ _ h => h) (Or.inl ⟨by kernel_rfl, ?_⟩) hHeld ?_
                rotate_left
                · intro w hSw; (try dsimp only at hSw); go_simp; (try with_reducible rfl)
                try simp only [Act.put, List.setIfInBounds_toArray, List.set_cons_zero, List.set_cons_succ]
                refine take_d (i := 1) (oi := _) (v := ?_) (d := some 59) rfl (by kernel_rfl) (by as_aux_lemma => kernel_rfl) (by as_aux_lemma => kernel_rfl) (by as_aux_lemma => kernel_rfl) (fun _ _ _ h => h) (Or.inl ⟨by kernel_rfl, ?_⟩) hHeld ?_
                rotate_left
                · intro w hSw; (try dsimp only at hSw); go_simp; (try with_reducible rfl)
                try simp only [Act.put, List.setIfInBounds_toArray, List.set_cons_zero, List.set_cons_succ]
                refine take_d (i := 2) (oi := _) (v := ?_) (d := some 60) rfl (by kernel_rfl) (by as_aux_lemma => kernel_rfl) (by as_aux_lemma => kernel_rfl) (by as_aux_lemma => kernel_rfl) (fun _ _ _ h => h) (Or.inl ⟨by kernel_rfl, ?_⟩) hHeld ?_
                rotate_left
                · intro w hSw; (try dsimp only at hSw); go_simp; (try with_reducible rfl)
                try simp only [Act.put, List.setIfInBounds_toArray, List.set_cons_zero, List.set_cons_succ]
                refine take_d (i := 3) (oi := _) (v := ?_) (d := some 61) rfl (by kernel_rfl) (by as_aux_lemma => kernel_rfl) (by as_aux_lemma => kernel_rfl) (by as_aux_lemma => kernel_rfl) (fun _ _ _ h => h) (Or.inl ⟨by kernel_rfl, ?_⟩) hHeld ?_
                rotate_left
                · intro w hSw; (try dsimp only at hSw); go_simp; (try with_reducible rfl)
                try simp only [Act.put, List.setIfInBounds_toArray, List.set_cons_zero, List.set_cons_succ]
                refine take_d (i := 4) (oi := _) (v := ?_) (d := some 62) rfl (by kernel_rfl) (by as_aux_lemma => kernel_rfl) (by as_aux_lemma => kernel_rfl) (by as_aux_lemma => kernel_rfl) (fun _ _ _ h => h) (Or.inl ⟨by kernel_rfl, ?_⟩) hHeld ?_
                rotate_left
                · intro w hSw; (try dsimp only at hSw); go_simp; (try with_reducible rfl)
                try simp only [Act.put, List.setIfInBounds_toArray, List.set_cons_zero, List.set_cons_succ]
                refine take_d (i := 5) (oi := _) (v := .bool true) (d := some 63) rfl (by kernel_rfl) (by as_aux_lemma => kernel_rfl) (by as_aux_lemma => kernel_rfl) (by as_aux_lemma => kernel_rfl) (fun _ _ _ h => h) (Or.inl ⟨by kernel_rfl, ?_⟩) hHeld ?_
                · intro W hSw
                  go_simp; first | done | simp only [tyn] | simp only [tynn] | simp only [way] | simp [tyn, tynn, way]
                try simp only [Act.put, List.setIfInBounds_toArray, List.set_cons_zero, List.set_cons_succ]
                refine take_d (i := 6) (oi := _) (v := ?_) (d := some 64) rfl (by kernel_rfl) (by as_aux_lemma => kernel_rfl) (by as_aux_lemma => kernel_rfl) (by as_aux_lemma => kernel_rfl) (fun _ _ _ h => h) (Or.inl ⟨by kernel_rfl, ?_⟩) hHeld ?_
                rotate_left
                · intro w hSw; (try dsimp only at hSw); go_simp; (try with_reducible rfl)
                try simp only [Act.put, List.setIfInBounds_toArray, List.set_cons_zero, List.set_cons_succ]
                refine take_d (i := 7) (oi := _) (v := ?_) (d := some 65) rfl (by kernel_rfl) (by as_aux_lemma => kernel_rfl) (by as_aux_lemma => kernel_rfl) (by as_aux_lemma => kernel_rfl) (fun _ _ _ h => h) (Or.inl ⟨by kernel_rfl, ?_⟩) hHeld ?_
                rotate_left
                · intro w hSw; (try dsimp only at hSw); go_simp; (try with_reducible rfl)
                try simp only [Act.put, List.setIfInBounds_toArray, List.set_cons_zero, List.set_cons_succ]
                refine take_d (i := 8) (oi := _) (v := ?_) (d := some 66) rfl (by kernel_rfl) (by as_aux_lemma => kernel_rfl) (by as_aux_lemma => kernel_rfl) (by as_aux_lemma => kernel_rfl) (fun _ _ _ h => h) (Or.inl ⟨by kernel_rfl, ?_⟩) hHeld ?_
                rotate_left
                · intro w hSw; (try dsimp only at hSw); go_simp; (try with_reducible rfl)
                try simp only [Act.put, List.setIfInBounds_toArray, List.set_cons_zero, List.set_cons_succ]
                refine take_d (i := 9) (oi := _) (v := ?_) (d := some 67) rfl (by kernel_rfl) (by as_aux_lemma => kernel_rfl) (by as_aux_lemma => kernel_rfl) (by as_aux_lemma => kernel_rfl) (fun _ _ _ h => h) (Or.inl ⟨by kernel_rfl, ?_⟩) hHeld ?_
                rotate_left
                · intro w hSw; (try dsimp only at hSw); go_simp; (try with_reducible rfl)
                try simp only [Act.put, List.setIfInBounds_toArray, List.set_cons_zero, List.set_cons_succ]
                refine take_d (i := 10) (oi := _) (v := ?_) (d := some 68) rfl (by kernel_rfl) (by as_aux_lemma => kernel_rfl) (by as_aux_lemma => kernel_rfl) (by as_aux_lemma => kernel_rfl) (fun _ _ _ h => h) (Or.inl ⟨by kernel_rfl, ?_⟩) hHeld ?_
                rotate_left
                · intro w hSw; (try dsimp only at hSw); go_simp; (try with_reducible rfl)
                try simp only [Act.put, List.setIfInBounds_toArray, List.set_cons_zero, List.set_cons_succ]
                refine take_d (i := 11) (oi := _) (v := ?_) (d := some 69) rfl (by kernel_rfl) (by as_aux_lemma => kernel_rfl) (by as_aux_lemma => kernel_rfl) (by as_aux_lemma => kernel_rfl) (fun _ _ _ h => h) (Or.inl ⟨by kernel_rfl, ?_⟩) hHeld ?_
                rotate_left
                · intro w hSw; (try dsimp only at hSw); go_simp; (try with_reducible rfl)
                try simp only [Act.put, List.setIfInBounds_toArray, List.set_cons_zero, List.set_cons_succ]
                refine take_d (i := 12) (oi := _) (v := ?_) (d := some 70) rfl (by kernel_rfl) (by as_aux_lemma => kernel_rfl) (by as_aux_lemma => kernel_rfl) (by as_aux_lemma => kernel_rfl) (fun _ _ _ h => h) (Or.inl ⟨by kernel_rfl, ?_⟩) hHeld ?_
                rotate_left
                · intro w hSw; (try dsimp only at hSw); go_simp; (try with_reducible rfl)
                try simp only [Act.put, List.setIfInBounds_toArray, List.set_cons_zero, List.set_cons_succ]
                refine take_d (i := 13) (oi := _) (v := ?_) (d := some 71) rfl (by kernel_rfl) (by as_aux_lemma => kernel_rfl) (by as_aux_lemma => kernel_rfl) (by as_aux_lemma => kernel_rfl) (fun _ _ _ h => h) (Or.inl ⟨by kernel_rfl, ?_⟩) hHeld ?_
                rotate_left
                · intro w hSw; (try dsimp only at hSw); go_simp; (try with_reducible rfl)
                try simp only [Act.put, List.setIfInBounds_toArray, List.set_cons_zero, List.set_cons_succ]
                refine wpAnyH_ready (rs := [14]) (by kernel_rfl) (by simp) ?_
                refine AllReadyH.cons rfl (fun K hK => ?_) AllReadyH.nil
                go_simp
                refine (CY.out _).mono ?_
                rintro e u1 ⟨rfl, hb⟩
                replace bq := (by first | exact Gw.call bq hb | exact Gw.call (Below.drew bq) hb)
                clear hb
                dsimp only
                refine hK.out _ _ (HB.out _ bq) (fun hHeld => ?_)
                clear hK K
                try simp only [Act.put, List.setIfInBounds_toArray, List.set_cons_zero, List.set_cons_succ]
                refine take_d (i := 15) (oi := _) (v := ?_) (d := some 73) rfl (by kernel_rfl) (by as_aux_lemma => kernel_rfl) (by as_aux_lemma => kernel_rfl) (by as_aux_lemma => kernel_rfl) (fun _ _ _ h => h) (Or.inl ⟨by kernel_rfl, ?_⟩) hHeld ?_
                rotate_left
                · intro w hSw; (try dsimp only at hSw); go_simp; (try with_reducible rfl)
                try simp only [Act.put, List.setIfInBounds_toArray, List.set_cons_zero, List.set_cons_succ]
                refine take_d (i := 16) (oi := _) (v := ?_) (d := some 74) rfl (by kernel_rfl) (by as_aux_lemma => kernel_rfl) (by as_aux_lemma => kernel_rfl) (by as_aux_lemma => kernel_rfl) (fun _ _ _ h => h) (Or.inl ⟨by kernel_rfl, ?_⟩) hHeld ?_
                rotate_left
                · intro w hSw; (try dsimp only at hSw); go_simp; (try with_reducible rfl)
                try simp only [Act.put, List.setIfInBounds_toArray, List.set_cons_zero, List.set_cons_succ]
                refine take_d (i := 17) (oi := _) (v := undef) (d := some 75) rfl (by kernel_rfl) (by as_aux_lemma => kernel_rfl) (by as_aux_lemma => kernel_rfl) (by as_aux_lemma => kernel_rfl) (fun _ _ _ h => h) (Or.inr ⟨by kernel_rfl, rfl⟩) hHeld ?_
                try simp only [Act.put, List.setIfInBounds_toArray, List.set_cons_zero, List.set_cons_succ]
                refine take_d (i := 18) (oi := _) (v := undef) (d := some 76) rfl (by kernel_rfl) (by as_aux_lemma => kernel_rfl) (by as_aux_lemma => kernel_rfl) (by as_aux_lemma => kernel_rfl) (fun _ _ _ h => h) (Or.inr ⟨by kernel_rfl, rfl⟩) hHeld ?_
                try simp only [Act.put, List.setIfInBounds_toArray, List.set_cons_zero, List.set_cons_succ]
                refine take_d (i := 19) (oi := _) (v := undef) (d := some 77) rfl (by kernel_rfl) (by as_aux_lemma => kernel_rfl) (by as_aux_lemma => kernel_rfl) (by as_aux_lemma => kernel_rfl) (fun _ _ _ h => h) (Or.inr ⟨by kernel_rfl, rfl⟩) hHeld ?_
                try simp only [Act.put, List.setIfInBounds_toArray, List.set_cons_zero, List.set_cons_succ]
                refine take_d (i := 20) (oi := _) (v := undef) (d := some 78) rfl (by kernel_rfl) (by as_aux_lemma => kernel_rfl) (by as_aux_lemma => kernel_rfl) (by as_aux_lemma => kernel_rfl) (fun _ _ _ h => h) (Or.inr ⟨by kernel_rfl, rfl⟩) hHeld ?_
                try simp only [Act.put, List.setIfInBounds_toArray, List.set_cons_zero, List.set_cons_succ]
                refine take_d (i := 21) (oi := _) (v := ?_) (d := some 79) rfl (by kernel_rfl) (by as_aux_lemma => kernel_rfl) (by as_aux_lemma => kernel_rfl) (by as_aux_lemma => kernel_rfl) (fun _ _ _ h => h) (Or.inl ⟨by kernel_rfl, ?_⟩) hHeld ?_
                rotate_left
                · intro w hSw; (try dsimp only at hSw); go_simp; (try with_reducible rfl)
                try simp only [Act.put, List.setIfInBounds_toArray, List.set_cons_zero, List.set_cons_succ]
                refine wpAnyH_done (by kernel_rfl) ?_ _
                go_wp2_with fail
                go_meet
                exact ⟨rfl, bq⟩
              · rw [hmy] at CY
                have hyL : hasB L ⟨yn, yi, ys⟩ = true := has_mem.2 (HI.out _ hyl (by unfold lackOk; simp only [Int.toNat_natCast, hry]; exact hmy))
                have CH := Lib.hid (fun W h => hyL ▸ has_any L ⟨yn, yi, ys⟩ (some ⟨bL, oL, none⟩) c7 W h (by omega))
                clear hmy hry hyL
                refine wp_region_held_drew (S := fun W : World => W.cell? ⟨gy, 0, none⟩ = some (.int .u8 (yn : Int)) ∧ W.cell? ⟨gy, 1, none⟩ = some (.int .u16 yi) ∧ W.cell? ⟨gy, 2, none⟩ = some (.int .u32 ys) ∧ W.cell? ⟨bR, oR + yn * 3, none⟩ = some (.int .u16 ry.i) ∧ W.cell? ⟨bR, oR + yn * 3 + 1, none⟩ = some (.int .u32 ry.p) ∧ W.cell? ⟨bR, oR + yn * 3 + 2, none⟩ = some (.int .u64 ry.b)) (by kernel_rfl) (HB.out _ (Below.drew bq)) (fun hHeld => ?_)
                refine take_d (i := 0) (oi := _) (v := ?_) (d := some 58) rfl (by kernel_rfl) (by as_aux_lemma => kernel_rfl) (by as_aux_lemma => kernel_rfl) (by as_aux_lemma => kernel_rfl) (fun _ _ _ h => h) (Or.inl ⟨by kernel_rfl, ?_⟩) hHeld ?_
                rotate_left
                · intro w hSw; (try dsimp only at hSw); go_simp; (try with_reducible rfl)
                try simp only [Act.put, List.setIfInBounds_toArray, List.set_cons_zero, List.set_cons_succ]
                refine take_d (i := 1) (oi := _) (v := ?_) (d := some 59) rfl (by kernel_rfl) (by as_aux_lemma => kernel_rfl) (by as_aux_lemma => kernel_rfl) (by as_aux_lemma => kernel_rfl) (fun _ _ _ h => h) (Or.inl ⟨by kernel_rfl, ?_⟩) hHeld ?_
                rotate_left
                · intro w hSw; (try dsimp only at hSw); go_simp; (try with_reducible rfl)
                try simp only [Act.put, List.setIfInBounds_toArray, List.set_cons_zero, List.set_cons_succ]
                refine take_d (i := 2) (oi := _) (v := ?_) (d := some 60) rfl (by kernel_rfl) (by as_aux_lemma => kernel_rfl) (by as_aux_lemma => kernel_rfl) (by as_aux_lemma => kernel_rfl) (fun _ _ _ h => h) (Or.inl ⟨by kernel_rfl, ?_⟩) hHeld ?_
                rotate_left
                · intro w hSw; (try dsimp only at hSw); go_simp; (try with_reducible rfl)
                try simp only [Act.put, List.setIfInBounds_toArray, List.set_cons_zero, List.set_cons_succ]
                refine take_d (i := 3) (oi := _) (v := ?_) (d := some 61) rfl (by kernel_rfl) (by as_aux_lemma => kernel_rfl) (by as_aux_lemma => kernel_rfl) (by as_aux_lemma => kernel_rfl) (fun _ _ _ h => h) (Or.inl ⟨by kernel_rfl, ?_⟩) hHeld ?_
                rotate_left
                · intro w hSw; (try dsimp only at hSw); go_simp; (try with_reducible rfl)
                try simp only [Act.put, List.setIfInBounds_toArray, List.set_cons_zero, List.set_cons_succ]
                refine take_d (i := 4) (oi := _) (v := ?_) (d := some 62) rfl (by kernel_rfl) (by as_aux_lemma => kernel_rfl) (by as_aux_lemma => kernel_rfl) (by as_aux_lemma => kernel_rfl) (fun _ _ _ h => h) (Or.inl ⟨by kernel_rfl, ?_⟩) hHeld ?_
                rotate_left
                · intro w hSw; (try dsimp only at hSw); go_simp; (try with_reducible rfl)
                try simp only [Act.put, List.setIfInBounds_toArray, List.set_cons_zero, List.set_cons_succ]
                refine take_d (i := 5) (oi := _) (v := .bool true) (d := some 63) rfl (by kernel_rfl) (by as_aux_lemma => kernel_rfl) (by as_aux_lemma => kernel_rfl) (by as_aux_lemma => kernel_rfl) (fun _ _ _ h => h) (Or.inl ⟨by kernel_rfl, ?_⟩) hHeld ?_
                · intro W hSw
                  go_simp; first | done | simp only [tyn] | simp only [tynn] | simp only [way] | simp [tyn, tynn, way]
                try simp only [Act.put, List.setIfInBounds_toArray, List.set_cons_zero, List.set_cons_succ]
                refine take_d (i := 6) (oi := _) (v := ?_) (d := some 64) rfl (by kernel_rfl) (by as_aux_lemma => kernel_rfl) (by as_aux_lemma => kernel_rfl) (by as_aux_lemma => kernel_rfl) (fun _ _ _ h => h) (Or.inl ⟨by kernel_rfl, ?_⟩) hHeld ?_
                rotate_left
                · intro w hSw; (try dsimp only at hSw); go_simp; (try with_reducible rfl)
                try simp only [Act.put, List.setIfInBounds_toArray, List.set_cons_zero, List.set_cons_succ]
                refine take_d (i := 7) (oi := _) (v := ?_) (d := some 65) rfl (by kernel_rfl) (by as_aux_lemma => kernel_rfl) (by as_aux_lemma => kernel_rfl) (by as_aux_lemma => kernel_rfl) (fun _ _ _ h => h) (Or.inl ⟨by kernel_rfl, ?_⟩) hHeld ?_
                rotate_left
                · intro w hSw; (try dsimp only at hSw); go_simp; (try with_reducible rfl)
                try simp only [Act.put, List.setIfInBounds_toArray, List.set_cons_zero, List.set_cons_succ]
                refine take_d (i := 8) (oi := _) (v := ?_) (d := some 66) rfl (by kernel_rfl) (by as_aux_lemma => kernel_rfl) (by as_aux_lemma => kernel_rfl) (by as_aux_lemma => kernel_rfl) (fun _ _ _ h => h) (Or.inl ⟨by kernel_rfl, ?_⟩) hHeld ?_
                rotate_left
                · intro w hSw; (try dsimp only at hSw); go_simp; (try with_reducible rfl)
                try simp only [Act.put, List.setIfInBounds_toArray, List.set_cons_zero, List.set_cons_succ]
                refine take_d (i := 9) (oi := _) (v := ?_) (d := some 67) rfl (by kernel_rfl) (by as_aux_lemma => kernel_rfl) (by as_aux_lemma => kernel_rfl) (by as_aux_lemma => kernel_rfl) (fun _ _ _ h => h) (Or.inl ⟨by kernel_rfl, ?_⟩) hHeld ?_
                rotate_left
                · intro w hSw; (try dsimp only at hSw); go_simp; (try with_reducible rfl)
                try simp only [Act.put, List.setIfInBounds_toArray, List.set_cons_zero, List.set_cons_succ]
                refine take_d (i := 10) (oi := _) (v := ?_) (d := some 68) rfl (by kernel_rfl) (by as_aux_lemma => kernel_rfl) (by as_aux_lemma => kernel_rfl) (by as_aux_lemma => kernel_rfl) (fun _ _ _ h => h) (Or.inl ⟨by kernel_rfl, ?_⟩) hHeld ?_
                rotate_left
                · intro w hSw; (try dsimp only at hSw); go_simp; (try with_reducible rfl)
                try simp only [Act.put, List.setIfInBounds_toArray, List.set_cons_zero, List.set_cons_succ]
                refine take_d (i := 11) (oi := _) (v := ?_) (d := some 69) rfl (by kernel_rfl) (by as_aux_lemma => kernel_rfl) (by as_aux_lemma => kernel_rfl) (by as_aux_lemma => kernel_rfl) (fun _ _ _ h => h) (Or.inl ⟨by kernel_rfl, ?_⟩) hHeld ?_
                rotate_left
                · intro w hSw; (try dsimp only at hSw); go_simp; (try with_reducible rfl)
                try simp only [Act.put, List.setIfInBounds_toArray, List.set_cons_zero, List.set_cons_succ]
                refine take_d (i := 12) (oi := _) (v := ?_) (d := some 70) rfl (by kernel_rfl) (by as_aux_lemma => kernel_rfl) (by as_aux_lemma => kernel_rfl) (by as_aux_lemma => kernel_rfl) (fun _ _ _ h => h) (Or.inl ⟨by kernel_rfl, ?_⟩) hHeld ?_
                rotate_left
                · intro w hSw; (try dsimp only at hSw); go_simp; (try with_reducible rfl)
                try simp only [Act.put, List.setIfInBounds_toArray, List.set_cons_zero, List.set_cons_succ]
                refine take_d (i := 13) (oi := _) (v := ?_) (d := some 71) rfl (by kernel_rfl) (by as_aux_lemma => kernel_rfl) (by as_aux_lemma => kernel_rfl) (by as_aux_lemma => kernel_rfl) (fun _ _ _ h => h) (Or.inl ⟨by kernel_rfl, ?_⟩) hHeld ?_
                rotate_left
                · intro w hSw; (try dsimp only at hSw); go_simp; (try with_reducible rfl)
                try simp only [Act.put, List.setIfInBounds_toArray, List.set_cons_zero, List.set_cons_succ]
                refine wpAnyH_ready (rs := [14]) (by kernel_rfl) (by simp) ?_
                refine AllReadyH.cons rfl (fun K hK => ?_) AllReadyH.nil
                go_simp
                refine (CY.out _).mono ?_
                rintro e u1 ⟨rfl, hb⟩
                replace bq := (by first | exact Gw.call bq hb | exact Gw.call (Below.drew bq) hb)
                clear hb
                dsimp only
                refine hK.out _ _ (HB.out _ bq) (fun hHeld => ?_)
                clear hK K
                try simp only [Act.put, List.setIfInBounds_toArray, List.set_cons_zero, List.set_cons_succ]
                refine take_d (i := 15) (oi := _) (v := ?_) (d := some 73) rfl (by kernel_rfl) (by as_aux_lemma => kernel_rfl) (by as_aux_lemma => kernel_rfl) (by as_aux_lemma => kernel_rfl) (fun _ _ _ h => h) (Or.inl ⟨by kernel_rfl, ?_⟩) hHeld ?_
                rotate_left
                · intro w hSw; (try dsimp only at hSw); go_simp; (try with_reducible rfl)
                try simp only [Act.put, List.setIfInBounds_toArray, List.set_cons_zero, List.set_cons_succ]
                refine take_d (i := 16) (oi := _) (v := ?_) (d := some 74) rfl (by kernel_rfl) (by as_aux_lemma => kernel_rfl) (by as_aux_lemma => kernel_rfl) (by as_aux_lemma => kernel_rfl) (fun _ _ _ h => h) (Or.inl ⟨by kernel_rfl, ?_⟩) hHeld ?_
                rotate_left
                · intro w hSw; (try dsimp only at hSw); go_simp; (try with_reducible rfl)
                try simp only [Act.put, List.setIfInBounds_toArray, List.set_cons_zero, List.set_cons_succ]
                refine take_d (i := 17) (oi := _) (v := ?_) (d := some 75) rfl (by kernel_rfl) (by as_aux_lemma => kernel_rfl) (by as_aux_lemma => kernel_rfl) (by as_aux_lemma => kernel_rfl) (fun _ _ _ h => h) (Or.inl ⟨by kernel_rfl, ?_⟩) hHeld ?_
                rotate_left
                · intro w hSw; (try dsimp only at hSw); go_simp; (try with_reducible rfl)
                try simp only [Act.put, List.setIfInBounds_toArray, List.set_cons_zero, List.set_cons_succ]
                refine take_d (i := 18) (oi := _) (v := ?_) (d := some 76) rfl (by kernel_rfl) (by as_aux_lemma => kernel_rfl) (by as_aux_lemma => kernel_rfl) (by as_aux_lemma => kernel_rfl) (fun _ _ _ h => h) (Or.inl ⟨by kernel_rfl, ?_⟩) hHeld ?_
                rotate_left
                · intro w hSw; (try dsimp only at hSw); go_simp; (try with_reducible rfl)
                try simp only [Act.put, List.setIfInBounds_toArray, List.set_cons_zero, List.set_cons_succ]
                refine wpAnyH_ready (rs := [19]) (by kernel_rfl) (by simp) ?_
                refine AllReadyH.cons rfl (fun K hK => ?_) AllReadyH.nil
                go_simp
                refine (CH.out _ (rL.up (Gw.call bz (by first | exact bq | exact Below.drew bq)))).mono ?_
                rintro e u2 ⟨rfl, hb⟩
                replace bq := (by first | exact Gw.call bq hb | exact Gw.call (Below.drew bq) hb)
                clear hb
                dsimp only
                refine hK.out _ _ (HB.out _ bq) (fun hHeld => ?_)
                clear hK K
                try simp only [Act.put, List.setIfInBounds_toArray, List.set_cons_zero, List.set_cons_succ]
                refine take_d (i := 20) (oi := _) (v := ?_) (d := some 78) rfl (by kernel_rfl) (by as_aux_lemma => kernel_rfl) (by as_aux_lemma => kernel_rfl) (by as_aux_lemma => kernel_rfl) (fun _ _ _ h => h) (Or.inl ⟨by kernel_rfl, ?_⟩) hHeld ?_
                rotate_left
                · intro w hSw; (try dsimp only at hSw); go_simp; (try with_reducible rfl)
                try simp only [Act.put, List.setIfInBounds_toArray, List.set_cons_zero, List.set_cons_succ]
                refine take_d (i := 21) (oi := _) (v := ?_) (d := some 79) rfl (by kernel_rfl) (by as_aux_lemma => kernel_rfl) (by as_aux_lemma => kernel_rfl) (by as_aux_lemma => kernel_rfl) (fun _ _ _ h => h) (Or.inl ⟨by kernel_rfl, ?_⟩) hHeld ?_
                rotate_left
                · intro w hSw; (try dsimp only at hSw); go_simp; (try with_reducible rfl)
                try simp only [Act.put, List.setIfInBounds_toArray, List.set_cons_zero, List.set_cons_succ]
                refine wpAnyH_done (by kernel_rfl) ?_ _
                go_wp2_with fail
                go_meet
                exact ⟨rfl, bq⟩
            · have tyn : decide ((yn : Int) < (rows.length : Int)) = false := by simp; omega
              have tynn : decide (yn < rows.length) = false := by simp; omega
              have HB : Hid (∀ W, Below wy.heap.size wy W → (fun W : World => W.cell? ⟨gy, 0, none⟩ = some (.int .u8 (yn : Int)) ∧ W.cell? ⟨gy, 1, none⟩ = some (.int .u16 yi) ∧ W.cell? ⟨gy, 2, none⟩ = some (.int .u32 ys)) W) := Lib.hid fun W hb => ⟨(Gy.call hb).blk.2.1 0 _ rfl, (Gy.call hb).blk.2.1 1 _ rfl, (Gy.call hb).blk.2.1 2 _ rfl⟩
              refine wp_region_held_drew (S := fun W : World => W.cell? ⟨gy, 0, none⟩ = some (.int .u8 (yn : Int)) ∧ W.cell? ⟨gy, 1, none⟩ = some (.int .u16 yi) ∧ W.cell? ⟨gy, 2, none⟩ = some (.int .u32 ys)) (by kernel_rfl) (HB.out _ (Below.drew bq)) (fun hHeld => ?_)
              refine take_d (i := 0) (oi := _) (v := ?_) (d := some 58) rfl (by kernel_rfl) (by as_aux_lemma => kernel_rfl) (by as_aux_lemma => kernel_rfl) (by as_aux_lemma => kernel_rfl) (fun _ _ _ h => h) (Or.inl ⟨by kernel_rfl, ?_⟩) hHeld ?_
              rotate_left
              · intro w hSw; (try dsimp only at hSw); go_simp; (try with_reducible rfl)
              try simp only [Act.put, List.setIfInBounds_toArray, List.set_cons_zero, List.set_cons_succ]
              refine take_d (i := 1) (oi := _) (v := ?_) (d := some 59) rfl (by kernel_rfl) (by as_aux_lemma => kernel_rfl) (by as_aux_lemma => kernel_rfl) (by as_aux_lemma => kernel_rfl) (fun _ _ _ h => h) (Or.inl ⟨by kernel_rfl, ?_⟩) hHeld ?_
              rotate_left
              · intro w hSw; (try dsimp only at hSw); go_simp; (try with_reducible rfl)
              try simp only [Act.put, List.setIfInBounds_toArray, List.set_cons_zero, List.set_cons_succ]
              refine take_d (i := 2) (oi := _) (v := ?_) (d := some 60) rfl (by kernel_rfl) (by as_aux_lemma => kernel_rfl) (by as_aux_lemma => kernel_rfl) (by as_aux_lemma => kernel_rfl) (fun _ _ _ h => h) (Or.inl ⟨by kernel_rfl, ?_⟩) hHeld ?_
              rotate_left
              · intro w hSw; (try dsimp only at hSw); go_simp; (try with_reducible rfl)
              try simp only [Act.put, List.setIfInBounds_toArray, List.set_cons_zero, List.set_cons_succ]
              refine take_d (i := 3) (oi := _) (v := ?_) (d := some 61) rfl (by kernel_rfl) (by as_aux_lemma => kernel_rfl) (by as_aux_lemma => kernel_rfl) (by as_aux_lemma => kernel_rfl) (fun _ _ _ h => h) (Or.inl ⟨by kernel_rfl, ?_⟩) hHeld ?_
              rotate_left
              · intro w hSw; (try dsimp only at hSw); go_simp; (try with_reducible rfl)
              try simp only [Act.put, List.setIfInBounds_toArray, List.set_cons_zero, List.set_cons_succ]
              refine take_d (i := 4) (oi := _) (v := ?_) (d := some 62) rfl (by kernel_rfl) (by as_aux_lemma => kernel_rfl) (by as_aux_lemma => kernel_rfl) (by as_aux_lemma => kernel_rfl) (fun _ _ _ h => h) (Or.inl ⟨by kernel_rfl, ?_⟩) hHeld ?_
              rotate_left
              · intro w hSw; (try dsimp only at hSw); go_simp; (try with_reducible rfl)
              try simp only [Act.put, List.setIfInBounds_toArray, List.set_cons_zero, List.set_cons_succ]
              refine take_d (i := 5) (oi := _) (v := .bool false) (d := some 63) rfl (by kernel_rfl) (by as_aux_lemma => kernel_rfl) (by as_aux_lemma => kernel_rfl) (by as_aux_lemma => kernel_rfl) (fun _ _ _ h => h) (Or.inl ⟨by kernel_rfl, ?_⟩) hHeld ?_
              · intro W hSw
                go_simp; first | done | simp only [tyn] | simp only [tynn] | simp only [way] | simp [tyn, tynn, way]
              try simp only [Act.put, List.setIfInBounds_toArray, List.set_cons_zero, List.set_cons_succ]
              refine take_d (i := 6) (oi := _) (v := ?_) (d := some 64) rfl (by kernel_rfl) (by as_aux_lemma => kernel_rfl) (by as_aux_lemma => kernel_rfl) (by as_aux_lemma => kernel_rfl) (fun _ _ _ h => h) (Or.inl ⟨by kernel_rfl, ?_⟩) hHeld ?_
              rotate_left
              · intro w hSw; (try dsimp only at hSw); go_simp; (try with_reducible rfl)
              try simp only [Act.put, List.setIfInBounds_toArray, List.set_cons_zero, List.set_cons_succ]
              refine take_d (i := 7) (oi := _) (v := undef) (d := some 65) rfl (by kernel_rfl) (by as_aux_lemma => kernel_rfl) (by as_aux_lemma => kernel_rfl) (by as_aux_lemma => kernel_rfl) (fun _ _ _ h => h) (Or.inr ⟨by kernel_rfl, rfl⟩) hHeld ?_
              try simp only [Act.put, List.setIfInBounds_toArray, List.set_cons_zero, List.set_cons_succ]
              refine take_d (i := 8) (oi := _) (v := undef) (d := some 66) rfl (by kernel_rfl) (by as_aux_lemma => kernel_rfl) (by as_aux_lemma => kernel_rfl) (by as_aux_lemma => kernel_rfl) (fun _ _ _ h => h) (Or.inr ⟨by kernel_rfl, rfl⟩) hHeld ?_
              try simp only [Act.put, List.setIfInBounds_toArray, List.set_cons_zero, List.set_cons_succ]
              refine take_d (i := 9) (oi := _) (v := undef) (d := some 67) rfl (by kernel_rfl) (by as_aux_lemma => kernel_rfl) (by as_aux_lemma => kernel_rfl) (by as_aux_lemma => kernel_rfl) (fun _ _ _ h => h) (Or.inr ⟨by kernel_rfl, rfl⟩) hHeld ?_
              try simp only [Act.put, List.setIfInBounds_toArray, List.set_cons_zero, List.set_cons_succ]
              refine take_d (i := 10) (oi := _) (v := undef) (d := some 68) rfl (by kernel_rfl) (by as_aux_lemma => kernel_rfl) (by as_aux_lemma => kernel_rfl) (by as_aux_lemma => kernel_rfl) (fun _ _ _ h => h) (Or.inr ⟨by kernel_rfl, rfl⟩) hHeld ?_
              try simp only [Act.put, List.setIfInBounds_toArray, List.set_cons_zero, List.set_cons_succ]
              refine take_d (i := 11) (oi := _) (v := undef) (d := some 69) rfl (by kernel_rfl) (by as_aux_lemma => kernel_rfl) (by as_aux_lemma => kernel_rfl) (by as_aux_lemma => kernel_rfl) (fun _ _ _ h => h) (Or.inr ⟨by kernel_rfl, rfl⟩) hHeld ?_
              try simp only [Act.put, List.setIfInBounds_toArray, List.set_cons_zero, List.set_cons_succ]
              refine take_d (i := 12) (oi := _) (v := undef) (d := some 70) rfl (by kernel_rfl) (by as_aux_lemma => kernel_rfl) (by as_aux_lemma => kernel_rfl) (by as_aux_lemma => kernel_rfl) (fun _ _ _ h => h) (Or.inr ⟨by kernel_rfl, rfl⟩) hHeld ?_
              try simp only [Act.put, List.setIfInBounds_toArray, List.set_cons_zero, List.set_cons_succ]
              refine take_d (i := 13) (oi := _) (v := undef) (d := some 71) rfl (by kernel_rfl) (by as_aux_lemma => kernel_rfl) (by as_aux_lemma => kernel_rfl) (by as_aux_lemma => kernel_rfl) (fun _ _ _ h => h) (Or.inr ⟨by kernel_rfl, rfl⟩) hHeld ?_
              try simp only [Act.put, List.setIfInBounds_toArray, List.set_cons_zero, List.set_cons_succ]
              refine take_d (i := 14) (oi := _) (v := undef) (d := some 72) rfl (by kernel_rfl) (by as_aux_lemma => kernel_rfl) (by as_aux_lemma => kernel_rfl) (by as_aux_lemma => kernel_rfl) (fun _ _ _ h => h) (Or.inr ⟨by kernel_rfl, rfl⟩) hHeld ?_
              try simp only [Act.put, List.setIfInBounds_toArray, List.set_cons_zero, List.set_cons_succ]
              refine take_d (i := 15) (oi := _) (v := ?_) (d := some 73) rfl (by kernel_rfl) (by as_aux_lemma => kernel_rfl) (by as_aux_lemma => kernel_rfl) (by as_aux_lemma => kernel_rfl) (fun _ _ _ h => h) (Or.inl ⟨by kernel_rfl, ?_⟩) hHeld ?_
              rotate_left
              · intro w hSw; (try dsimp only at hSw); go_simp; (try with_reducible rfl)
              try simp only [Act.put, List.setIfInBounds_toArray, List.set_cons_zero, List.set_cons_succ]
              refine take_d (i := 16) (oi := _) (v := ?_) (d := some 74) rfl (by kernel_rfl) (by as_aux_lemma => kernel_rfl) (by as_aux_lemma => kernel_rfl) (by as_aux_lemma => kernel_rfl) (fun _ _ _ h => h) (Or.inl ⟨by kernel_rfl, ?_⟩) hHeld ?_
              rotate_left
              · intro w hSw; (try dsimp only at hSw); go_simp; (try with_reducible rfl)
              try simp only [Act.put, List.setIfInBounds_toArray, List.set_cons_zero, List.set_cons_succ]
              refine take_d (i := 17) (oi := _) (v := undef) (d := some 75) rfl (by kernel_rfl) (by as_aux_lemma => kernel_rfl) (by as_aux_lemma => kernel_rfl) (by as_aux_lemma => kernel_rfl) (fun _ _ _ h => h) (Or.inr ⟨by kernel_rfl, rfl⟩) hHeld ?_
              try simp only [Act.put, List.setIfInBounds_toArray, List.set_cons_zero, List.set_cons_succ]
              refine take_d (i := 18) (oi := _) (v := undef) (d := some 76) rfl (by kernel_rfl) (by as_aux_lemma => kernel_rfl) (by as_aux_lemma => kernel_rfl) (by as_aux_lemma => kernel_rfl) (fun _ _ _ h => h) (Or.inr ⟨by kernel_rfl, rfl⟩) hHeld ?_
              try simp only [Act.put, List.setIfInBounds_toArray, List.set_cons_zero, List.set_cons_succ]
              refine take_d (i := 19) (oi := _) (v := undef) (d := some 77) rfl (by kernel_rfl) (by as_aux_lemma => kernel_rfl) (by as_aux_lemma => kernel_rfl) (by as_aux_lemma => kernel_rfl) (fun _ _ _ h => h) (Or.inr ⟨by kernel_rfl, rfl⟩) hHeld ?_
              try simp only [Act.put, List.setIfInBounds_toArray, List.set_cons_zero, List.set_cons_succ]
              refine take_d (i := 20) (oi := _) (v := undef) (d := some 78) rfl (by kernel_rfl) (by as_aux_lemma => kernel_rfl) (by as_aux_lemma => kernel_rfl) (by as_aux_lemma => kernel_rfl) (fun _ _ _ h => h) (Or.inr ⟨by kernel_rfl, rfl⟩) hHeld ?_
              try simp only [Act.put, List.setIfInBounds_toArray, List.set_cons_zero, List.set_cons_succ]
              refine take_d (i := 21) (oi := _) (v := ?_) (d := some 79) rfl (by kernel_rfl) (by as_aux_lemma => kernel_rfl) (by as_aux_lemma => kernel_rfl) (by as_aux_lemma => kernel_rfl) (fun _ _ _ h => h) (Or.inl ⟨by kernel_rfl, ?_⟩) hHeld ?_
              rotate_left
              · intro w hSw; (try dsimp only at hSw); go_simp; (try with_reducible rfl)
              try simp only [Act.put, List.setIfInBounds_toArray, List.set_cons_zero, List.set_cons_succ]
              refine wpAnyH_done (by kernel_rfl) ?_ _
              go_wp2_with fail
              go_meet
              exact ⟨rfl, Below.drew bq⟩
          case rest =>
            obtain ⟨rfl, bc⟩ := hcut
            clear hyl yok
            go_wp2_with fail
            go_roundw
            case rel => exact ⟨a + 1, by go_num, by omega, Gw.call bi2 bc⟩
            case measure => simp [intOf]; omega
        · have haf3 : a = f := by omega
          have HAF := Lib.hid haf3
          have hyx := Option.some.inj (hy.symm.trans (haf3 ▸ HFA.out))
          subst hyx
          clear haf3 haf2
          obtain ⟨bI, oI, hAI, hbI, hc⟩ := (rI.below bw).at_ hy
          subst hAI
          have f0 : wr.cell? ⟨bI, oI + a * 3, none⟩ = some (.int .u8 (n : Int)) := hc 0 _ rfl
          have f1 : wr.cell? ⟨bI, oI + a * 3 + 1, none⟩ = some (.int .u16 i) := hc 1 _ rfl
          have f2 : wr.cell? ⟨bI, oI + a * 3 + 2, none⟩ = some (.int .u32 s) := hc 2 _ rfl
          have hbI2 : bI < wr.heap.size := Nat.lt_of_lt_of_le hbI bw.size
          clear hc
          have HB : Hid (∀ W, Below wr.heap.size wr W → (fun W : World => W.cell? ⟨g, 0, none⟩ = some (.int .u8 (n : Int)) ∧ W.cell? ⟨g, 1, none⟩ = some (.int .u16 i) ∧ W.cell? ⟨g, 2, none⟩ = some (.int .u32 s) ∧ W.cell? ⟨bI, oI + a * 3, none⟩ = some (.int .u8 (n : Int)) ∧ W.cell? ⟨bI, oI + a * 3 + 1, none⟩ = some (.int .u16 i) ∧ W.cell? ⟨bI, oI + a * 3 + 2, none⟩ = some (.int .u32 s)) W) := Lib.hid fun W hb => ⟨(Gr.call hb).blk.2.1 0 _ rfl, (Gr.call hb).blk.2.1 1 _ rfl, (Gr.call hb).blk.2.1 2 _ rfl, (hb.cell (p := ⟨bI, _, none⟩) hbI2).trans f0, (hb.cell (p := ⟨bI, _, none⟩) hbI2).trans f1, (hb.cell (p := ⟨bI, _, none⟩) hbI2).trans f2⟩
          have hnx := neq_id ⟨n, i, s⟩ ⟨n, i, s⟩
          rw [show decide ((⟨(n : Int), i, s⟩ : Id) ≠ ⟨n, i, s⟩) = false by simp] at hnx
          clear hy f0 f1 f2
          go_upto_region 8 with fail
          refine wp_region_held_drew (S := fun W : World => W.cell? ⟨g, 0, none⟩ = some (.int .u8 (n : Int)) ∧ W.cell? ⟨g, 1, none⟩ = some (.int .u16 i) ∧ W.cell? ⟨g, 2, none⟩ = some (.int .u32 s) ∧ W.cell? ⟨bI, oI + a * 3, none⟩ = some (.int .u8 (n : Int)) ∧ W.cell? ⟨bI, oI + a * 3 + 1, none⟩ = some (.int .u16 i) ∧ W.cell? ⟨bI, oI + a * 3 + 2, none⟩ = some (.int .u32 s)) (by kernel_rfl) (HB.out _ (Below.drew bk)) (fun hHeld => ?_)
          refine take_d (i := 0) (oi := _) (v := ?_) (d := some 42) rfl (by kernel_rfl) (by as_aux_lemma => kernel_rfl) (by as_aux_lemma => kernel_rfl) (by as_aux_lemma => kernel_rfl) (fun _ _ _ h => h) (Or.inl ⟨by kernel_rfl, ?_⟩) hHeld ?_
          rotate_left
          · intro w hSw; (try dsimp only at hSw); go_simp; (try with_reducible rfl)
          try simp only [Act.put, List.setIfInBounds_toArray, List.set_cons_zero, List.set_cons_succ]
          refine take_d (i := 1) (oi := _) (v := ?_) (d := some 43) rfl (by kernel_rfl) (by as_aux_lemma => kernel_rfl) (by as_aux_lemma => kernel_rfl) (by as_aux_lemma => kernel_rfl) (fun _ _ _ h => h) (Or.inl ⟨by kernel_rfl, ?_⟩) hHeld ?_
          rotate_left
          · intro w hSw; (try dsimp only at hSw); go_simp; (try with_reducible rfl)
          try simp only [Act.put, List.setIfInBounds_toArray, List.set_cons_zero, List.set_cons_succ]
          refine take_d (i := 2) (oi := _) (v := ?_) (d := some 44) rfl (by kernel_rfl) (by as_aux_lemma => kernel_rfl) (by as_aux_lemma => kernel_rfl) (by as_aux_lemma => kernel_rfl) (fun _ _ _ h => h) (Or.inl ⟨by kernel_rfl, ?_⟩) hHeld ?_
          rotate_left
          · intro w hSw; (try dsimp only at hSw); go_simp; (try with_reducible rfl)
          try simp only [Act.put, List.setIfInBounds_toArray, List.set_cons_zero, List.set_cons_succ]
          refine take_d (i := 3) (oi := _) (v := .bool true) (d := some 45) rfl (by kernel_rfl) (by as_aux_lemma => kernel_rfl) (by as_aux_lemma => kernel_rfl) (by as_aux_lemma => kernel_rfl) (fun _ _ _ h => h) (Or.inl ⟨by kernel_rfl, ?_⟩) hHeld ?_
          · intro W hSw
            go_simp; first | done | simp only [ta] | simp only [tan] | simp [ta, tan]
          try simp only [Act.put, List.setIfInBounds_toArray, List.set_cons_zero, List.set_cons_succ]
          refine take_d (i := 4) (oi := _) (v := ?_) (d := some 46) rfl (by kernel_rfl) (by as_aux_lemma => kernel_rfl) (by as_aux_lemma => kernel_rfl) (by as_aux_lemma => kernel_rfl) (fun _ _ _ h => h) (Or.inl ⟨by kernel_rfl, ?_⟩) hHeld ?_
          rotate_left
          · intro w hSw; (try dsimp only at hSw); go_simp; (try with_reducible rfl)
          try simp only [Act.put, List.setIfInBounds_toArray, List.set_cons_zero, List.set_cons_succ]
          refine take_d (i := 5) (oi := _) (v := ?_) (d := some 47) rfl (by kernel_rfl) (by as_aux_lemma => kernel_rfl) (by as_aux_lemma => kernel_rfl) (by as_aux_lemma => kernel_rfl) (fun _ _ _ h => h) (Or.inl ⟨by kernel_rfl, ?_⟩) hHeld ?_
          rotate_left
          · intro w hSw; (try dsimp only at hSw); go_simp; (try with_reducible rfl)
          try simp only [Act.put, List.setIfInBounds_toArray, List.set_cons_zero, List.set_cons_succ]
          refine take_d (i := 6) (oi := _) (v := ?_) (d := some 48) rfl (by kernel_rfl) (by as_aux_lemma => kernel_rfl) (by as_aux_lemma => kernel_rfl) (by as_aux_lemma => kernel_rfl) (fun _ _ _ h => h) (Or.inl ⟨by kernel_rfl, ?_⟩) hHeld ?_
          rotate_left
          · intro w hSw; (try dsimp only at hSw); go_simp; (try with_reducible rfl)
          try simp only [Act.put, List.setIfInBounds_toArray, List.set_cons_zero, List.set_cons_succ]
          refine take_d (i := 7) (oi := _) (v := ?_) (d := some 49) rfl (by kernel_rfl) (by as_aux_lemma => kernel_rfl) (by as_aux_lemma => kernel_rfl) (by as_aux_lemma => kernel_rfl) (fun _ _ _ h => h) (Or.inl ⟨by kernel_rfl, ?_⟩) hHeld ?_
          rotate_left
          · intro w hSw; (try dsimp only at hSw); go_simp; (try with_reducible rfl)
          try simp only [Act.put, List.setIfInBounds_toArray, List.set_cons_zero, List.set_cons_succ]
          refine take_d (i := 8) (oi := _) (v := ?_) (d := some 50) rfl (by kernel_rfl) (by as_aux_lemma => kernel_rfl) (by as_aux_lemma => kernel_rfl) (by as_aux_lemma => kernel_rfl) (fun _ _ _ h => h) (Or.inl ⟨by kernel_rfl, ?_⟩) hHeld ?_
          rotate_left
          · intro w hSw; (try dsimp only at hSw); go_simp; (try with_reducible rfl)
          try simp only [Act.put, List.setIfInBounds_toArray, List.set_cons_zero, List.set_cons_succ]
          refine take_d (i := 9) (oi := _) (v := ?_) (d := some 51) rfl (by kernel_rfl) (by as_aux_lemma => kernel_rfl) (by as_aux_lemma => kernel_rfl) (by as_aux_lemma => kernel_rfl) (fun _ _ _ h => h) (Or.inl ⟨by kernel_rfl, ?_⟩) hHeld ?_
          rotate_left
          · intro w hSw; (try dsimp only at hSw); go_simp; (try with_reducible rfl)
          try simp only [Act.put, List.setIfInBounds_toArray, List.set_cons_zero, List.set_cons_succ]
          refine take_d (i := 10) (oi := _) (v := .bool false) (d := some 52) rfl (by kernel_rfl) (by as_aux_lemma => kernel_rfl) (by as_aux_lemma => kernel_rfl) (by as_aux_lemma => kernel_rfl) (fun _ _ _ h => h) (Or.inl ⟨by kernel_rfl, ?_⟩) hHeld ?_
          · intro W hSw
            go_simp; first | done | simp only [hnx] | simp [hnx]
          try simp only [Act.put, List.setIfInBounds_toArray, List.set_cons_zero, List.set_cons_succ]
          refine take_d (i := 11) (oi := _) (v := ?_) (d := some 53) rfl (by kernel_rfl) (by as_aux_lemma => kernel_rfl) (by as_aux_lemma => kernel_rfl) (by as_aux_lemma => kernel_rfl) (fun _ _ _ h => h) (Or.inl ⟨by kernel_rfl, ?_⟩) hHeld ?_
          rotate_left
          · intro w hSw; (try dsimp only at hSw); go_simp; (try with_reducible rfl)
          try simp only [Act.put, List.setIfInBounds_toArray, List.set_cons_zero, List.set_cons_succ]
          refine wpAnyH_done (by kernel_rfl) ?_ _
          clear hHeld HB hnx
          obtain ⟨bR, oR, hAR, hbR, hc⟩ := (rR.below bw).at_ HR1.out
          subst hAR
          have e0 : wr.cell? ⟨bR, oR + n * 3, none⟩ = some (.int .u16 r.i) := hc 0 _ rfl
          have e1 : wr.cell? ⟨bR, oR + n * 3 + 1, none⟩ = some (.int .u32 r.p) := hc 1 _ rfl
          have e2 : wr.cell? ⟨bR, oR + n * 3 + 2, none⟩ = some (.int .u64 r.b) := hc 2 _ rfl
          have hbR2 : bR < wr.heap.size := Nat.lt_of_lt_of_le hbR bw.size
          have wan : IntKind.i64.wrap (n : Int) = (n : Int) := IntWalk.i64_in _ (by omega)
          have te : ((a : Int) == (ids.length : Int)) = false := by rw [beq_eq_false_iff_ne]; have := HAF.out; omega
          have ten : (a == ids.length) = false := by rw [beq_eq_false_iff_ne]; have := HAF.out; omega
          have tn : decide ((rows.length : Int) ≤ (n : Int)) = false := by simp; omega
          have tnn : decide (rows.length ≤ n) = false := by simp; omega
          have nri : (n : Int) < (rows.length : Int) := by omega
          have HB : Hid (∀ W, Below wr.heap.size wr W → (fun W : World => W.cell? ⟨g, 0, none⟩ = some (.int .u8 (n : Int)) ∧ W.cell? ⟨g, 1, none⟩ = some (.int .u16 i) ∧ W.cell? ⟨g, 2, none⟩ = some (.int .u32 s) ∧ W.cell? ⟨bR, oR + n * 3, none⟩ = some (.int .u16 r.i) ∧ W.cell? ⟨bR, oR + n * 3 + 1, none⟩ = some (.int .u32 r.p) ∧ W.cell? ⟨bR, oR + n * 3 + 2, none⟩ = some (.int .u64 r.b)) W) := Lib.hid fun W hb => ⟨(Gr.call hb).blk.2.1 0 _ rfl, (Gr.call hb).blk.2.1 1 _ rfl, (Gr.call hb).blk.2.1 2 _ rfl, (hb.cell (p := ⟨bR, _, none⟩) hbR2).trans e0, (hb.cell (p := ⟨bR, _, none⟩) hbR2).trans e1, (hb.cell (p := ⟨bR, _, none⟩) hbR2).trans e2⟩
          clear hc e0 e1 e2
          have bq := Below.drew bk
          go_upto_region 13 with fail
          refine wp_region_held_drew (S := fun W : World => W.cell? ⟨g, 0, none⟩ = some (.int .u8 (n : Int)) ∧ W.cell? ⟨g, 1, none⟩ = some (.int .u16 i) ∧ W.cell? ⟨g, 2, none⟩ = some (.int .u32 s) ∧ W.cell? ⟨bR, oR + n * 3, none⟩ = some (.int .u16 r.i) ∧ W.cell? ⟨bR, oR + n * 3 + 1, none⟩ = some (.int .u32 r.p) ∧ W.cell? ⟨bR, oR + n * 3 + 2, none⟩ = some (.int .u64 r.b)) (by kernel_rfl) (HB.out _ (Below.drew bq)) (fun hHeld => ?_)
          refine take_d (i := 0) (oi := _) (v := ?_) (d := some 82) rfl (by kernel_rfl) (by as_aux_lemma => kernel_rfl) (by as_aux_lemma => kernel_rfl) (by as_aux_lemma => kernel_rfl) (fun _ _ _ h => h) (Or.inl ⟨by kernel_rfl, ?_⟩) hHeld ?_
          rotate_left
          · intro w hSw; (try dsimp only at hSw); go_simp; (try with_reducible rfl)
          try simp only [Act.put, List.setIfInBounds_toArray, List.set_cons_zero, List.set_cons_succ]
          refine take_d (i := 1) (oi := _) (v := ?_) (d := some 83) rfl (by kernel_rfl) (by as_aux_lemma => kernel_rfl) (by as_aux_lemma => kernel_rfl) (by as_aux_lemma => kernel_rfl) (fun _ _ _ h => h) (Or.inl ⟨by kernel_rfl, ?_⟩) hHeld ?_
          rotate_left
          · intro w hSw; (try dsimp only at hSw); go_simp; (try with_reducible rfl)
          try simp only [Act.put, List.setIfInBounds_toArray, List.set_cons_zero, List.set_cons_succ]
          refine take_d (i := 2) (oi := _) (v := ?_) (d := some 84) rfl (by kernel_rfl) (by as_aux_lemma => kernel_rfl) (by as_aux_lemma => kernel_rfl) (by as_aux_lemma => kernel_rfl) (fun _ _ _ h => h) (Or.inl ⟨by kernel_rfl, ?_⟩) hHeld ?_
          rotate_left
          · intro w hSw; (try dsimp only at hSw); go_simp; (try with_reducible rfl)
          try simp only [Act.put, List.setIfInBounds_toArray, List.set_cons_zero, List.set_cons_succ]
          refine take_d (i := 3) (oi := _) (v := .bool false) (d := some 85) rfl (by kernel_rfl) (by as_aux_lemma => kernel_rfl) (by as_aux_lemma => kernel_rfl) (by as_aux_lemma => kernel_rfl) (fun _ _ _ h => h) (Or.inl ⟨by kernel_rfl, ?_⟩) hHeld ?_
          · intro W hSw
            go_simp; first | done | simp only [te] | simp only [ten] | simp [te, ten]
          try simp only [Act.put, List.setIfInBounds_toArray, List.set_cons_zero, List.set_cons_succ]
          refine take_d (i := 4) (oi := _) (v := ?_) (d := some 86) rfl (by kernel_rfl) (by as_aux_lemma => kernel_rfl) (by as_aux_lemma => kernel_rfl) (by as_aux_lemma => kernel_rfl) (fun _ _ _ h => h) (Or.inl ⟨by kernel_rfl, ?_⟩) hHeld ?_
          rotate_left
          · intro w hSw; (try dsimp only at hSw); go_simp; (try with_reducible rfl)
          try simp only [Act.put, List.setIfInBounds_toArray, List.set_cons_zero, List.set_cons_succ]
          refine take_d (i := 5) (oi := _) (v := ?_) (d := some 87) rfl (by kernel_rfl) (by as_aux_lemma => kernel_rfl) (by as_aux_lemma => kernel_rfl) (by as_aux_lemma => kernel_rfl) (fun _ _ _ h => h) (Or.inl ⟨by kernel_rfl, ?_⟩) hHeld ?_
          rotate_left
          · intro w hSw; (try dsimp only at hSw); go_simp; (try with_reducible rfl)
          try simp only [Act.put, List.setIfInBounds_toArray, List.set_cons_zero, List.set_cons_succ]
          refine take_d (i := 6) (oi := _) (v := ?_) (d := some 88) rfl (by kernel_rfl) (by as_aux_lemma => kernel_rfl) (by as_aux_lemma => kernel_rfl) (by as_aux_lemma => kernel_rfl) (fun _ _ _ h => h) (Or.inl ⟨by kernel_rfl, ?_⟩) hHeld ?_
          rotate_left
          · intro w hSw; (try dsimp only at hSw); go_simp; (try with_reducible rfl)
          try simp only [Act.put, List.setIfInBounds_toArray, List.set_cons_zero, List.set_cons_succ]
          refine take_d (i := 7) (oi := _) (v := ?_) (d := some 89) rfl (by kernel_rfl) (by as_aux_lemma => kernel_rfl) (by as_aux_lemma => kernel_rfl) (by as_aux_lemma => kernel_rfl) (fun _ _ _ h => h) (Or.inl ⟨by kernel_rfl, ?_⟩) hHeld ?_
          rotate_left
          · intro w hSw; (try dsimp only at hSw); go_simp; (try with_reducible rfl)
          try simp only [Act.put, List.setIfInBounds_toArray, List.set_cons_zero, List.set_cons_succ]
          refine take_d (i := 8) (oi := _) (v := ?_) (d := some 90) rfl (by kernel_rfl) (by as_aux_lemma => kernel_rfl) (by as_aux_lemma => kernel_rfl) (by as_aux_lemma => kernel_rfl) (fun _ _ _ h => h) (Or.inl ⟨by kernel_rfl, ?_⟩) hHeld ?_
          rotate_left
          · intro w hSw; (try dsimp only at hSw); go_simp; (try with_reducible rfl)
          try simp only [Act.put, List.setIfInBounds_toArray, List.set_cons_zero, List.set_cons_succ]
          refine take_d (i := 9) (oi := _) (v := ?_) (d := some 91) rfl (by kernel_rfl) (by as_aux_lemma => kernel_rfl) (by as_aux_lemma => kernel_rfl) (by as_aux_lemma => kernel_rfl) (fun _ _ _ h => h) (Or.inl ⟨by kernel_rfl, ?_⟩) hHeld ?_
          rotate_left
          · intro w hSw; (try dsimp only at hSw); go_simp; (try with_reducible rfl)
          try simp only [Act.put, List.setIfInBounds_toArray, List.set_cons_zero, List.set_cons_succ]
          refine take_d (i := 10) (oi := _) (v := .bool false) (d := some 92) rfl (by kernel_rfl) (by as_aux_lemma => kernel_rfl) (by as_aux_lemma => kernel_rfl) (by as_aux_lemma => kernel_rfl) (fun _ _ _ h => h) (Or.inl ⟨by kernel_rfl, ?_⟩) hHeld ?_
          · intro W hSw
            go_simp; first | done | simp only [tn] | simp only [tnn] | simp only [wan] | simp [tn, tnn, wan]
          try simp only [Act.put, List.setIfInBounds_toArray, List.set_cons_zero, List.set_cons_succ]
          refine take_d (i := 11) (oi := _) (v := ?_) (d := some 93) rfl (by kernel_rfl) (by as_aux_lemma => kernel_rfl) (by as_aux_lemma => kernel_rfl) (by as_aux_lemma => kernel_rfl) (fun _ _ _ h => h) (Or.inl ⟨by kernel_rfl, ?_⟩) hHeld ?_
          rotate_left
          · intro w hSw; (try dsimp only at hSw); go_simp; (try with_reducible rfl)
          try simp only [Act.put, List.setIfInBounds_toArray, List.set_cons_zero, List.set_cons_succ]
          refine take_d (i := 12) (oi := _) (v := ?_) (d := some 94) rfl (by kernel_rfl) (by as_aux_lemma => kernel_rfl) (by as_aux_lemma => kernel_rfl) (by as_aux_lemma => kernel_rfl) (fun _ _ _ h => h) (Or.inl ⟨by kernel_rfl, ?_⟩) hHeld ?_
          rotate_left
          · intro w hSw; (try dsimp only at hSw); go_simp; (try with_reducible rfl)
          try simp only [Act.put, List.setIfInBounds_toArray, List.set_cons_zero, List.set_cons_succ]
          refine take_d (i := 13) (oi := _) (v := ?_) (d := some 95) rfl (by kernel_rfl) (by as_aux_lemma => kernel_rfl) (by as_aux_lemma => kernel_rfl) (by as_aux_lemma => kernel_rfl) (fun _ _ _ h => h) (Or.inl ⟨by kernel_rfl, ?_⟩) hHeld ?_
          rotate_left
          · intro w hSw; (try dsimp only at hSw); go_simp; (try with_reducible rfl)
          try simp only [Act.put, List.setIfInBounds_toArray, List.set_cons_zero, List.set_cons_succ]
          refine take_d (i := 14) (oi := _) (v := ?_) (d := some 96) rfl (by kernel_rfl) (by as_aux_lemma => kernel_rfl) (by as_aux_lemma => kernel_rfl) (by as_aux_lemma => kernel_rfl) (fun _ _ _ h => h) (Or.inl ⟨by kernel_rfl, ?_⟩) hHeld ?_
          rotate_left
          · intro w hSw; (try dsimp only at hSw); go_simp; (try with_reducible rfl)
          try simp only [Act.put, List.setIfInBounds_toArray, List.set_cons_zero, List.set_cons_succ]
          refine take_d (i := 15) (oi := _) (v := ?_) (d := some 97) rfl (by kernel_rfl) (by as_aux_lemma => kernel_rfl) (by as_aux_lemma => kernel_rfl) (by as_aux_lemma => kernel_rfl) (fun _ _ _ h => h) (Or.inl ⟨by kernel_rfl, ?_⟩) hHeld ?_
          rotate_left
          · intro w hSw; (try dsimp only at hSw); go_simp; (try with_reducible rfl)
          try simp only [Act.put, List.setIfInBounds_toArray, List.set_cons_zero, List.set_cons_succ]
          refine take_d (i := 16) (oi := _) (v := ?_) (d := some 98) rfl (by kernel_rfl) (by as_aux_lemma => kernel_rfl) (by as_aux_lemma => kernel_rfl) (by as_aux_lemma => kernel_rfl) (fun _ _ _ h => h) (Or.inl ⟨by kernel_rfl, ?_⟩) hHeld ?_
          rotate_left
          · intro w hSw; (try dsimp only at hSw); go_simp; (try with_reducible rfl)
          try simp only [Act.put, List.setIfInBounds_toArray, List.set_cons_zero, List.set_cons_succ]
          refine take_d (i := 17) (oi := _) (v := ?_) (d := some 99) rfl (by kernel_rfl) (by as_aux_lemma => kernel_rfl) (by as_aux_lemma => kernel_rfl) (by as_aux_lemma => kernel_rfl) (fun _ _ _ h => h) (Or.inl ⟨by kernel_rfl, ?_⟩) hHeld ?_
          rotate_left
          · intro w hSw; (try dsimp only at hSw); go_simp; (try with_reducible rfl)
          try simp only [Act.put, List.setIfInBounds_toArray, List.set_cons_zero, List.set_cons_succ]
          refine take_d (i := 18) (oi := _) (v := ?_) (d := some 100) rfl (by kernel_rfl) (by as_aux_lemma => kernel_rfl) (by as_aux_lemma => kernel_rfl) (by as_aux_lemma => kernel_rfl) (fun _ _ _ h => h) (Or.inl ⟨by kernel_rfl, ?_⟩) hHeld ?_
          rotate_left
          · intro w hSw; (try dsimp only at hSw); go_simp; (try with_reducible rfl)
          try simp only [Act.put, List.setIfInBounds_toArray, List.set_cons_zero, List.set_cons_succ]
          refine take_d (i := 19) (oi := _) (v := ?_) (d := some 101) rfl (by kernel_rfl) (by as_aux_lemma => kernel_rfl) (by as_aux_lemma => kernel_rfl) (by as_aux_lemma => kernel_rfl) (fun _ _ _ h => h) (Or.inl ⟨by kernel_rfl, ?_⟩) hHeld ?_
          rotate_left
          · intro w hSw; (try dsimp only at hSw); go_simp; (try with_reducible rfl)
          try simp only [Act.put, List.setIfInBounds_toArray, List.set_cons_zero, List.set_cons_succ]
          refine wpAnyH_ready (rs := [20]) (by kernel_rfl) (by simp) ?_
          refine AllReadyH.cons rfl (fun K hK => ?_) AllReadyH.nil
          go_simp
          refine (CM.out _).mono ?_
          rintro e u1 ⟨rfl, hb⟩
          replace bq := (by first | exact Gw.call bq hb | exact Gw.call (Below.drew bq) hb)
          clear hb
          dsimp only
          refine hK.out _ _ (HB.out _ bq) (fun hHeld => ?_)
          clear hK K
          try simp only [Act.put, List.setIfInBounds_toArray, List.set_cons_zero, List.set_cons_succ]
          refine take_d (i := 21) (oi := _) (v := ?_) (d := some 103) rfl (by kernel_rfl) (by as_aux_lemma => kernel_rfl) (by as_aux_lemma => kernel_rfl) (by as_aux_lemma => kernel_rfl) (fun _ _ _ h => h) (Or.inl ⟨by kernel_rfl, ?_⟩) hHeld ?_
          rotate_left
          · intro w hSw; (try dsimp only at hSw); go_simp; (try with_reducible rfl)
          try simp only [Act.put, List.setIfInBounds_toArray, List.set_cons_zero, List.set_cons_succ]
          refine take_d (i := 22) (oi := _) (v := ?_) (d := some 104) rfl (by kernel_rfl) (by as_aux_lemma => kernel_rfl) (by as_aux_lemma => kernel_rfl) (by as_aux_lemma => kernel_rfl) (fun _ _ _ h => h) (Or.inl ⟨by kernel_rfl, ?_⟩) hHeld ?_
          rotate_left
          · intro w hSw; (try dsimp only at hSw); go_simp; (try with_reducible rfl)
          try simp only [Act.put, List.setIfInBounds_toArray, List.set_cons_zero, List.set_cons_succ]
          refine wpAnyH_done (by kernel_rfl) ?_ _
          clear hHeld HB te ten tn tnn wan
          go_wp2_with fail
          go_roundw
          case rel => exact ⟨j + 1, a, hjl, by go_num, rfl, by omega, Lib.hid (fun x' h => by have := HN.out x' h; have := HAF.out; omega), Gw.call bw bq⟩
          case measure => simp [intOf]; omega
    · clear HA
      obtain rfl : j = L.length := by omega
      go_wp2_with fail
      go_loopw [8] (fun av wr => ∃ a : Nat, av = .int .i64 a ∧ a ≤ ids.length ∧ Below w1.heap.size w1 wr) (fun av _ => ids.length - (intOf av).toNat)
      case atStart => exact ⟨a, rfl, ha, bq⟩
      case round =>
        clear bq ha
        obtain ⟨a, rfl, ha, bi⟩ := hrel
        by_cases hal : a < ids.length
        · obtain ⟨y, hy⟩ : ∃ y, ids[a]? = some y := ⟨_, List.getElem?_eq_getElem hal⟩
          have hai : (a : Int) < (ids.length : Int) := by omega
          have yok := Lib.hid (HIOK.out _ (List.mem_of_getElem? hy))
          have hyl := List.mem_of_getElem? hy
          obtain ⟨yn, yi, ys⟩ := y
          obtain ⟨⟨y0, y1⟩, ⟨y2, y3⟩, y4, y5⟩ := yok.out
          simp only at y0 y1 y2 y3 y4 y5
          obtain ⟨yn, rfl⟩ := Int.eq_ofNat_of_zero_le y0
          obtain ⟨bI, oI, hAI, hbI, hc⟩ := (rI.below (bi)).at_ hy
          subst hAI
          have f0 : wr.cell? ⟨bI, oI + a * 3, none⟩ = some (.int .u8 (yn : Int)) := hc 0 _ rfl
          have f1 : wr.cell? ⟨bI, oI + a * 3 + 1, none⟩ = some (.int .u16 yi) := hc 1 _ rfl
          have f2 : wr.cell? ⟨bI, oI + a * 3 + 2, none⟩ = some (.int .u32 ys) := hc 2 _ rfl
          clear hc
          have bz := Gw.al bi (.cells #[.int .u8 (yn : Int), .int .u16 yi, .int .u32 ys] 30)
          have Gy : Ob (wr.alloc (.cells #[.int .u8 (yn : Int), .int .u16 yi, .int .u32 ys] 30)) wr.heap.size #[.int .u8 (yn : Int), .int .u16 yi, .int .u32 ys] 30 := Ob.new wr #[.int .u8 (yn : Int), .int .u16 yi, .int .u32 ys] 30
          go_upto_region 19 with fail
          generalize hwy : wr.alloc (.cells #[.int .u8 (yn : Int), .int .u16 yi, .int .u32 ys] 30) = wy at *
          clear hwy f0 f1 f2 hy
          generalize hgy : wr.heap.size = gy at *
          clear hgy
          go_cut [137] (fun v wx => v = .bool false ∧ Below wy.heap.size wy wx)
          case first =>
            have bq := Below.refl wy.heap.size wy
            have way : IntKind.i64.wrap (yn : Int) = (yn : Int) := IntWalk.i64_in _ (by omega)
            by_cases hyn : yn < rows.length
            · obtain ⟨ry, hry⟩ : ∃ r, rows[yn]? = some r := ⟨_, List.getElem?_eq_getElem (by omega)⟩
              obtain ⟨bR, oR, hAR, hbR, hc⟩ := (rR.below bz).at_ hry
              subst hAR
              have e0 : wy.cell? ⟨bR, oR + yn * 3, none⟩ = some (.int .u16 ry.i) := hc 0 _ rfl
              have e1 : wy.cell? ⟨bR, oR + yn * 3 + 1, none⟩ = some (.int .u32 ry.p) := hc 1 _ rfl
              have e2 : wy.cell? ⟨bR, oR + yn * 3 + 2, none⟩ = some (.int .u64 ry.b) := hc 2 _ rfl
              have hbR2 : bR < wy.heap.size := Nat.lt_of_lt_of_le hbR bz.size
              have tyn : decide ((yn : Int) < (rows.length : Int)) = true := by simp; omega
              have tynn : decide (yn < rows.length) = true := by simp; omega
              have ynr : (yn : Int) < (rows.length : Int) := by omega
              have RYok := (RG.out ry (List.mem_of_getElem? hry)).1
              have CY := Lib.hid (fun W => may_any ry ⟨yn, yi, ys⟩ m RYok yok.out W)
              have HB : Hid (∀ W, Below wy.heap.size wy W → (fun W : World => W.cell? ⟨gy, 0, none⟩ = some (.int .u8 (yn : Int)) ∧ W.cell? ⟨gy, 1, none⟩ = some (.int .u16 yi) ∧ W.cell? ⟨gy, 2, none⟩ = some (.int .u32 ys) ∧ W.cell? ⟨bR, oR + yn * 3, none⟩ = some (.int .u16 ry.i) ∧ W.cell? ⟨bR, oR + yn * 3 + 1, none⟩ = some (.int .u32 ry.p) ∧ W.cell? ⟨bR, oR + yn * 3 + 2, none⟩ = some (.int .u64 ry.b)) W) := Lib.hid fun W hb => ⟨(Gy.call hb).blk.2.1 0 _ rfl, (Gy.call hb).blk.2.1 1 _ rfl, (Gy.call hb).blk.2.1 2 _ rfl, (hb.cell (p := ⟨bR, _, none⟩) hbR2).trans e0, (hb.cell (p := ⟨bR, _, none⟩) hbR2).trans e1, (hb.cell (p := ⟨bR, _, none⟩) hbR2).trans e2⟩
              clear e0 e1 e2 hc RYok
              cases hmy : mayB ry ⟨yn, yi, ys⟩ m
              · rw [hmy] at CY
                clear hmy hry
                refine wp_region_held_drew (S := fun W : World => W.cell? ⟨gy, 0, none⟩ = some (.int .u8 (yn : Int)) ∧ W.cell? ⟨gy, 1, none⟩ = some (.int .u16 yi) ∧ W.cell? ⟨gy, 2, none⟩ = some (.int .u32 ys) ∧ W.cell? ⟨bR, oR + yn * 3, none⟩ = some (.int .u16 ry.i) ∧ W.cell? ⟨bR, oR + yn * 3 + 1, none⟩ = some (.int .u32 ry.p) ∧ W.cell? ⟨bR, oR + yn * 3 + 2, none⟩ = some (.int .u64 ry.b)) (by kernel_rfl) (HB.out _ (Below.drew bq)) (fun hHeld => ?_)
                refine take_d (i := 0) (oi := _) (v := ?_) (d := some 116) rfl (by kernel_rfl) (by as_aux_lemma => kernel_rfl) (by as_aux_lemma => kernel_rfl) (by as_aux_lemma => kernel_rfl) (fun _ _ _ h => h) (Or.inl ⟨by kernel_rfl, ?_⟩) hHeld ?_
                rotate_left
                · intro w hSw; (try dsimp only at hSw); go_simp; (try with_reducible rfl)
                try simp only [Act.put, List.setIfInBounds_toArray, List.set_cons_zero, List.set_cons_succ]
                refine take_d (i := 1) (oi := _) (v := ?_) (d := some 117) rfl (by kernel_rfl) (by as_aux_lemma => kernel_rfl) (by as_aux_lemma => kernel_rfl) (by as_aux_lemma => kernel_rfl) (fun _ _ _ h => h) (Or.inl ⟨by kernel_rfl, ?_⟩) hHeld ?_
                rotate_left
                · intro w hSw; (try dsimp only at hSw); go_simp; (try with_reducible rfl)
                try simp only [Act.put, List.setIfInBounds_toArray, List.set_cons_zero, List.set_cons_succ]
                refine take_d (i := 2) (oi := _) (v := ?_) (d := some 118) rfl (by kernel_rfl) (by as_aux_lemma => kernel_rfl) (by as_aux_lemma => kernel_rfl) (by as_aux_lemma => kernel_rfl) (fun _ _ _ h => h) (Or.inl ⟨by kernel_rfl, ?_⟩) hHeld ?_
                rotate_left
                · intro w hSw; (try dsimp only at hSw); go_simp; (try with_reducible rfl)
                try simp only [Act.put, List.setIfInBounds_toArray, List.set_cons_zero, List.set_cons_succ]
                refine take_d (i := 3) (oi := _) (v := ?_) (d := some 119) rfl (by kernel_rfl) (by as_aux_lemma => kernel_rfl) (by as_aux_lemma => kernel_rfl) (by as_aux_lemma => kernel_rfl) (fun _ _ _ h => h) (Or.inl ⟨by kernel_rfl, ?_⟩) hHeld ?_
                rotate_left
                · intro w hSw; (try dsimp only at hSw); go_simp; (try with_reducible rfl)
                try simp only [Act.put, List.setIfInBounds_toArray, List.set_cons_zero, List.set_cons_succ]
                refine take_d (i := 4) (oi := _) (v := ?_) (d := some 120) rfl (by kernel_rfl) (by as_aux_lemma => kernel_rfl) (by as_aux_lemma => kernel_rfl) (by as_aux_lemma => kernel_rfl) (fun _ _ _ h => h) (Or.inl ⟨by kernel_rfl, ?_⟩) hHeld ?_
                rotate_left
                · intro w hSw; (try dsimp only at hSw); go_simp; (try with_reducible rfl)
                try simp only [Act.put, List.setIfInBounds_toArray, List.set_cons_zero, List.set_cons_succ]
                refine take_d (i := 5) (oi := _) (v := .bool true) (d := some 121) rfl (by kernel_rfl) (by as_aux_lemma => kernel_rfl) (by as_aux_lemma => kernel_rfl) (by as_aux_lemma => kernel_rfl) (fun _ _ _ h => h) (Or.inl ⟨by kernel_rfl, ?_⟩) hHeld ?_
                · intro W hSw
                  go_simp; first | done | simp only [tyn] | simp only [tynn] | simp only [way] | simp [tyn, tynn, way]
                try simp only [Act.put, List.setIfInBounds_toArray, List.set_cons_zero, List.set_cons_succ]
                refine take_d (i := 6) (oi := _) (v := ?_) (d := some 122) rfl (by kernel_rfl) (by as_aux_lemma => kernel_rfl) (by as_aux_lemma => kernel_rfl) (by as_aux_lemma => kernel_rfl) (fun _ _ _ h => h) (Or.inl ⟨by kernel_rfl, ?_⟩) hHeld ?_
                rotate_left
                · intro w hSw; (try dsimp only at hSw); go_simp; (try with_reducible rfl)
                try simp only [Act.put, List.setIfInBounds_toArray, List.set_cons_zero, List.set_cons_succ]
                refine take_d (i := 7) (oi := _) (v := ?_) (d := some 123) rfl (by kernel_rfl) (by as_aux_lemma => kernel_rfl) (by as_aux_lemma => kernel_rfl) (by as_aux_lemma => kernel_rfl) (fun _ _ _ h => h) (Or.inl ⟨by kernel_rfl, ?_⟩) hHeld ?_
                rotate_left
                · intro w hSw; (try dsimp only at hSw); go_simp; (try with_reducible rfl)
                try simp only [Act.put, List.setIfInBounds_toArray, List.set_cons_zero, List.set_cons_succ]
                refine take_d (i := 8) (oi := _) (v := ?_) (d := some 124) rfl (by kernel_rfl) (by as_aux_lemma => kernel_rfl) (by as_aux_lemma => kernel_rfl) (by as_aux_lemma => kernel_rfl) (fun _ _ _ h => h) (Or.inl ⟨by kernel_rfl, ?_⟩) hHeld ?_
                rotate_left
                · intro w hSw; (try dsimp only at hSw); go_simp; (try with_reducible rfl)
                try simp only [Act.put, List.setIfInBounds_toArray, List.set_cons_zero, List.set_cons_succ]
                refine take_d (i := 9) (oi := _) (v := ?_) (d := some 125) rfl (by kernel_rfl) (by as_aux_lemma => kernel_rfl) (by as_aux_lemma => kernel_rfl) (by as_aux_lemma => kernel_rfl) (fun _ _ _ h => h) (Or.inl ⟨by kernel_rfl, ?_⟩) hHeld ?_
                rotate_left
                · intro w hSw; (try dsimp only at hSw); go_simp; (try with_reducible rfl)
                try simp only [Act.put, List.setIfInBounds_toArray, List.set_cons_zero, List.set_cons_succ]
                refine take_d (i := 10) (oi := _) (v := ?_) (d := some 126) rfl (by kernel_rfl) (by as_aux_lemma => kernel_rfl) (by as_aux_lemma => kernel_rfl) (by as_aux_lemma => kernel_rfl) (fun _ _ _ h => h) (Or.inl ⟨by kernel_rfl, ?_⟩) hHeld ?_
                rotate_left
                · intro w hSw; (try dsimp only at hSw); go_simp; (try with_reducible rfl)
                try simp only [Act.put, List.setIfInBounds_toArray, List.set_cons_zero, List.set_cons_succ]
                refine take_d (i := 11) (oi := _) (v := ?_) (d := some 127) rfl (by kernel_rfl) (by as_aux_lemma => kernel_rfl) (by as_aux_lemma => kernel_rfl) (by as_aux_lemma => kernel_rfl) (fun _ _ _ h => h) (Or.inl ⟨by kernel_rfl, ?_⟩) hHeld ?_
                rotate_left
                · intro w hSw; (try dsimp only at hSw); go_simp; (try with_reducible rfl)
                try simp only [Act.put, List.setIfInBounds_toArray, List.set_cons_zero, List.set_cons_succ]
                refine take_d (i := 12) (oi := _) (v := ?_) (d := some 128) rfl (by kernel_rfl) (by as_aux_lemma => kernel_rfl) (by as_aux_lemma => kernel_rfl) (by as_aux_lemma => kernel_rfl) (fun _ _ _ h => h) (Or.inl ⟨by kernel_rfl, ?_⟩) hHeld ?_
                rotate_left
                · intro w hSw; (try dsimp only at hSw); go_simp; (try with_reducible rfl)
                try simp only [Act.put, List.setIfInBounds_toArray, List.set_cons_zero, List.set_cons_succ]
                refine take_d (i := 13) (oi := _) (v := ?_) (d := some 129) rfl (by kernel_rfl) (by as_aux_lemma => kernel_rfl) (by as_aux_lemma => kernel_rfl) (by as_aux_lemma => kernel_rfl) (fun _ _ _ h => h) (Or.inl ⟨by kernel_rfl, ?_⟩) hHeld ?_
                rotate_left
                · intro w hSw; (try dsimp only at hSw); go_simp; (try with_reducible rfl)
                try simp only [Act.put, List.setIfInBounds_toArray, List.set_cons_zero, List.set_cons_succ]
                refine wpAnyH_ready (rs := [14]) (by kernel_rfl) (by simp) ?_
                refine AllReadyH.cons rfl (fun K hK => ?_) AllReadyH.nil
                go_simp
                refine (CY.out _).mono ?_
                rintro e u1 ⟨rfl, hb⟩
                replace bq := (by first | exact Gw.call bq hb | exact Gw.call (Below.drew bq) hb)
                clear hb
                dsimp only
                refine hK.out _ _ (HB.out _ bq) (fun hHeld => ?_)
                clear hK K
                try simp only [Act.put, List.setIfInBounds_toArray, List.set_cons_zero, List.set_cons_succ]
                refine take_d (i := 15) (oi := _) (v := ?_) (d := some 131) rfl (by kernel_rfl) (by as_aux_lemma => kernel_rfl) (by as_aux_lemma => kernel_rfl) (by as_aux_lemma => kernel_rfl) (fun _ _ _ h => h) (Or.inl ⟨by kernel_rfl, ?_⟩) hHeld ?_
                rotate_left
                · intro w hSw; (try dsimp only at hSw); go_simp; (try with_reducible rfl)
                try simp only [Act.put, List.setIfInBounds_toArray, List.set_cons_zero, List.set_cons_succ]
                refine take_d (i := 16) (oi := _) (v := ?_) (d := some 132) rfl (by kernel_rfl) (by as_aux_lemma => kernel_rfl) (by as_aux_lemma => kernel_rfl) (by as_aux_lemma => kernel_rfl) (fun _ _ _ h => h) (Or.inl ⟨by kernel_rfl, ?_⟩) hHeld ?_
                rotate_left
                · intro w hSw; (try dsimp only at hSw); go_simp; (try with_reducible rfl)
                try simp only [Act.put, List.setIfInBounds_toArray, List.set_cons_zero, List.set_cons_succ]
                refine take_d (i := 17) (oi := _) (v := undef) (d := some 133) rfl (by kernel_rfl) (by as_aux_lemma => kernel_rfl) (by as_aux_lemma => kernel_rfl) (by as_aux_lemma => kernel_rfl) (fun _ _ _ h => h) (Or.inr ⟨by kernel_rfl, rfl⟩) hHeld ?_
                try simp only [Act.put, List.setIfInBounds_toArray, List.set_cons_zero, List.set_cons_succ]
                refine take_d (i := 18) (oi := _) (v := undef) (d := some 134) rfl (by kernel_rfl) (by as_aux_lemma => kernel_rfl) (by as_aux_lemma => kernel_rfl) (by as_aux_lemma => kernel_rfl) (fun _ _ _ h => h) (Or.inr ⟨by kernel_rfl, rfl⟩) hHeld ?_
                try simp only [Act.put, List.setIfInBounds_toArray, List.set_cons_zero, List.set_cons_succ]
                refine take_d (i := 19) (oi := _) (v := undef) (d := some 135) rfl (by kernel_rfl) (by as_aux_lemma => kernel_rfl) (by as_aux_lemma => kernel_rfl) (by as_aux_lemma => kernel_rfl) (fun _ _ _ h => h) (Or.inr ⟨by kernel_rfl, rfl⟩) hHeld ?_
                try simp only [Act.put, List.setIfInBounds_toArray, List.set_cons_zero, List.set_cons_succ]
                refine take_d (i := 20) (oi := _) (v := undef) (d := some 136) rfl (by kernel_rfl) (by as_aux_lemma => kernel_rfl) (by as_aux_lemma => kernel_rfl) (by as_aux_lemma => kernel_rfl) (fun _ _ _ h => h) (Or.inr ⟨by kernel_rfl, rfl⟩) hHeld ?_
                try simp only [Act.put, List.setIfInBounds_toArray, List.set_cons_zero, List.set_cons_succ]
                refine take_d (i := 21) (oi := _) (v := ?_) (d := some 137) rfl (by kernel_rfl) (by as_aux_lemma => kernel_rfl) (by as_aux_lemma => kernel_rfl) (by as_aux_lemma => kernel_rfl) (fun _ _ _ h => h) (Or.inl ⟨by kernel_rfl, ?_⟩) hHeld ?_
                rotate_left
                · intro w hSw; (try dsimp only at hSw); go_simp; (try with_reducible rfl)
                try simp only [Act.put, List.setIfInBounds_toArray, List.set_cons_zero, List.set_cons_succ]
                refine wpAnyH_done (by kernel_rfl) ?_ _
                go_wp2_with fail
                go_meet
                exact ⟨rfl, bq⟩
              · rw [hmy] at CY
                have hyL : hasB L ⟨yn, yi, ys⟩ = true := has_mem.2 (HI.out _ hyl (by unfold lackOk; simp only [Int.toNat_natCast, hry]; exact hmy))
                have CH := Lib.hid (fun W h => hyL ▸ has_any L ⟨yn, yi, ys⟩ A7 c7 W h (by omega))
                clear hmy hry hyL
                refine wp_region_held_drew (S := fun W : World => W.cell? ⟨gy, 0, none⟩ = some (.int .u8 (yn : Int)) ∧ W.cell? ⟨gy, 1, none⟩ = some (.int .u16 yi) ∧ W.cell? ⟨gy, 2, none⟩ = some (.int .u32 ys) ∧ W.cell? ⟨bR, oR + yn * 3, none⟩ = some (.int .u16 ry.i) ∧ W.cell? ⟨bR, oR + yn * 3 + 1, none⟩ = some (.int .u32 ry.p) ∧ W.cell? ⟨bR, oR + yn * 3 + 2, none⟩ = some (.int .u64 ry.b)) (by kernel_rfl) (HB.out _ (Below.drew bq)) (fun hHeld => ?_)
                refine take_d (i := 0) (oi := _) (v := ?_) (d := some 116) rfl (by kernel_rfl) (by as_aux_lemma => kernel_rfl) (by as_aux_lemma => kernel_rfl) (by as_aux_lemma => kernel_rfl) (fun _ _ _ h => h) (Or.inl ⟨by kernel_rfl, ?_⟩) hHeld ?_
                rotate_left
                · intro w hSw; (try dsimp only at hSw); go_simp; (try with_reducible rfl)
                try simp only [Act.put, List.setIfInBounds_toArray, List.set_cons_zero, List.set_cons_succ]
                refine take_d (i := 1) (oi := _) (v := ?_) (d := some 117) rfl (by kernel_rfl) (by as_aux_lemma => kernel_rfl) (by as_aux_lemma => kernel_rfl) (by as_aux_lemma => kernel_rfl) (fun _ _ _ h => h) (Or.inl ⟨by kernel_rfl, ?_⟩) hHeld ?_
                rotate_left
                · intro w hSw; (try dsimp only at hSw); go_simp; (try with_reducible rfl)
                try simp only [Act.put, List.setIfInBounds_toArray, List.set_cons_zero, List.set_cons_succ]
                refine take_d (i := 2) (oi := _) (v := ?_) (d := some 118) rfl (by kernel_rfl) (by as_aux_lemma => kernel_rfl) (by as_aux_lemma => kernel_rfl) (by as_aux_lemma => kernel_rfl) (fun _ _ _ h => h) (Or.inl ⟨by kernel_rfl, ?_⟩) hHeld ?_
                rotate_left
                · intro w hSw; (try dsimp only at hSw); go_simp; (try with_reducible rfl)
                try simp only [Act.put, List.setIfInBounds_toArray, List.set_cons_zero, List.set_cons_succ]
                refine take_d (i := 3) (oi := _) (v := ?_) (d := some 119) rfl (by kernel_rfl) (by as_aux_lemma => kernel_rfl) (by as_aux_lemma => kernel_rfl) (by as_aux_lemma => kernel_rfl) (fun _ _ _ h => h) (Or.inl ⟨by kernel_rfl, ?_⟩) hHeld ?_
                rotate_left
                · intro w hSw; (try dsimp only at hSw); go_simp; (try with_reducible rfl)
                try simp only [Act.put, List.setIfInBounds_toArray, List.set_cons_zero, List.set_cons_succ]
                refine take_d (i := 4) (oi := _) (v := ?_) (d := some 120) rfl (by kernel_rfl) (by as_aux_lemma => kernel_rfl) (by as_aux_lemma => kernel_rfl) (by as_aux_lemma => kernel_rfl) (fun _ _ _ h => h) (Or.inl ⟨by kernel_rfl, ?_⟩) hHeld ?_
                rotate_left
                · intro w hSw; (try dsimp only at hSw); go_simp; (try with_reducible rfl)
                try simp only [Act.put, List.setIfInBounds_toArray, List.set_cons_zero, List.set_cons_succ]
                refine take_d (i := 5) (oi := _) (v := .bool true) (d := some 121) rfl (by kernel_rfl) (by as_aux_lemma => kernel_rfl) (by as_aux_lemma => kernel_rfl) (by as_aux_lemma => kernel_rfl) (fun _ _ _ h => h) (Or.inl ⟨by kernel_rfl, ?_⟩) hHeld ?_
                · intro W hSw
                  go_simp; first | done | simp only [tyn] | simp only [tynn] | simp only [way] | simp [tyn, tynn, way]
                try simp only [Act.put, List.setIfInBounds_toArray, List.set_cons_zero, List.set_cons_succ]
                refine take_d (i := 6) (oi := _) (v := ?_) (d := some 122) rfl (by kernel_rfl) (by as_aux_lemma => kernel_rfl) (by as_aux_lemma => kernel_rfl) (by as_aux_lemma => kernel_rfl) (fun _ _ _ h => h) (Or.inl ⟨by kernel_rfl, ?_⟩) hHeld ?_
                rotate_left
                · intro w hSw; (try dsimp only at hSw); go_simp; (try with_reducible rfl)
                try simp only [Act.put, List.setIfInBounds_toArray, List.set_cons_zero, List.set_cons_succ]
                refine take_d (i := 7) (oi := _) (v := ?_) (d := some 123) rfl (by kernel_rfl) (by as_aux_lemma => kernel_rfl) (by as_aux_lemma => kernel_rfl) (by as_aux_lemma => kernel_rfl) (fun _ _ _ h => h) (Or.inl ⟨by kernel_rfl, ?_⟩) hHeld ?_
                rotate_left
                · intro w hSw; (try dsimp only at hSw); go_simp; (try with_reducible rfl)
                try simp only [Act.put, List.setIfInBounds_toArray, List.set_cons_zero, List.set_cons_succ]
                refine take_d (i := 8) (oi := _) (v := ?_) (d := some 124) rfl (by kernel_rfl) (by as_aux_lemma => kernel_rfl) (by as_aux_lemma => kernel_rfl) (by as_aux_lemma => kernel_rfl) (fun _ _ _ h => h) (Or.inl ⟨by kernel_rfl, ?_⟩) hHeld ?_
                rotate_left
                · intro w hSw; (try dsimp only at hSw); go_simp; (try with_reducible rfl)
                try simp only [Act.put, List.setIfInBounds_toArray, List.set_cons_zero, List.set_cons_succ]
                refine take_d (i := 9) (oi := _) (v := ?_) (d := some 125) rfl (by kernel_rfl) (by as_aux_lemma => kernel_rfl) (by as_aux_lemma => kernel_rfl) (by as_aux_lemma => kernel_rfl) (fun _ _ _ h => h) (Or.inl ⟨by kernel_rfl, ?_⟩) hHeld ?_
                rotate_left
                · intro w hSw; (try dsimp only at hSw); go_simp; (try with_reducible rfl)
                try simp only [Act.put, List.setIfInBounds_toArray, List.set_cons_zero, List.set_cons_succ]
                refine take_d (i := 10) (oi := _) (v := ?_) (d := some 126) rfl (by kernel_rfl) (by as_aux_lemma => kernel_rfl) (by as_aux_lemma => kernel_rfl) (by as_aux_lemma => kernel_rfl) (fun _ _ _ h => h) (Or.inl ⟨by kernel_rfl, ?_⟩) hHeld ?_
                rotate_left
                · intro w hSw; (try dsimp only at hSw); go_simp; (try with_reducible rfl)
                try simp only [Act.put, List.setIfInBounds_toArray, List.set_cons_zero, List.set_cons_succ]
                refine take_d (i := 11) (oi := _) (v := ?_) (d := some 127) rfl (by kernel_rfl) (by as_aux_lemma => kernel_rfl) (by as_aux_lemma => kernel_rfl) (by as_aux_lemma => kernel_rfl) (fun _ _ _ h => h) (Or.inl ⟨by kernel_rfl, ?_⟩) hHeld ?_
                rotate_left
                · intro w hSw; (try dsimp only at hSw); go_simp; (try with_reducible rfl)
                try simp only [Act.put, List.setIfInBounds_toArray, List.set_cons_zero, List.set_cons_succ]
                refine take_d (i := 12) (oi := _) (v := ?_) (d := some 128) rfl (by kernel_rfl) (by as_aux_lemma => kernel_rfl) (by as_aux_lemma => kernel_rfl) (by as_aux_lemma => kernel_rfl) (fun _ _ _ h => h) (Or.inl ⟨by kernel_rfl, ?_⟩) hHeld ?_
                rotate_left
                · intro w hSw; (try dsimp only at hSw); go_simp; (try with_reducible rfl)
                try simp only [Act.put, List.setIfInBounds_toArray, List.set_cons_zero, List.set_cons_succ]
                refine take_d (i := 13) (oi := _) (v := ?_) (d := some 129) rfl (by kernel_rfl) (by as_aux_lemma => kernel_rfl) (by as_aux_lemma => kernel_rfl) (by as_aux_lemma => kernel_rfl) (fun _ _ _ h => h) (Or.inl ⟨by kernel_rfl, ?_⟩) hHeld ?_
                rotate_left
                · intro w hSw; (try dsimp only at hSw); go_simp; (try with_reducible rfl)
                try simp only [Act.put, List.setIfInBounds_toArray, List.set_cons_zero, List.set_cons_succ]
                refine wpAnyH_ready (rs := [14]) (by kernel_rfl) (by simp) ?_
                refine AllReadyH.cons rfl (fun K hK => ?_) AllReadyH.nil
                go_simp
                refine (CY.out _).mono ?_
                rintro e u1 ⟨rfl, hb⟩
                replace bq := (by first | exact Gw.call bq hb | exact Gw.call (Below.drew bq) hb)
                clear hb
                dsimp only
                refine hK.out _ _ (HB.out _ bq) (fun hHeld => ?_)
                clear hK K
                try simp only [Act.put, List.setIfInBounds_toArray, List.set_cons_zero, List.set_cons_succ]
                refine take_d (i := 15) (oi := _) (v := ?_) (d := some 131) rfl (by kernel_rfl) (by as_aux_lemma => kernel_rfl) (by as_aux_lemma => kernel_rfl) (by as_aux_lemma => kernel_rfl) (fun _ _ _ h => h) (Or.inl ⟨by kernel_rfl, ?_⟩) hHeld ?_
                rotate_left
                · intro w hSw; (try dsimp only at hSw); go_simp; (try with_reducible rfl)
                try simp only [Act.put, List.setIfInBounds_toArray, List.set_cons_zero, List.set_cons_succ]
                refine take_d (i := 16) (oi := _) (v := ?_) (d := some 132) rfl (by kernel_rfl) (by as_aux_lemma => kernel_rfl) (by as_aux_lemma => kernel_rfl) (by as_aux_lemma => kernel_rfl) (fun _ _ _ h => h) (Or.inl ⟨by kernel_rfl, ?_⟩) hHeld ?_
                rotate_left
                · intro w hSw; (try dsimp only at hSw); go_simp; (try with_reducible rfl)
                try simp only [Act.put, List.setIfInBounds_toArray, List.set_cons_zero, List.set_cons_succ]
                refine take_d (i := 17) (oi := _) (v := ?_) (d := some 133) rfl (by kernel_rfl) (by as_aux_lemma => kernel_rfl) (by as_aux_lemma => kernel_rfl) (by as_aux_lemma => kernel_rfl) (fun _ _ _ h => h) (Or.inl ⟨by kernel_rfl, ?_⟩) hHeld ?_
                rotate_left
                · intro w hSw; (try dsimp only at hSw); go_simp; (try with_reducible rfl)
                try simp only [Act.put, List.setIfInBounds_toArray, List.set_cons_zero, List.set_cons_succ]
                refine take_d (i := 18) (oi := _) (v := ?_) (d := some 134) rfl (by kernel_rfl) (by as_aux_lemma => kernel_rfl) (by as_aux_lemma => kernel_rfl) (by as_aux_lemma => kernel_rfl) (fun _ _ _ h => h) (Or.inl ⟨by kernel_rfl, ?_⟩) hHeld ?_
                rotate_left
                · intro w hSw; (try dsimp only at hSw); go_simp; (try with_reducible rfl)
                try simp only [Act.put, List.setIfInBounds_toArray, List.set_cons_zero, List.set_cons_succ]
                refine wpAnyH_ready (rs := [19]) (by kernel_rfl) (by simp) ?_
                refine AllReadyH.cons rfl (fun K hK => ?_) AllReadyH.nil
                go_simp
                refine (CH.out _ (rL.up (Gw.call bz (by first | exact bq | exact Below.drew bq)))).mono ?_
                rintro e u2 ⟨rfl, hb⟩
                replace bq := (by first | exact Gw.call bq hb | exact Gw.call (Below.drew bq) hb)
                clear hb
                dsimp only
                refine hK.out _ _ (HB.out _ bq) (fun hHeld => ?_)
                clear hK K
                try simp only [Act.put, List.setIfInBounds_toArray, List.set_cons_zero, List.set_cons_succ]
                refine take_d (i := 20) (oi := _) (v := ?_) (d := some 136) rfl (by kernel_rfl) (by as_aux_lemma => kernel_rfl) (by as_aux_lemma => kernel_rfl) (by as_aux_lemma => kernel_rfl) (fun _ _ _ h => h) (Or.inl ⟨by kernel_rfl, ?_⟩) hHeld ?_
                rotate_left
                · intro w hSw; (try dsimp only at hSw); go_simp; (try with_reducible rfl)
                try simp only [Act.put, List.setIfInBounds_toArray, List.set_cons_zero, List.set_cons_succ]
                refine take_d (i := 21) (oi := _) (v := ?_) (d := some 137) rfl (by kernel_rfl) (by as_aux_lemma => kernel_rfl) (by as_aux_lemma => kernel_rfl) (by as_aux_lemma => kernel_rfl) (fun _ _ _ h => h) (Or.inl ⟨by kernel_rfl, ?_⟩) hHeld ?_
                rotate_left
                · intro w hSw; (try dsimp only at hSw); go_simp; (try with_reducible rfl)
                try simp only [Act.put, List.setIfInBounds_toArray, List.set_cons_zero, List.set_cons_succ]
                refine wpAnyH_done (by kernel_rfl) ?_ _
                go_wp2_with fail
                go_meet
                exact ⟨rfl, bq⟩
            · have tyn : decide ((yn : Int) < (rows.length : Int)) = false := by simp; omega
              have tynn : decide (yn < rows.length) = false := by simp; omega
              have HB : Hid (∀ W, Below wy.heap.size wy W → (fun W : World => W.cell? ⟨gy, 0, none⟩ = some (.int .u8 (yn : Int)) ∧ W.cell? ⟨gy, 1, none⟩ = some (.int .u16 yi) ∧ W.cell? ⟨gy, 2, none⟩ = some (.int .u32 ys)) W) := Lib.hid fun W hb => ⟨(Gy.call hb).blk.2.1 0 _ rfl, (Gy.call hb).blk.2.1 1 _ rfl, (Gy.call hb).blk.2.1 2 _ rfl⟩
              refine wp_region_held_drew (S := fun W : World => W.cell? ⟨gy, 0, none⟩ = some (.int .u8 (yn : Int)) ∧ W.cell? ⟨gy, 1, none⟩ = some (.int .u16 yi) ∧ W.cell? ⟨gy, 2, none⟩ = some (.int .u32 ys)) (by kernel_rfl) (HB.out _ (Below.drew bq)) (fun hHeld => ?_)
              refine take_d (i := 0) (oi := _) (v := ?_) (d := some 116) rfl (by kernel_rfl) (by as_aux_lemma => kernel_rfl) (by as_aux_lemma => kernel_rfl) (by as_aux_lemma => kernel_rfl) (fun _ _ _ h => h) (Or.inl ⟨by kernel_rfl, ?_⟩) hHeld ?_
              rotate_left
              · intro w hSw; (try dsimp only at hSw); go_simp; (try with_reducible rfl)
              try simp only [Act.put, List.setIfInBounds_toArray, List.set_cons_zero, List.set_cons_succ]
              refine take_d (i := 1) (oi := _) (v := ?_) (d := some 117) rfl (by kernel_rfl) (by as_aux_lemma => kernel_rfl) (by as_aux_lemma => kernel_rfl) (by as_aux_lemma => kernel_rfl) (fun _ _ _ h => h) (Or.inl ⟨by kernel_rfl, ?_⟩) hHeld ?_
              rotate_left
              · intro w hSw; (try dsimp only at hSw); go_simp; (try with_reducible rfl)
              try simp only [Act.put, List.setIfInBounds_toArray, List.set_cons_zero, List.set_cons_succ]
              refine take_d (i := 2) (oi := _) (v := ?_) (d := some 118) rfl (by kernel_rfl) (by as_aux_lemma => kernel_rfl) (by as_aux_lemma => kernel_rfl) (by as_aux_lemma => kernel_rfl) (fun _ _ _ h => h) (Or.inl ⟨by kernel_rfl, ?_⟩) hHeld ?_
              rotate_left
              · intro w hSw; (try dsimp only at hSw); go_simp; (try with_reducible rfl)
              try simp only [Act.put, List.setIfInBounds_toArray, List.set_cons_zero, List.set_cons_succ]
              refine take_d (i := 3) (oi := _) (v := ?_) (d := some 119) rfl (by kernel_rfl) (by as_aux_lemma => kernel_rfl) (by as_aux_lemma => kernel_rfl) (by as_aux_lemma => kernel_rfl) (fun _ _ _ h => h) (Or.inl ⟨by kernel_rfl, ?_⟩) hHeld ?_
              rotate_left
              · intro w hSw; (try dsimp only at hSw); go_simp; (try with_reducible rfl)
              try simp only [Act.put, List.setIfInBounds_toArray, List.set_cons_zero, List.set_cons_succ]
              refine take_d (i := 4) (oi := _) (v := ?_) (d := some 120) rfl (by kernel_rfl) (by as_aux_lemma => kernel_rfl) (by as_aux_lemma => kernel_rfl) (by as_aux_lemma => kernel_rfl) (fun _ _ _ h => h) (Or.inl ⟨by kernel_rfl, ?_⟩) hHeld ?_
              rotate_left
              · intro w hSw; (try dsimp only at hSw); go_simp; (try with_reducible rfl)
              try simp only [Act.put, List.setIfInBounds_toArray, List.set_cons_zero, List.set_cons_succ]
              refine take_d (i := 5) (oi := _) (v := .bool false) (d := some 121) rfl (by kernel_rfl) (by as_aux_lemma => kernel_rfl) (by as_aux_lemma => kernel_rfl) (by as_aux_lemma => kernel_rfl) (fun _ _ _ h => h) (Or.inl ⟨by kernel_rfl, ?_⟩) hHeld ?_
              · intro W hSw
                go_simp; first | done | simp only [tyn] | simp only [tynn] | simp only [way] | simp [tyn, tynn, way]
              try simp only [Act.put, List.setIfInBounds_toArray, List.set_cons_zero, List.set_cons_succ]
              refine take_d (i := 6) (oi := _) (v := ?_) (d := some 122) rfl (by kernel_rfl) (by as_aux_lemma => kernel_rfl) (by as_aux_lemma => kernel_rfl) (by as_aux_lemma => kernel_rfl) (fun _ _ _ h => h) (Or.inl ⟨by kernel_rfl, ?_⟩) hHeld ?_
              rotate_left
              · intro w hSw; (try dsimp only at hSw); go_simp; (try with_reducible rfl)
              try simp only [Act.put, List.setIfInBounds_toArray, List.set_cons_zero, List.set_cons_succ]
              refine take_d (i := 7) (oi := _) (v := undef) (d := some 123) rfl (by kernel_rfl) (by as_aux_lemma => kernel_rfl) (by as_aux_lemma => kernel_rfl) (by as_aux_lemma => kernel_rfl) (fun _ _ _ h => h) (Or.inr ⟨by kernel_rfl, rfl⟩) hHeld ?_
              try simp only [Act.put, List.setIfInBounds_toArray, List.set_cons_zero, List.set_cons_succ]
              refine take_d (i := 8) (oi := _) (v := undef) (d := some 124) rfl (by kernel_rfl) (by as_aux_lemma => kernel_rfl) (by as_aux_lemma => kernel_rfl) (by as_aux_lemma => kernel_rfl) (fun _ _ _ h => h) (Or.inr ⟨by kernel_rfl, rfl⟩) hHeld ?_
              try simp only [Act.put, List.setIfInBounds_toArray, List.set_cons_zero, List.set_cons_succ]
              refine take_d (i := 9) (oi := _) (v := undef) (d := some 125) rfl (by kernel_rfl) (by as_aux_lemma => kernel_rfl) (by as_aux_lemma => kernel_rfl) (by as_aux_lemma => kernel_rfl) (fun _ _ _ h => h) (Or.inr ⟨by kernel_rfl, rfl⟩) hHeld ?_
              try simp only [Act.put, List.setIfInBounds_toArray, List.set_cons_zero, List.set_cons_succ]
              refine take_d (i := 10) (oi := _) (v := undef) (d := some 126) rfl (by kernel_rfl) (by as_aux_lemma => kernel_rfl) (by as_aux_lemma => kernel_rfl) (by as_aux_lemma => kernel_rfl) (fun _ _ _ h => h) (Or.inr ⟨by kernel_rfl, rfl⟩) hHeld ?_
              try simp only [Act.put, List.setIfInBounds_toArray, List.set_cons_zero, List.set_cons_succ]
              refine take_d (i := 11) (oi := _) (v := undef) (d := some 127) rfl (by kernel_rfl) (by as_aux_lemma => kernel_rfl) (by as_aux_lemma => kernel_rfl) (by as_aux_lemma => kernel_rfl) (fun _ _ _ h => h) (Or.inr ⟨by kernel_rfl, rfl⟩) hHeld ?_
              try simp only [Act.put, List.setIfInBounds_toArray, List.set_cons_zero, List.set_cons_succ]
              refine take_d (i := 12) (oi := _) (v := undef) (d := some 128) rfl (by kernel_rfl) (by as_aux_lemma => kernel_rfl) (by as_aux_lemma => kernel_rfl) (by as_aux_lemma => kernel_rfl) (fun _ _ _ h => h) (Or.inr ⟨by kernel_rfl, rfl⟩) hHeld ?_
              try simp only [Act.put, List.setIfInBounds_toArray, List.set_cons_zero, List.set_cons_succ]
              refine take_d (i := 13) (oi := _) (v := undef) (d := some 129) rfl (by kernel_rfl) (by as_aux_lemma => kernel_rfl) (by as_aux_lemma => kernel_rfl) (by as_aux_lemma => kernel_rfl) (fun _ _ _ h => h) (Or.inr ⟨by kernel_rfl, rfl⟩) hHeld ?_
              try simp only [Act.put, List.setIfInBounds_toArray, List.set_cons_zero, List.set_cons_succ]
              refine take_d (i := 14) (oi := _) (v := undef) (d := some 130) rfl (by kernel_rfl) (by as_aux_lemma => kernel_rfl) (by as_aux_lemma => kernel_rfl) (by as_aux_lemma => kernel_rfl) (fun _ _ _ h => h) (Or.inr ⟨by kernel_rfl, rfl⟩) hHeld ?_
              try simp only [Act.put, List.setIfInBounds_toArray, List.set_cons_zero, List.set_cons_succ]
              refine take_d (i := 15) (oi := _) (v := ?_) (d := some 131) rfl (by kernel_rfl) (by as_aux_lemma => kernel_rfl) (by as_aux_lemma => kernel_rfl) (by as_aux_lemma => kernel_rfl) (fun _ _ _ h => h) (Or.inl ⟨by kernel_rfl, ?_⟩) hHeld ?_
              rotate_left
              · intro w hSw; (try dsimp only at hSw); go_simp; (try with_reducible rfl)
              try simp only [Act.put, List.setIfInBounds_toArray, List.set_cons_zero, List.set_cons_succ]
              refine take_d (i := 16) (oi := _) (v := ?_) (d := some 132) rfl (by kernel_rfl) (by as_aux_lemma => kernel_rfl) (by as_aux_lemma => kernel_rfl) (by as_aux_lemma => kernel_rfl) (fun _ _ _ h => h) (Or.inl ⟨by kernel_rfl, ?_⟩) hHeld ?_
              rotate_left
              · intro w hSw; (try dsimp only at hSw); go_simp; (try with_reducible rfl)
              try simp only [Act.put, List.setIfInBounds_toArray, List.set_cons_zero, List.set_cons_succ]
              refine take_d (i := 17) (oi := _) (v := undef) (d := some 133) rfl (by kernel_rfl) (by as_aux_lemma => kernel_rfl) (by as_aux_lemma => kernel_rfl) (by as_aux_lemma => kernel_rfl) (fun _ _ _ h => h) (Or.inr ⟨by kernel_rfl, rfl⟩) hHeld ?_
              try simp only [Act.put, List.setIfInBounds_toArray, List.set_cons_zero, List.set_cons_succ]
              refine take_d (i := 18) (oi := _) (v := undef) (d := some 134) rfl (by kernel_rfl) (by as_aux_lemma => kernel_rfl) (by as_aux_lemma => kernel_rfl) (by as_aux_lemma => kernel_rfl) (fun _ _ _ h => h) (Or.inr ⟨by kernel_rfl, rfl⟩) hHeld ?_
              try simp only [Act.put, List.setIfInBounds_toArray, List.set_cons_zero, List.set_cons_succ]
              refine take_d (i := 19) (oi := _) (v := undef) (d := some 135) rfl (by kernel_rfl) (by as_aux_lemma => kernel_rfl) (by as_aux_lemma => kernel_rfl) (by as_aux_lemma => kernel_rfl) (fun _ _ _ h => h) (Or.inr ⟨by kernel_rfl, rfl⟩) hHeld ?_
              try simp only [Act.put, List.setIfInBounds_toArray, List.set_cons_zero, List.set_cons_succ]
              refine take_d (i := 20) (oi := _) (v := undef) (d := some 136) rfl (by kernel_rfl) (by as_aux_lemma => kernel_rfl) (by as_aux_lemma => kernel_rfl) (by as_aux_lemma => kernel_rfl) (fun _ _ _ h => h) (Or.inr ⟨by kernel_rfl, rfl⟩) hHeld ?_
              try simp only [Act.put, List.setIfInBounds_toArray, List.set_cons_zero, List.set_cons_succ]
              refine take_d (i := 21) (oi := _) (v := ?_) (d := some 137) rfl (by kernel_rfl) (by as_aux_lemma => kernel_rfl) (by as_aux_lemma => kernel_rfl) (by as_aux_lemma => kernel_rfl) (fun _ _ _ h => h) (Or.inl ⟨by kernel_rfl, ?_⟩) hHeld ?_
              rotate_left
              · intro w hSw; (try dsimp only at hSw); go_simp; (try with_reducible rfl)
              try simp only [Act.put, List.setIfInBounds_toArray, List.set_cons_zero, List.set_cons_succ]
              refine wpAnyH_done (by kernel_rfl) ?_ _
              go_wp2_with fail
              go_meet
              exact ⟨rfl, Below.drew bq⟩
          case rest =>
            obtain ⟨rfl, bc⟩ := hcut
            clear hyl yok
            go_wp2_with fail
            go_roundw
            case rel => exact ⟨a + 1, by go_num, by omega, Gw.call bz bc⟩
            case measure => simp [intOf]; omega
        · obtain rfl : a = ids.length := by omega
          have LO := Own.litg (enc := rowc) (sz := 3) (E := 34) (base := wr.heap.size) wr wr.heap.size rfl (Nat.le_refl _)
          have r1 := Rd.allocS (rR.up bi) (.cells #[] 34)
          go_wp2_with (first | (at_builtin; refine wpList_app _ rfl _ _ 22 rfl wr.heap.size 34 i0 _ 16 Try.underlying22 hi0 hz0 hz1 hz2 rfl (by omega) rowc_len rowc_one (.slice (some ⟨wr.heap.size, 0, none⟩) 0 0) ([] : List Rw) rfl LO 0 rfl _ B rows.length cb rows rfl rfl r1 (by omega) (by omega) (by simp only [World.size_alloc]; omega) ?_; intro A13 c13 w3 o13 hg; simp only [Nat.zero_add, List.nil_append] at o13) | fail)
          have b3 := Gw.call bi (Gw.gr (Gw.al (Below.refl wr.heap.size wr) (.cells #[] 34)) hg (fun k hk => Nat.le_of_eq (own_blk hk).symm))
          replace o13 := o13.base_le bi.size
          clear LO r1 hg bi
          go_loopw [143] (fun iv wr => ∃ (j : Nat) (rs : List Rw), j ≤ L.length ∧ iv = .int .i64 j ∧ Own rowc 3 34 w1.heap.size wr (.slice A13 rows.length c13) rs ∧ Hid (TkInv rows m L j rs) ∧ Below w1.heap.size w1 wr) (fun iv _ => L.length - (intOf iv).toNat)
          case atStart => exact ⟨0, rows, Nat.zero_le _, rfl, o13, Lib.hid (tk_start RG.out), b3⟩
          case round =>
            clear o13 b3
            obtain ⟨j, rs, hj, rfl, o13, TI, bi⟩ := hrel
            by_cases hjl : j < L.length
            · skip
              obtain ⟨⟨n, i, s⟩, hx⟩ : ∃ x, L[j]? = some x := ⟨_, List.getElem?_eq_getElem (by omega)⟩
              have hxm := HM.out _ (List.mem_of_getElem? hx)
              have xok := Lib.hid (HIOK.out _ hxm.1)
              obtain ⟨⟨n0, n1⟩, ⟨j0, j1⟩, s0, s1⟩ := xok.out
              simp only at n0 n1 j0 j1 s0 s1
              obtain ⟨n, rfl⟩ := Int.eq_ofNat_of_zero_le n0
              obtain ⟨r0, hr0, hmay⟩ := lack_row hxm.2
              simp only [Int.toNat_natCast] at hr0
              have hnr : n < rows.length := (List.getElem?_eq_some_iff.1 hr0).1
              have HX := Lib.hid hx
              have HMAY := Lib.hid hmay
              obtain ⟨bL, oL, hAL, hbL, hc⟩ := (rL.below (bi)).at_ hx
              subst hAL
              have d0 : wr.cell? ⟨bL, oL + j * 3, none⟩ = some (.int .u8 (n : Int)) := hc 0 _ rfl
              have d1 : wr.cell? ⟨bL, oL + j * 3 + 1, none⟩ = some (.int .u16 i) := hc 1 _ rfl
              have d2 : wr.cell? ⟨bL, oL + j * 3 + 2, none⟩ = some (.int .u32 s) := hc 2 _ rfl
              have hji : (j : Int) < (L.length : Int) := by omega
              have nri : (n : Int) < (rows.length : Int) := by omega
              clear hc hx hxm hmay hr0
              obtain ⟨r, hr1⟩ : ∃ r, rs[n]? = some r := ⟨_, List.getElem?_eq_getElem (by have := TI.out.len; omega)⟩
              have HR1 := Lib.hid hr1
              have RR := Lib.hid (TI.out.good r (List.mem_of_getElem? hr1))
              have CT := Lib.hid (fun W => take_any r ⟨n, i, s⟩ m RR.out xok.out W)
              have TN := Lib.hid (tk_step (x := ⟨n, i, s⟩) TI.out HX.out HR1.out (fun x h => ⟨HIOK.out x (HM.out x h).1, by obtain ⟨r, _, h2⟩ := lack_row (HM.out x h).2; exact (may_pos (HIOK.out x (HM.out x h).1) h2).1⟩) (fun x h => (HM.out x h).2))
              obtain ⟨r', hr'⟩ : ∃ r', r' = takeF r ⟨n, i, s⟩ m := ⟨_, rfl⟩
              have hr2 : takeG r ⟨n, i, s⟩ m = r' := hr'.symm
              rw [hr2] at TN
              replace TN : Hid (TkInv rows m L (j + 1) (rs.set n r')) := TN
              rw [← hr'] at CT
              generalize mayB r ⟨n, i, s⟩ m = is at CT
              clear hr' hr2
              obtain ⟨g13, hg13⟩ := Own.head o13 (by have := TI.out.len; omega)
              subst hg13
              have bq := Gw.al bi (.cells #[.int .u8 (n : Int), .int .u16 i, .int .u32 s] 30)
              have G := Ob.new wr #[.int .u8 (n : Int), .int .u16 i, .int .u32 s] 30
              replace o13 := o13.alloc (.cells #[.int .u8 (n : Int), .int .u16 i, .int .u32 s] 30)
              go_upto_region 25 with fail
              generalize hwq : wr.alloc (.cells #[.int .u8 (n : Int), .int .u16 i, .int .u32 s] 30) = wq at *
              generalize hg : wr.heap.size = g at *
              clear hwq hg d0 d1 d2 hr1
              have hg1 : w1.heap.size ≤ g13 := (Own.row o13).2.1
              have hgq : g13 < wq.heap.size := by obtain ⟨_, _, cur, ho, _⟩ := Own.row o13; exact ho.lt
              have e0 := Own.at_ rowc_len o13 HR1.out (j := 0) rfl
              have e1 := Own.at_ rowc_len o13 HR1.out (j := 1) rfl
              have e2 := Own.at_ rowc_len o13 HR1.out (j := 2) rfl
              rw [Nat.add_zero] at e0
              have HB : Hid (∀ W, Below wq.heap.size wq W → (fun W : World => W.cell? ⟨g, 0, none⟩ = some (.int .u8 (n : Int)) ∧ W.cell? ⟨g, 1, none⟩ = some (.int .u16 i) ∧ W.cell? ⟨g, 2, none⟩ = some (.int .u32 s) ∧ W.cell? ⟨g13, n * 3, none⟩ = some (.int .u16 r.i) ∧ W.cell? ⟨g13, n * 3 + 1, none⟩ = some (.int .u32 r.p) ∧ W.cell? ⟨g13, n * 3 + 2, none⟩ = some (.int .u64 r.b)) W) := Lib.hid fun W hb => ⟨(G.call hb).blk.2.1 0 _ rfl, (G.call hb).blk.2.1 1 _ rfl, (G.call hb).blk.2.1 2 _ rfl, (hb.cell (p := ⟨g13, _, none⟩) hgq).trans e0, (hb.cell (p := ⟨g13, _, none⟩) hgq).trans e1, (hb.cell (p := ⟨g13, _, none⟩) hgq).trans e2⟩
              clear e0 e1 e2
              have b0 := bq
              clear bq
              have bq := Below.refl wq.heap.size wq
              go_cut [16, 17] (fun p _ wx => ∃ g16, p = .pointer (some ⟨g16, 0, none⟩) ∧ Ob wx g16 #[.int .u16 r'.i, .int .u32 r'.p, .int .u64 r'.b] 34 ∧ g16 ≠ g13 ∧ Below wq.heap.size wq wx)
              case first =>
                refine wp_region_held_drew (S := fun W : World => W.cell? ⟨g, 0, none⟩ = some (.int .u8 (n : Int)) ∧ W.cell? ⟨g, 1, none⟩ = some (.int .u16 i) ∧ W.cell? ⟨g, 2, none⟩ = some (.int .u32 s) ∧ W.cell? ⟨g13, n * 3, none⟩ = some (.int .u16 r.i) ∧ W.cell? ⟨g13, n * 3 + 1, none⟩ = some (.int .u32 r.p) ∧ W.cell? ⟨g13, n * 3 + 2, none⟩ = some (.int .u64 r.b)) (by kernel_rfl) (HB.out _ (Below.drew bq)) (fun hHeld => ?_)
                refine take_d (i := 0) (oi := _) (v := ?_) (d := some 148) rfl (by kernel_rfl) (by as_aux_lemma => kernel_rfl) (by as_aux_lemma => kernel_rfl) (by as_aux_lemma => kernel_rfl) (fun _ _ _ h => h) (Or.inl ⟨by kernel_rfl, ?_⟩) hHeld ?_
                rotate_left
                · intro w hSw; (try dsimp only at hSw); go_simp; (try with_reducible rfl)
                try simp only [Act.put, List.setIfInBounds_toArray, List.set_cons_zero, List.set_cons_succ]
                refine take_d (i := 1) (oi := _) (v := ?_) (d := some 149) rfl (by kernel_rfl) (by as_aux_lemma => kernel_rfl) (by as_aux_lemma => kernel_rfl) (by as_aux_lemma => kernel_rfl) (fun _ _ _ h => h) (Or.inl ⟨by kernel_rfl, ?_⟩) hHeld ?_
                rotate_left
                · intro w hSw; (try dsimp only at hSw); go_simp; (try with_reducible rfl)
                try simp only [Act.put, List.setIfInBounds_toArray, List.set_cons_zero, List.set_cons_succ]
                refine take_d (i := 2) (oi := _) (v := ?_) (d := some 150) rfl (by kernel_rfl) (by as_aux_lemma => kernel_rfl) (by as_aux_lemma => kernel_rfl) (by as_aux_lemma => kernel_rfl) (fun _ _ _ h => h) (Or.inl ⟨by kernel_rfl, ?_⟩) hHeld ?_
                rotate_left
                · intro w hSw; (try dsimp only at hSw); go_simp; (try with_reducible rfl)
                try simp only [Act.put, List.setIfInBounds_toArray, List.set_cons_zero, List.set_cons_succ]
                refine take_d (i := 3) (oi := _) (v := ?_) (d := some 151) rfl (by kernel_rfl) (by as_aux_lemma => kernel_rfl) (by as_aux_lemma => kernel_rfl) (by as_aux_lemma => kernel_rfl) (fun _ _ _ h => h) (Or.inl ⟨by kernel_rfl, ?_⟩) hHeld ?_
                rotate_left
                · intro w hSw; (try dsimp only at hSw); go_simp; (try with_reducible rfl)
                try simp only [Act.put, List.setIfInBounds_toArray, List.set_cons_zero, List.set_cons_succ]
                refine take_d (i := 4) (oi := _) (v := ?_) (d := some 152) rfl (by kernel_rfl) (by as_aux_lemma => kernel_rfl) (by as_aux_lemma => kernel_rfl) (by as_aux_lemma => kernel_rfl) (fun _ _ _ h => h) (Or.inl ⟨by kernel_rfl, ?_⟩) hHeld ?_
                rotate_left
                · intro w hSw; (try dsimp only at hSw); go_simp; (try with_reducible rfl)
                try simp only [Act.put, List.setIfInBounds_toArray, List.set_cons_zero, List.set_cons_succ]
                refine take_d (i := 5) (oi := _) (v := ?_) (d := some 153) rfl (by kernel_rfl) (by as_aux_lemma => kernel_rfl) (by as_aux_lemma => kernel_rfl) (by as_aux_lemma => kernel_rfl) (fun _ _ _ h => h) (Or.inl ⟨by kernel_rfl, ?_⟩) hHeld ?_
                rotate_left
                · intro w hSw; (try dsimp only at hSw); go_simp; (try with_reducible rfl)
                try simp only [Act.put, List.setIfInBounds_toArray, List.set_cons_zero, List.set_cons_succ]
                refine take_d (i := 6) (oi := _) (v := ?_) (d := some 154) rfl (by kernel_rfl) (by as_aux_lemma => kernel_rfl) (by as_aux_lemma => kernel_rfl) (by as_aux_lemma => kernel_rfl) (fun _ _ _ h => h) (Or.inl ⟨by kernel_rfl, ?_⟩) hHeld ?_
                rotate_left
                · intro w hSw; (try dsimp only at hSw); go_simp; (try with_reducible rfl)
                try simp only [Act.put, List.setIfInBounds_toArray, List.set_cons_zero, List.set_cons_succ]
                refine wpAnyH_ready (rs := [7, 11]) (by kernel_rfl) (by simp) ?_
                refine AllReadyH.cons rfl (fun K hK => ?_) (AllReadyH.cons rfl (fun K hK => ?_) AllReadyH.nil)
                · skip
                  go_simp
                  refine (CT.out _).mono ?_
                  rintro e u1 ⟨rfl, hb⟩
                  replace bq := (by first | exact Gw.call bq hb | exact Gw.call (Below.drew bq) hb)
                  clear hb
                  dsimp only
                  refine hK.out _ _ (HB.out _ bq) (fun hHeld => ?_)
                  clear hK K
                  try simp only [Act.put, List.setIfInBounds_toArray, List.set_cons_zero, List.set_cons_succ]
                  refine take_d (i := 8) (oi := _) (v := ?_) (d := some 147) rfl (by kernel_rfl) (by as_aux_lemma => kernel_rfl) (by as_aux_lemma => kernel_rfl) (by as_aux_lemma => kernel_rfl) (fun _ _ _ h => h) (Or.inl ⟨by kernel_rfl, ?_⟩) hHeld ?_
                  rotate_left
                  · intro w hSw; (try dsimp only at hSw); go_simp; (try with_reducible rfl)
                  try simp only [Act.put, List.setIfInBounds_toArray, List.set_cons_zero, List.set_cons_succ]
                  refine take_d (i := 9) (oi := _) (v := ?_) (d := some 156) rfl (by kernel_rfl) (by as_aux_lemma => kernel_rfl) (by as_aux_lemma => kernel_rfl) (by as_aux_lemma => kernel_rfl) (fun _ _ _ h => h) (Or.inl ⟨by kernel_rfl, ?_⟩) hHeld ?_
                  rotate_left
                  · intro w hSw; (try dsimp only at hSw); go_simp; (try with_reducible rfl)
                  try simp only [Act.put, List.setIfInBounds_toArray, List.set_cons_zero, List.set_cons_succ]
                  refine take_d (i := 10) (oi := _) (v := ?_) (d := some 157) rfl (by kernel_rfl) (by as_aux_lemma => kernel_rfl) (by as_aux_lemma => kernel_rfl) (by as_aux_lemma => kernel_rfl) (fun _ _ _ h => h) (Or.inl ⟨by kernel_rfl, ?_⟩) hHeld ?_
                  rotate_left
                  · intro w hSw; (try dsimp only at hSw); go_simp; (try with_reducible rfl)
                  try simp only [Act.put, List.setIfInBounds_toArray, List.set_cons_zero, List.set_cons_succ]
                  refine wpAnyH_ready (rs := [11]) (by kernel_rfl) (by simp) ?_
                  refine AllReadyH.cons rfl (fun K hK => ?_) AllReadyH.nil
                  go_simp
                  have hub := bq.size
                  refine hK.out _ _ (HB.out _ (Gw.al bq _)) (fun hHeld => ?_)
                  clear hK K
                  try simp only [Act.put, List.setIfInBounds_toArray, List.set_cons_zero, List.set_cons_succ]
                  refine wpAnyH_ready (rs := [12]) (by kernel_rfl) (by simp) ?_
                  refine AllReadyH.cons rfl (fun K hK => ?_) AllReadyH.nil
                  go_simp
                  refine hK.out _ _ (HB.out _ (Gw.al bq _)) (fun hHeld => ?_)
                  clear hK K
                  try simp only [Act.put, List.setIfInBounds_toArray, List.set_cons_zero, List.set_cons_succ]
                  refine take_d (i := 13) (oi := _) (v := ?_) (d := some 17) rfl (by kernel_rfl) (by as_aux_lemma => kernel_rfl) (by as_aux_lemma => kernel_rfl) (by as_aux_lemma => kernel_rfl) (fun _ _ _ h => h) (Or.inl ⟨by kernel_rfl, ?_⟩) hHeld ?_
                  rotate_left
                  · intro w hSw; (try dsimp only at hSw); go_simp; (try with_reducible rfl)
                  try simp only [Act.put, List.setIfInBounds_toArray, List.set_cons_zero, List.set_cons_succ]
                  refine wpAnyH_done (by kernel_rfl) ?_ _
                  go_wp2_with fail
                  go_meet
                  exact ⟨_, rfl, Ob.new _ _ _, by omega, Gw.al bq _⟩
                · skip
                  go_simp
                  have G16 : Ob (wq.drew.alloc (.cells #[.int .u16 0, .int .u32 0, .int .u64 0] 34)) wq.heap.size #[.int .u16 0, .int .u32 0, .int .u64 0] 34 := Ob.new wq.drew #[.int .u16 0, .int .u32 0, .int .u64 0] 34
                  replace bq := Gw.al (Below.drew bq) (.cells #[.int .u16 0, .int .u32 0, .int .u64 0] 34)
                  refine hK.out _ _ (HB.out _ bq) (fun hHeld => ?_)
                  clear hK K
                  try simp only [Act.put, List.setIfInBounds_toArray, List.set_cons_zero, List.set_cons_succ]
                  refine wpAnyH_ready (rs := [7]) (by kernel_rfl) (by simp) ?_
                  refine AllReadyH.cons rfl (fun K hK => ?_) AllReadyH.nil
                  go_simp
                  refine (CT.out _).mono ?_
                  rintro e u1 ⟨rfl, hb⟩
                  replace bq := (by first | exact Gw.call bq hb | exact Gw.call (Below.drew bq) hb)
                  replace G16 := G16.call hb
                  have k0 := G16.blk.2.1 0 _ rfl
                  have k1 := G16.blk.2.1 1 _ rfl
                  have k2 := G16.blk.2.1 2 _ rfl
                  have k8 := G16.blk.2.2
                  clear hb
                  dsimp only
                  refine hK.out _ _ (HB.out _ bq) (fun hHeld => ?_)
                  clear hK K
                  try simp only [Act.put, List.setIfInBounds_toArray, List.set_cons_zero, List.set_cons_succ]
                  refine take_d (i := 8) (oi := _) (v := ?_) (d := some 147) rfl (by kernel_rfl) (by as_aux_lemma => kernel_rfl) (by as_aux_lemma => kernel_rfl) (by as_aux_lemma => kernel_rfl) (fun _ _ _ h => h) (Or.inl ⟨by kernel_rfl, ?_⟩) hHeld ?_
                  rotate_left
                  · intro w hSw; (try dsimp only at hSw); go_simp; (try with_reducible rfl)
                  try simp only [Act.put, List.setIfInBounds_toArray, List.set_cons_zero, List.set_cons_succ]
                  refine take_d (i := 9) (oi := _) (v := ?_) (d := some 156) rfl (by kernel_rfl) (by as_aux_lemma => kernel_rfl) (by as_aux_lemma => kernel_rfl) (by as_aux_lemma => kernel_rfl) (fun _ _ _ h => h) (Or.inl ⟨by kernel_rfl, ?_⟩) hHeld ?_
                  rotate_left
                  · intro w hSw; (try dsimp only at hSw); go_simp; (try with_reducible rfl)
                  try simp only [Act.put, List.setIfInBounds_toArray, List.set_cons_zero, List.set_cons_succ]
                  refine take_d (i := 10) (oi := _) (v := ?_) (d := some 157) rfl (by kernel_rfl) (by as_aux_lemma => kernel_rfl) (by as_aux_lemma => kernel_rfl) (by as_aux_lemma => kernel_rfl) (fun _ _ _ h => h) (Or.inl ⟨by kernel_rfl, ?_⟩) hHeld ?_
                  rotate_left
                  · intro w hSw; (try dsimp only at hSw); go_simp; (try with_reducible rfl)
                  try simp only [Act.put, List.setIfInBounds_toArray, List.set_cons_zero, List.set_cons_succ]
                  refine wpAnyH_ready (rs := [12]) (by kernel_rfl) (by simp) ?_
                  refine AllReadyH.cons rfl (fun K hK => ?_) AllReadyH.nil
                  go_simp
                  refine hK.out _ _ (HB.out _ (Gw.st (Gw.st (Gw.st bq (p := ⟨wq.heap.size, 0, none⟩) (Nat.le_refl _) _) (p := ⟨wq.heap.size, 1, none⟩) (Nat.le_refl _) _) (p := ⟨wq.heap.size, 2, none⟩) (Nat.le_refl _) _)) (fun hHeld => ?_)
                  clear hK K
                  try simp only [Act.put, List.setIfInBounds_toArray, List.set_cons_zero, List.set_cons_succ]
                  refine take_d (i := 13) (oi := _) (v := ?_) (d := some 17) rfl (by kernel_rfl) (by as_aux_lemma => kernel_rfl) (by as_aux_lemma => kernel_rfl) (by as_aux_lemma => kernel_rfl) (fun _ _ _ h => h) (Or.inl ⟨by kernel_rfl, ?_⟩) hHeld ?_
                  rotate_left
                  · intro w hSw; (try dsimp only at hSw); go_simp; (try with_reducible rfl)
                  try simp only [Act.put, List.setIfInBounds_toArray, List.set_cons_zero, List.set_cons_succ]
                  refine wpAnyH_done (by kernel_rfl) ?_ _
                  go_wp2_with fail
                  go_meet
                  exact ⟨_, rfl, ((G16.set 0 _).set 1 _).set 2 _, by omega, Gw.st (Gw.st (Gw.st bq (p := ⟨wq.heap.size, 0, none⟩) (Nat.le_refl _) _) (p := ⟨wq.heap.size, 1, none⟩) (Nat.le_refl _) _) (p := ⟨wq.heap.size, 2, none⟩) (Nat.le_refl _) _⟩
              case rest =>
                obtain ⟨g16, rfl, G16, hne, bc⟩ := hcut
                replace o13 := Own.below o13 bc
                have k0 := G16.blk.2.1 0 _ rfl
                have k1 := G16.blk.2.1 1 _ rfl
                have k2 := G16.blk.2.1 2 _ rfl
                have c0 := (G.call bc).blk.2.1 0 _ rfl
                have f13 := fun j => Own.free o13 j
                have e0 := Own.at_ rowc_len o13 HR1.out (j := 0) rfl
                have e1 := Own.at_ rowc_len o13 HR1.out (j := 1) rfl
                have e2 := Own.at_ rowc_len o13 HR1.out (j := 2) rfl
                rw [Nat.add_zero] at e0
                clear HB CT bq G
                go_wp2_with fail
                go_roundw
                case rel => exact ⟨j + 1, rs.set n r', hjl, by go_num, own_put_row o13 HR1.out r', TN, Gw.st (Gw.st (Gw.st (Gw.call b0 bc) (p := ⟨_, n * 3, none⟩) hg1 _) (p := ⟨_, n * 3 + 1, none⟩) hg1 _) (p := ⟨_, n * 3 + 2, none⟩) hg1 _⟩
                case measure => simp [intOf]; omega
            · obtain rfl : j = L.length := by omega
              have rN := o13.rd rowc_len
              have RLen : Hid (rs.length = rows.length) := Lib.hid TI.out.len
              have RGS : Hid (∀ r ∈ rs, GoodR r) := Lib.hid TI.out.good
              have DN := Lib.hid (fun x (h : x ∈ L) r hr => TI.out.done x (by rw [List.take_length]; exact h) r hr)
              generalize wr = w5 at *
              clear o13 TI
              go_wp2_with fail
              go_loopw [166] (fun iv wi => ∃ j : Nat, j ≤ L.length ∧ iv = .int .i64 j ∧ Below w5.heap.size w5 wi) (fun iv _ => L.length - (intOf iv).toNat)
              case atStart => exact ⟨0, Nat.zero_le _, rfl, Below.refl _ _⟩
              case round =>
                obtain ⟨j, hj, rfl, bj⟩ := hrel
                by_cases hjl : j < L.length
                · skip
                  obtain ⟨⟨n, i, s⟩, hx⟩ : ∃ x, L[j]? = some x := ⟨_, List.getElem?_eq_getElem (by omega)⟩
                  have hxm := HM.out _ (List.mem_of_getElem? hx)
                  have xok := Lib.hid (HIOK.out _ hxm.1)
                  obtain ⟨⟨n0, n1⟩, ⟨j0, j1⟩, s0, s1⟩ := xok.out
                  simp only at n0 n1 j0 j1 s0 s1
                  obtain ⟨n, rfl⟩ := Int.eq_ofNat_of_zero_le n0
                  obtain ⟨r0, hr0, hmay⟩ := lack_row hxm.2
                  simp only [Int.toNat_natCast] at hr0
                  have hnr : n < rows.length := (List.getElem?_eq_some_iff.1 hr0).1
                  have HX := Lib.hid hx
                  have HMAY := Lib.hid hmay
                  obtain ⟨bL, oL, hAL, hbL, hc⟩ := (rL.below (Gw.call bi bj)).at_ hx
                  subst hAL
                  have d0 : wr.cell? ⟨bL, oL + j * 3, none⟩ = some (.int .u8 (n : Int)) := hc 0 _ rfl
                  have d1 : wr.cell? ⟨bL, oL + j * 3 + 1, none⟩ = some (.int .u16 i) := hc 1 _ rfl
                  have d2 : wr.cell? ⟨bL, oL + j * 3 + 2, none⟩ = some (.int .u32 s) := hc 2 _ rfl
                  have hji : (j : Int) < (L.length : Int) := by omega
                  have nri : (n : Int) < (rows.length : Int) := by omega
                  clear hc hx hxm hmay hr0
                  obtain ⟨r, hr1⟩ : ∃ r, rs[n]? = some r := ⟨_, List.getElem?_eq_getElem (by have := RLen.out; omega)⟩
                  have hdn := DN.out _ (List.mem_of_getElem? HX.out) r hr1
                  obtain ⟨hm0, hh1, hh2⟩ := done_no (m := m) hdn xok.out (may_pos xok.out HMAY.out).2
                  have HNO : Hid (lackOk rs m ⟨n, i, s⟩ = false) := Lib.hid (by unfold lackOk; simp only [Int.toNat_natCast, hr1]; exact hm0)
                  have RR := Lib.hid (RGS.out r (List.mem_of_getElem? hr1))
                  obtain ⟨b13, p13, hA13, hb13, hc⟩ := (rN.below bj).at_ hr1
                  subst hA13
                  have e0 : wr.cell? ⟨b13, p13 + n * 3, none⟩ = some (.int .u16 r.i) := hc 0 _ rfl
                  have e1 : wr.cell? ⟨b13, p13 + n * 3 + 1, none⟩ = some (.int .u32 r.p) := hc 1 _ rfl
                  have e2 : wr.cell? ⟨b13, p13 + n * 3 + 2, none⟩ = some (.int .u64 r.b) := hc 2 _ rfl
                  have hbq : b13 < (wr.alloc (.cells #[.int .u8 (n : Int), .int .u16 i, .int .u32 s] 30)).heap.size := by rw [World.size_alloc]; exact Nat.lt_succ_of_lt (Nat.lt_of_lt_of_le hb13 bj.size)
                  have G := Ob.new wr #[.int .u8 (n : Int), .int .u16 i, .int .u32 s] 30
                  have bx := Gw.al bj (.cells #[.int .u8 (n : Int), .int .u16 i, .int .u32 s] 30)
                  clear hc hdn hm0
                  go_upto_region 31 with fail
                  replace e0 := (World.cell?_alloc_lt' e0 (.cells #[.int .u8 (n : Int), .int .u16 i, .int .u32 s] 30))
                  replace e1 := (World.cell?_alloc_lt' e1 (.cells #[.int .u8 (n : Int), .int .u16 i, .int .u32 s] 30))
                  replace e2 := (World.cell?_alloc_lt' e2 (.cells #[.int .u8 (n : Int), .int .u16 i, .int .u32 s] 30))
                  generalize hwq : wr.alloc (.cells #[.int .u8 (n : Int), .int .u16 i, .int .u32 s] 30) = wq at *
                  generalize hg : wr.heap.size = g at *
                  clear hwq hg d0 d1 d2 hr1
                  have HB : Hid (∀ W, Below wq.heap.size wq W → (fun W : World => W.cell? ⟨g, 0, none⟩ = some (.int .u8 (n : Int)) ∧ W.cell? ⟨g, 1, none⟩ = some (.int .u16 i) ∧ W.cell? ⟨g, 2, none⟩ = some (.int .u32 s) ∧ W.cell? ⟨b13, p13 + n * 3, none⟩ = some (.int .u16 r.i) ∧ W.cell? ⟨b13, p13 + n * 3 + 1, none⟩ = some (.int .u32 r.p) ∧ W.cell? ⟨b13, p13 + n * 3 + 2, none⟩ = some (.int .u64 r.b)) W) := Lib.hid fun W hb => ⟨(G.call hb).blk.2.1 0 _ rfl, (G.call hb).blk.2.1 1 _ rfl, (G.call hb).blk.2.1 2 _ rfl, (hb.cell (p := ⟨b13, _, none⟩) hbq).trans e0, (hb.cell (p := ⟨b13, _, none⟩) hbq).trans e1, (hb.cell (p := ⟨b13, _, none⟩) hbq).trans e2⟩
                  clear e0 e1 e2
                  have bq := Below.refl wq.heap.size wq
                  go_cut [195] (fun v wx => v = .bool false ∧ Below wq.heap.size wq wx)
                  case first =>
                    by_cases hri : r.i ≤ i
                    · have CR := Lib.hid (fun W => hh1 hri ▸ rhas_any r ⟨n, i, s⟩ RR.out.1 xok.out W)
                      clear hri hh1 hh2
                      refine wp_region_held_drew (S := fun W : World => W.cell? ⟨g, 0, none⟩ = some (.int .u8 (n : Int)) ∧ W.cell? ⟨g, 1, none⟩ = some (.int .u16 i) ∧ W.cell? ⟨g, 2, none⟩ = some (.int .u32 s) ∧ W.cell? ⟨b13, p13 + n * 3, none⟩ = some (.int .u16 r.i) ∧ W.cell? ⟨b13, p13 + n * 3 + 1, none⟩ = some (.int .u32 r.p) ∧ W.cell? ⟨b13, p13 + n * 3 + 2, none⟩ = some (.int .u64 r.b)) (by kernel_rfl) (HB.out _ (Below.drew bq)) (fun hHeld => ?_)
                      refine take_d (i := 0) (oi := _) (v := ?_) (d := some 170) rfl (by kernel_rfl) (by as_aux_lemma => kernel_rfl) (by as_aux_lemma => kernel_rfl) (by as_aux_lemma => kernel_rfl) (fun _ _ _ h => h) (Or.inl ⟨by kernel_rfl, ?_⟩) hHeld ?_
                      rotate_left
                      · intro w hSw; (try dsimp only at hSw); go_simp; (try with_reducible rfl)
                      try simp only [Act.put, List.setIfInBounds_toArray, List.set_cons_zero, List.set_cons_succ]
                      refine take_d (i := 1) (oi := _) (v := ?_) (d := some 171) rfl (by kernel_rfl) (by as_aux_lemma => kernel_rfl) (by as_aux_lemma => kernel_rfl) (by as_aux_lemma => kernel_rfl) (fun _ _ _ h => h) (Or.inl ⟨by kernel_rfl, ?_⟩) hHeld ?_
                      rotate_left
                      · intro w hSw; (try dsimp only at hSw); go_simp; (try with_reducible rfl)
                      try simp only [Act.put, List.setIfInBounds_toArray, List.set_cons_zero, List.set_cons_succ]
                      refine take_d (i := 2) (oi := _) (v := ?_) (d := some 172) rfl (by kernel_rfl) (by as_aux_lemma => kernel_rfl) (by as_aux_lemma => kernel_rfl) (by as_aux_lemma => kernel_rfl) (fun _ _ _ h => h) (Or.inl ⟨by kernel_rfl, ?_⟩) hHeld ?_
                      rotate_left
                      · intro w hSw; (try dsimp only at hSw); go_simp; (try with_reducible rfl)
                      try simp only [Act.put, List.setIfInBounds_toArray, List.set_cons_zero, List.set_cons_succ]
                      refine take_d (i := 3) (oi := _) (v := ?_) (d := some 173) rfl (by kernel_rfl) (by as_aux_lemma => kernel_rfl) (by as_aux_lemma => kernel_rfl) (by as_aux_lemma => kernel_rfl) (fun _ _ _ h => h) (Or.inl ⟨by kernel_rfl, ?_⟩) hHeld ?_
                      rotate_left
                      · intro w hSw; (try dsimp only at hSw); go_simp; (try with_reducible rfl)
                      try simp only [Act.put, List.setIfInBounds_toArray, List.set_cons_zero, List.set_cons_succ]
                      refine take_d (i := 4) (oi := _) (v := ?_) (d := some 174) rfl (by kernel_rfl) (by as_aux_lemma => kernel_rfl) (by as_aux_lemma => kernel_rfl) (by as_aux_lemma => kernel_rfl) (fun _ _ _ h => h) (Or.inl ⟨by kernel_rfl, ?_⟩) hHeld ?_
                      rotate_left
                      · intro w hSw; (try dsimp only at hSw); go_simp; (try with_reducible rfl)
                      try simp only [Act.put, List.setIfInBounds_toArray, List.set_cons_zero, List.set_cons_succ]
                      refine take_d (i := 5) (oi := _) (v := ?_) (d := some 175) rfl (by kernel_rfl) (by as_aux_lemma => kernel_rfl) (by as_aux_lemma => kernel_rfl) (by as_aux_lemma => kernel_rfl) (fun _ _ _ h => h) (Or.inl ⟨by kernel_rfl, ?_⟩) hHeld ?_
                      rotate_left
                      · intro w hSw; (try dsimp only at hSw); go_simp; (try with_reducible rfl)
                      try simp only [Act.put, List.setIfInBounds_toArray, List.set_cons_zero, List.set_cons_succ]
                      refine take_d (i := 7) (oi := _) (v := ?_) (d := some 177) rfl (by kernel_rfl) (by as_aux_lemma => kernel_rfl) (by as_aux_lemma => kernel_rfl) (by as_aux_lemma => kernel_rfl) (fun _ _ _ h => h) (Or.inl ⟨by kernel_rfl, ?_⟩) hHeld ?_
                      rotate_left
                      · intro w hSw; (try dsimp only at hSw); go_simp; (try with_reducible rfl)
                      try simp only [Act.put, List.setIfInBounds_toArray, List.set_cons_zero, List.set_cons_succ]
                      refine take_d (i := 9) (oi := _) (v := ?_) (d := some 179) rfl (by kernel_rfl) (by as_aux_lemma => kernel_rfl) (by as_aux_lemma => kernel_rfl) (by as_aux_lemma => kernel_rfl) (fun _ _ _ h => h) (Or.inl ⟨by kernel_rfl, ?_⟩) hHeld ?_
                      rotate_left
                      · intro w hSw; (try dsimp only at hSw); go_simp; (try with_reducible rfl)
                      try simp only [Act.put, List.setIfInBounds_toArray, List.set_cons_zero, List.set_cons_succ]
                      refine take_d (i := 10) (oi := _) (v := ?_) (d := some 180) rfl (by kernel_rfl) (by as_aux_lemma => kernel_rfl) (by as_aux_lemma => kernel_rfl) (by as_aux_lemma => kernel_rfl) (fun _ _ _ h => h) (Or.inl ⟨by kernel_rfl, ?_⟩) hHeld ?_
                      rotate_left
                      · intro w hSw; (try dsimp only at hSw); go_simp; (try with_reducible rfl)
                      try simp only [Act.put, List.setIfInBounds_toArray, List.set_cons_zero, List.set_cons_succ]
                      refine take_d (i := 12) (oi := _) (v := ?_) (d := some 182) rfl (by kernel_rfl) (by as_aux_lemma => kernel_rfl) (by as_aux_lemma => kernel_rfl) (by as_aux_lemma => kernel_rfl) (fun _ _ _ h => h) (Or.inl ⟨by kernel_rfl, ?_⟩) hHeld ?_
                      rotate_left
                      · intro w hSw; (try dsimp only at hSw); go_simp; (try with_reducible rfl)
                      try simp only [Act.put, List.setIfInBounds_toArray, List.set_cons_zero, List.set_cons_succ]
                      refine wpAnyH_ready (rs := [6, 8]) (by kernel_rfl) (by simp) ?_
                      refine AllReadyH.cons rfl (fun K hK => ?_) (AllReadyH.cons rfl (fun K hK => ?_) AllReadyH.nil)
                      · skip
                        go_simp
                        refine (CR.out _).mono ?_
                        rintro e u1 ⟨rfl, hb⟩
                        replace bq := (by first | exact Gw.call bq hb | exact Gw.call (Below.drew bq) hb)
                        clear hb
                        dsimp only
                        refine hK.out _ _ (HB.out _ bq) (fun hHeld => ?_)
                        clear hK K
                        try simp only [Act.put, List.setIfInBounds_toArray, List.set_cons_zero, List.set_cons_succ]
                        refine wpAnyH_ready (rs := [8]) (by kernel_rfl) (by simp) ?_
                        refine AllReadyH.cons rfl (fun K hK => ?_) AllReadyH.nil
                        go_simp
                        have rX : Rd idc 3 (u1.alloc (.cells #[.int .u8 (n : Int), .int .u16 i, .int .u32 s] 30)).heap.size (u1.alloc (.cells #[.int .u8 (n : Int), .int .u16 i, .int .u32 s] 30)) (some ⟨u1.heap.size, 0, none⟩) [⟨n, i, s⟩] := by rw [World.size_alloc]; exact Rd.lit idc_len u1 _ rfl _ _ _ rfl
                        replace bq := Gw.al bq (.cells #[.int .u8 (n : Int), .int .u16 i, .int .u32 s] 30)
                        refine hK.out _ _ (HB.out _ bq) (fun hHeld => ?_)
                        clear hK K
                        try simp only [Act.put, List.setIfInBounds_toArray, List.set_cons_zero, List.set_cons_succ]
                        refine wpAnyH_ready (rs := [11]) (by kernel_rfl) (by simp) ?_
                        refine AllReadyH.cons rfl (fun K hK => ?_) AllReadyH.nil
                        go_simp
                        refine (lacks_one rs _ _ _ _ _ ⟨n, i, s⟩ m _ RLen.out rX (rN.up (Gw.call bx bq)) HNO.out xok.out (fun r h => (RGS.out r h).1) (by omega)).mono ?_
                        rintro e u2 ⟨A9, c9, rfl, hb⟩
                        replace bq := (by first | exact Gw.call bq hb | exact Gw.call (Below.drew bq) hb)
                        clear hb rX
                        dsimp only
                        refine hK.out _ _ (HB.out _ bq) (fun hHeld => ?_)
                        clear hK K
                        try simp only [Act.put, List.setIfInBounds_toArray, List.set_cons_zero, List.set_cons_succ]
                        refine wpAnyH_ready (rs := [13]) (by kernel_rfl) (by simp) ?_
                        refine AllReadyH.cons rfl (fun K hK => ?_) AllReadyH.nil
                        go_simp
                        refine (has_nil ⟨n, i, s⟩ A9 c9 _).mono ?_
                        rintro e u3 ⟨rfl, hb⟩
                        replace bq := (by first | exact Gw.call bq hb | exact Gw.call (Below.drew bq) hb)
                        clear hb
                        dsimp only
                        refine hK.out _ _ (HB.out _ bq) (fun hHeld => ?_)
                        clear hK K
                        try simp only [Act.put, List.setIfInBounds_toArray, List.set_cons_zero, List.set_cons_succ]
                        refine take_d (i := 14) (oi := _) (v := ?_) (d := some 184) rfl (by kernel_rfl) (by as_aux_lemma => kernel_rfl) (by as_aux_lemma => kernel_rfl) (by as_aux_lemma => kernel_rfl) (fun _ _ _ h => h) (Or.inl ⟨by kernel_rfl, ?_⟩) hHeld ?_
                        rotate_left
                        · intro w hSw; (try dsimp only at hSw); go_simp; (try with_reducible rfl)
                        try simp only [Act.put, List.setIfInBounds_toArray, List.set_cons_zero, List.set_cons_succ]
                        refine take_d (i := 15) (oi := _) (v := ?_) (d := some 185) rfl (by kernel_rfl) (by as_aux_lemma => kernel_rfl) (by as_aux_lemma => kernel_rfl) (by as_aux_lemma => kernel_rfl) (fun _ _ _ h => h) (Or.inl ⟨by kernel_rfl, ?_⟩) hHeld ?_
                        rotate_left
                        · intro w hSw; (try dsimp only at hSw); go_simp; (try with_reducible rfl)
                        try simp only [Act.put, List.setIfInBounds_toArray, List.set_cons_zero, List.set_cons_succ]
                        refine take_d (i := 16) (oi := _) (v := undef) (d := some 186) rfl (by kernel_rfl) (by as_aux_lemma => kernel_rfl) (by as_aux_lemma => kernel_rfl) (by as_aux_lemma => kernel_rfl) (fun _ _ _ h => h) (Or.inr ⟨by kernel_rfl, rfl⟩) hHeld ?_
                        try simp only [Act.put, List.setIfInBounds_toArray, List.set_cons_zero, List.set_cons_succ]
                        refine take_d (i := 17) (oi := _) (v := undef) (d := some 187) rfl (by kernel_rfl) (by as_aux_lemma => kernel_rfl) (by as_aux_lemma => kernel_rfl) (by as_aux_lemma => kernel_rfl) (fun _ _ _ h => h) (Or.inr ⟨by kernel_rfl, rfl⟩) hHeld ?_
                        try simp only [Act.put, List.setIfInBounds_toArray, List.set_cons_zero, List.set_cons_succ]
                        refine take_d (i := 18) (oi := _) (v := undef) (d := some 188) rfl (by kernel_rfl) (by as_aux_lemma => kernel_rfl) (by as_aux_lemma => kernel_rfl) (by as_aux_lemma => kernel_rfl) (fun _ _ _ h => h) (Or.inr ⟨by kernel_rfl, rfl⟩) hHeld ?_
                        try simp only [Act.put, List.setIfInBounds_toArray, List.set_cons_zero, List.set_cons_succ]
                        refine take_d (i := 19) (oi := _) (v := undef) (d := some 189) rfl (by kernel_rfl) (by as_aux_lemma => kernel_rfl) (by as_aux_lemma => kernel_rfl) (by as_aux_lemma => kernel_rfl) (fun _ _ _ h => h) (Or.inr ⟨by kernel_rfl, rfl⟩) hHeld ?_
                        try simp only [Act.put, List.setIfInBounds_toArray, List.set_cons_zero, List.set_cons_succ]
                        refine take_d (i := 20) (oi := _) (v := undef) (d := some 190) rfl (by kernel_rfl) (by as_aux_lemma => kernel_rfl) (by as_aux_lemma => kernel_rfl) (by as_aux_lemma => kernel_rfl) (fun _ _ _ h => h) (Or.inr ⟨by kernel_rfl, rfl⟩) hHeld ?_
                        try simp only [Act.put, List.setIfInBounds_toArray, List.set_cons_zero, List.set_cons_succ]
                        refine take_d (i := 21) (oi := _) (v := undef) (d := some 191) rfl (by kernel_rfl) (by as_aux_lemma => kernel_rfl) (by as_aux_lemma => kernel_rfl) (by as_aux_lemma => kernel_rfl) (fun _ _ _ h => h) (Or.inr ⟨by kernel_rfl, rfl⟩) hHeld ?_
                        try simp only [Act.put, List.setIfInBounds_toArray, List.set_cons_zero, List.set_cons_succ]
                        refine take_d (i := 22) (oi := _) (v := undef) (d := some 192) rfl (by kernel_rfl) (by as_aux_lemma => kernel_rfl) (by as_aux_lemma => kernel_rfl) (by as_aux_lemma => kernel_rfl) (fun _ _ _ h => h) (Or.inr ⟨by kernel_rfl, rfl⟩) hHeld ?_
                        try simp only [Act.put, List.setIfInBounds_toArray, List.set_cons_zero, List.set_cons_succ]
                        refine take_d (i := 23) (oi := _) (v := undef) (d := some 193) rfl (by kernel_rfl) (by as_aux_lemma => kernel_rfl) (by as_aux_lemma => kernel_rfl) (by as_aux_lemma => kernel_rfl) (fun _ _ _ h => h) (Or.inr ⟨by kernel_rfl, rfl⟩) hHeld ?_
                        try simp only [Act.put, List.setIfInBounds_toArray, List.set_cons_zero, List.set_cons_succ]
                        refine take_d (i := 24) (oi := _) (v := undef) (d := some 194) rfl (by kernel_rfl) (by as_aux_lemma => kernel_rfl) (by as_aux_lemma => kernel_rfl) (by as_aux_lemma => kernel_rfl) (fun _ _ _ h => h) (Or.inr ⟨by kernel_rfl, rfl⟩) hHeld ?_
                        try simp only [Act.put, List.setIfInBounds_toArray, List.set_cons_zero, List.set_cons_succ]
                        refine take_d (i := 25) (oi := _) (v := ?_) (d := some 195) rfl (by kernel_rfl) (by as_aux_lemma => kernel_rfl) (by as_aux_lemma => kernel_rfl) (by as_aux_lemma => kernel_rfl) (fun _ _ _ h => h) (Or.inl ⟨by kernel_rfl, ?_⟩) hHeld ?_
                        rotate_left
                        · intro w hSw; (try dsimp only at hSw); go_simp; (try with_reducible rfl)
                        try simp only [Act.put, List.setIfInBounds_toArray, List.set_cons_zero, List.set_cons_succ]
                        refine wpAnyH_done (by kernel_rfl) ?_ _
                        go_wp2_with fail
                        go_meet
                        exact ⟨rfl, bq⟩
                      · skip
                        go_simp
                        have rX : Rd idc 3 (wq.drew.alloc (.cells #[.int .u8 (n : Int), .int .u16 i, .int .u32 s] 30)).heap.size (wq.drew.alloc (.cells #[.int .u8 (n : Int), .int .u16 i, .int .u32 s] 30)) (some ⟨wq.heap.size, 0, none⟩) [⟨n, i, s⟩] := by rw [World.size_alloc]; exact Rd.lit idc_len wq.drew _ rfl _ _ _ rfl
                        replace bq := Gw.al (Below.drew bq) (.cells #[.int .u8 (n : Int), .int .u16 i, .int .u32 s] 30)
                        refine hK.out _ _ (HB.out _ bq) (fun hHeld => ?_)
                        clear hK K
                        try simp only [Act.put, List.setIfInBounds_toArray, List.set_cons_zero, List.set_cons_succ]
                        refine wpAnyH_ready (rs := [6]) (by kernel_rfl) (by simp) ?_
                        refine AllReadyH.cons rfl (fun K hK => ?_) AllReadyH.nil
                        go_simp
                        refine (CR.out _).mono ?_
                        rintro e u1 ⟨rfl, hb⟩
                        replace bq := (by first | exact Gw.call bq hb | exact Gw.call (Below.drew bq) hb)
                        replace rX := rX.up hb
                        clear hb
                        dsimp only
                        refine hK.out _ _ (HB.out _ bq) (fun hHeld => ?_)
                        clear hK K
                        try simp only [Act.put, List.setIfInBounds_toArray, List.set_cons_zero, List.set_cons_succ]
                        refine wpAnyH_ready (rs := [11]) (by kernel_rfl) (by simp) ?_
                        refine AllReadyH.cons rfl (fun K hK => ?_) AllReadyH.nil
                        go_simp
                        refine (lacks_one rs _ _ _ _ _ ⟨n, i, s⟩ m _ RLen.out rX (rN.up (Gw.call bx bq)) HNO.out xok.out (fun r h => (RGS.out r h).1) (by omega)).mono ?_
                        rintro e u2 ⟨A9, c9, rfl, hb⟩
                        replace bq := (by first | exact Gw.call bq hb | exact Gw.call (Below.drew bq) hb)
                        clear hb rX
                        dsimp only
                        refine hK.out _ _ (HB.out _ bq) (fun hHeld => ?_)
                        clear hK K
                        try simp only [Act.put, List.setIfInBounds_toArray, List.set_cons_zero, List.set_cons_succ]
                        refine wpAnyH_ready (rs := [13]) (by kernel_rfl) (by simp) ?_
                        refine AllReadyH.cons rfl (fun K hK => ?_) AllReadyH.nil
                        go_simp
                        refine (has_nil ⟨n, i, s⟩ A9 c9 _).mono ?_
                        rintro e u3 ⟨rfl, hb⟩
                        replace bq := (by first | exact Gw.call bq hb | exact Gw.call (Below.drew bq) hb)
                        clear hb
                        dsimp only
                        refine hK.out _ _ (HB.out _ bq) (fun hHeld => ?_)
                        clear hK K
                        try simp only [Act.put, List.setIfInBounds_toArray, List.set_cons_zero, List.set_cons_succ]
                        refine take_d (i := 14) (oi := _) (v := ?_) (d := some 184) rfl (by kernel_rfl) (by as_aux_lemma => kernel_rfl) (by as_aux_lemma => kernel_rfl) (by as_aux_lemma => kernel_rfl) (fun _ _ _ h => h) (Or.inl ⟨by kernel_rfl, ?_⟩) hHeld ?_
                        rotate_left
                        · intro w hSw; (try dsimp only at hSw); go_simp; (try with_reducible rfl)
                        try simp only [Act.put, List.setIfInBounds_toArray, List.set_cons_zero, List.set_cons_succ]
                        refine take_d (i := 15) (oi := _) (v := ?_) (d := some 185) rfl (by kernel_rfl) (by as_aux_lemma => kernel_rfl) (by as_aux_lemma => kernel_rfl) (by as_aux_lemma => kernel_rfl) (fun _ _ _ h => h) (Or.inl ⟨by kernel_rfl, ?_⟩) hHeld ?_
                        rotate_left
                        · intro w hSw; (try dsimp only at hSw); go_simp; (try with_reducible rfl)
                        try simp only [Act.put, List.setIfInBounds_toArray, List.set_cons_zero, List.set_cons_succ]
                        refine take_d (i := 16) (oi := _) (v := undef) (d := some 186) rfl (by kernel_rfl) (by as_aux_lemma => kernel_rfl) (by as_aux_lemma => kernel_rfl) (by as_aux_lemma => kernel_rfl) (fun _ _ _ h => h) (Or.inr ⟨by kernel_rfl, rfl⟩) hHeld ?_
                        try simp only [Act.put, List.setIfInBounds_toArray, List.set_cons_zero, List.set_cons_succ]
                        refine take_d (i := 17) (oi := _) (v := undef) (d := some 187) rfl (by kernel_rfl) (by as_aux_lemma => kernel_rfl) (by as_aux_lemma => kernel_rfl) (by as_aux_lemma => kernel_rfl) (fun _ _ _ h => h) (Or.inr ⟨by kernel_rfl, rfl⟩) hHeld ?_
                        try simp only [Act.put, List.setIfInBounds_toArray, List.set_cons_zero, List.set_cons_succ]
                        refine take_d (i := 18) (oi := _) (v := undef) (d := some 188) rfl (by kernel_rfl) (by as_aux_lemma => kernel_rfl) (by as_aux_lemma => kernel_rfl) (by as_aux_lemma => kernel_rfl) (fun _ _ _ h => h) (Or.inr ⟨by kernel_rfl, rfl⟩) hHeld ?_
                        try simp only [Act.put, List.setIfInBounds_toArray, List.set_cons_zero, List.set_cons_succ]
                        refine take_d (i := 19) (oi := _) (v := undef) (d := some 189) rfl (by kernel_rfl) (by as_aux_lemma => kernel_rfl) (by as_aux_lemma => kernel_rfl) (by as_aux_lemma => kernel_rfl) (fun _ _ _ h => h) (Or.inr ⟨by kernel_rfl, rfl⟩) hHeld ?_
                        try simp only [Act.put, List.setIfInBounds_toArray, List.set_cons_zero, List.set_cons_succ]
                        refine take_d (i := 20) (oi := _) (v := undef) (d := some 190) rfl (by kernel_rfl) (by as_aux_lemma => kernel_rfl) (by as_aux_lemma => kernel_rfl) (by as_aux_lemma => kernel_rfl) (fun _ _ _ h => h) (Or.inr ⟨by kernel_rfl, rfl⟩) hHeld ?_
                        try simp only [Act.put, List.setIfInBounds_toArray, List.set_cons_zero, List.set_cons_succ]
                        refine take_d (i := 21) (oi := _) (v := undef) (d := some 191) rfl (by kernel_rfl) (by as_aux_lemma => kernel_rfl) (by as_aux_lemma => kernel_rfl) (by as_aux_lemma => kernel_rfl) (fun _ _ _ h => h) (Or.inr ⟨by kernel_rfl, rfl⟩) hHeld ?_
                        try simp only [Act.put, List.setIfInBounds_toArray, List.set_cons_zero, List.set_cons_succ]
                        refine take_d (i := 22) (oi := _) (v := undef) (d := some 192) rfl (by kernel_rfl) (by as_aux_lemma => kernel_rfl) (by as_aux_lemma => kernel_rfl) (by as_aux_lemma => kernel_rfl) (fun _ _ _ h => h) (Or.inr ⟨by kernel_rfl, rfl⟩) hHeld ?_
                        try simp only [Act.put, List.setIfInBounds_toArray, List.set_cons_zero, List.set_cons_succ]
                        refine take_d (i := 23) (oi := _) (v := undef) (d := some 193) rfl (by kernel_rfl) (by as_aux_lemma => kernel_rfl) (by as_aux_lemma => kernel_rfl) (by as_aux_lemma => kernel_rfl) (fun _ _ _ h => h) (Or.inr ⟨by kernel_rfl, rfl⟩) hHeld ?_
                        try simp only [Act.put, List.setIfInBounds_toArray, List.set_cons_zero, List.set_cons_succ]
                        refine take_d (i := 24) (oi := _) (v := undef) (d := some 194) rfl (by kernel_rfl) (by as_aux_lemma => kernel_rfl) (by as_aux_lemma => kernel_rfl) (by as_aux_lemma => kernel_rfl) (fun _ _ _ h => h) (Or.inr ⟨by kernel_rfl, rfl⟩) hHeld ?_
                        try simp only [Act.put, List.setIfInBounds_toArray, List.set_cons_zero, List.set_cons_succ]
                        refine take_d (i := 25) (oi := _) (v := ?_) (d := some 195) rfl (by kernel_rfl) (by as_aux_lemma => kernel_rfl) (by as_aux_lemma => kernel_rfl) (by as_aux_lemma => kernel_rfl) (fun _ _ _ h => h) (Or.inl ⟨by kernel_rfl, ?_⟩) hHeld ?_
                        rotate_left
                        · intro w hSw; (try dsimp only at hSw); go_simp; (try with_reducible rfl)
                        try simp only [Act.put, List.setIfInBounds_toArray, List.set_cons_zero, List.set_cons_succ]
                        refine wpAnyH_done (by kernel_rfl) ?_ _
                        go_wp2_with fail
                        go_meet
                        exact ⟨rfl, bq⟩
                    · have hlt' : i < r.i := by omega
                      have hz := hh2 hlt'
                      have CR := Lib.hid (fun W => hz ▸ rhas_any r ⟨n, i, s⟩ RR.out.1 xok.out W)
                      clear hz hlt'
                      have tri : decide (r.i ≤ i) = false := by simp; omega
                      clear hri hh1 hh2
                      refine wp_region_held_drew (S := fun W : World => W.cell? ⟨g, 0, none⟩ = some (.int .u8 (n : Int)) ∧ W.cell? ⟨g, 1, none⟩ = some (.int .u16 i) ∧ W.cell? ⟨g, 2, none⟩ = some (.int .u32 s) ∧ W.cell? ⟨b13, p13 + n * 3, none⟩ = some (.int .u16 r.i) ∧ W.cell? ⟨b13, p13 + n * 3 + 1, none⟩ = some (.int .u32 r.p) ∧ W.cell? ⟨b13, p13 + n * 3 + 2, none⟩ = some (.int .u64 r.b)) (by kernel_rfl) (HB.out _ (Below.drew bq)) (fun hHeld => ?_)
                      refine take_d (i := 0) (oi := _) (v := ?_) (d := some 170) rfl (by kernel_rfl) (by as_aux_lemma => kernel_rfl) (by as_aux_lemma => kernel_rfl) (by as_aux_lemma => kernel_rfl) (fun _ _ _ h => h) (Or.inl ⟨by kernel_rfl, ?_⟩) hHeld ?_
                      rotate_left
                      · intro w hSw; (try dsimp only at hSw); go_simp; (try with_reducible rfl)
                      try simp only [Act.put, List.setIfInBounds_toArray, List.set_cons_zero, List.set_cons_succ]
                      refine take_d (i := 1) (oi := _) (v := ?_) (d := some 171) rfl (by kernel_rfl) (by as_aux_lemma => kernel_rfl) (by as_aux_lemma => kernel_rfl) (by as_aux_lemma => kernel_rfl) (fun _ _ _ h => h) (Or.inl ⟨by kernel_rfl, ?_⟩) hHeld ?_
                      rotate_left
                      · intro w hSw; (try dsimp only at hSw); go_simp; (try with_reducible rfl)
                      try simp only [Act.put, List.setIfInBounds_toArray, List.set_cons_zero, List.set_cons_succ]
                      refine take_d (i := 2) (oi := _) (v := ?_) (d := some 172) rfl (by kernel_rfl) (by as_aux_lemma => kernel_rfl) (by as_aux_lemma => kernel_rfl) (by as_aux_lemma => kernel_rfl) (fun _ _ _ h => h) (Or.inl ⟨by kernel_rfl, ?_⟩) hHeld ?_
                      rotate_left
                      · intro w hSw; (try dsimp only at hSw); go_simp; (try with_reducible rfl)
                      try simp only [Act.put, List.setIfInBounds_toArray, List.set_cons_zero, List.set_cons_succ]
                      refine take_d (i := 3) (oi := _) (v := ?_) (d := some 173) rfl (by kernel_rfl) (by as_aux_lemma => kernel_rfl) (by as_aux_lemma => kernel_rfl) (by as_aux_lemma => kernel_rfl) (fun _ _ _ h => h) (Or.inl ⟨by kernel_rfl, ?_⟩) hHeld ?_
                      rotate_left
                      · intro w hSw; (try dsimp only at hSw); go_simp; (try with_reducible rfl)
                      try simp only [Act.put, List.setIfInBounds_toArray, List.set_cons_zero, List.set_cons_succ]
                      refine take_d (i := 4) (oi := _) (v := ?_) (d := some 174) rfl (by kernel_rfl) (by as_aux_lemma => kernel_rfl) (by as_aux_lemma => kernel_rfl) (by as_aux_lemma => kernel_rfl) (fun _ _ _ h => h) (Or.inl ⟨by kernel_rfl, ?_⟩) hHeld ?_
                      rotate_left
                      · intro w hSw; (try dsimp only at hSw); go_simp; (try with_reducible rfl)
                      try simp only [Act.put, List.setIfInBounds_toArray, List.set_cons_zero, List.set_cons_succ]
                      refine take_d (i := 5) (oi := _) (v := ?_) (d := some 175) rfl (by kernel_rfl) (by as_aux_lemma => kernel_rfl) (by as_aux_lemma => kernel_rfl) (by as_aux_lemma => kernel_rfl) (fun _ _ _ h => h) (Or.inl ⟨by kernel_rfl, ?_⟩) hHeld ?_
                      rotate_left
                      · intro w hSw; (try dsimp only at hSw); go_simp; (try with_reducible rfl)
                      try simp only [Act.put, List.setIfInBounds_toArray, List.set_cons_zero, List.set_cons_succ]
                      refine take_d (i := 7) (oi := _) (v := ?_) (d := some 177) rfl (by kernel_rfl) (by as_aux_lemma => kernel_rfl) (by as_aux_lemma => kernel_rfl) (by as_aux_lemma => kernel_rfl) (fun _ _ _ h => h) (Or.inl ⟨by kernel_rfl, ?_⟩) hHeld ?_
                      rotate_left
                      · intro w hSw; (try dsimp only at hSw); go_simp; (try with_reducible rfl)
                      try simp only [Act.put, List.setIfInBounds_toArray, List.set_cons_zero, List.set_cons_succ]
                      refine take_d (i := 9) (oi := _) (v := ?_) (d := some 179) rfl (by kernel_rfl) (by as_aux_lemma => kernel_rfl) (by as_aux_lemma => kernel_rfl) (by as_aux_lemma => kernel_rfl) (fun _ _ _ h => h) (Or.inl ⟨by kernel_rfl, ?_⟩) hHeld ?_
                      rotate_left
                      · intro w hSw; (try dsimp only at hSw); go_simp; (try with_reducible rfl)
                      try simp only [Act.put, List.setIfInBounds_toArray, List.set_cons_zero, List.set_cons_succ]
                      refine take_d (i := 10) (oi := _) (v := ?_) (d := some 180) rfl (by kernel_rfl) (by as_aux_lemma => kernel_rfl) (by as_aux_lemma => kernel_rfl) (by as_aux_lemma => kernel_rfl) (fun _ _ _ h => h) (Or.inl ⟨by kernel_rfl, ?_⟩) hHeld ?_
                      rotate_left
                      · intro w hSw; (try dsimp only at hSw); go_simp; (try with_reducible rfl)
                      try simp only [Act.put, List.setIfInBounds_toArray, List.set_cons_zero, List.set_cons_succ]
                      refine take_d (i := 12) (oi := _) (v := ?_) (d := some 182) rfl (by kernel_rfl) (by as_aux_lemma => kernel_rfl) (by as_aux_lemma => kernel_rfl) (by as_aux_lemma => kernel_rfl) (fun _ _ _ h => h) (Or.inl ⟨by kernel_rfl, ?_⟩) hHeld ?_
                      rotate_left
                      · intro w hSw; (try dsimp only at hSw); go_simp; (try with_reducible rfl)
                      try simp only [Act.put, List.setIfInBounds_toArray, List.set_cons_zero, List.set_cons_succ]
                      refine wpAnyH_ready (rs := [6, 8]) (by kernel_rfl) (by simp) ?_
                      refine AllReadyH.cons rfl (fun K hK => ?_) (AllReadyH.cons rfl (fun K hK => ?_) AllReadyH.nil)
                      · skip
                        go_simp
                        refine (CR.out _).mono ?_
                        rintro e u1 ⟨rfl, hb⟩
                        replace bq := (by first | exact Gw.call bq hb | exact Gw.call (Below.drew bq) hb)
                        clear hb
                        dsimp only
                        refine hK.out _ _ (HB.out _ bq) (fun hHeld => ?_)
                        clear hK K
                        try simp only [Act.put, List.setIfInBounds_toArray, List.set_cons_zero, List.set_cons_succ]
                        refine wpAnyH_ready (rs := [8]) (by kernel_rfl) (by simp) ?_
                        refine AllReadyH.cons rfl (fun K hK => ?_) AllReadyH.nil
                        go_simp
                        have rX : Rd idc 3 (u1.alloc (.cells #[.int .u8 (n : Int), .int .u16 i, .int .u32 s] 30)).heap.size (u1.alloc (.cells #[.int .u8 (n : Int), .int .u16 i, .int .u32 s] 30)) (some ⟨u1.heap.size, 0, none⟩) [⟨n, i, s⟩] := by rw [World.size_alloc]; exact Rd.lit idc_len u1 _ rfl _ _ _ rfl
                        replace bq := Gw.al bq (.cells #[.int .u8 (n : Int), .int .u16 i, .int .u32 s] 30)
                        refine hK.out _ _ (HB.out _ bq) (fun hHeld => ?_)
                        clear hK K
                        try simp only [Act.put, List.setIfInBounds_toArray, List.set_cons_zero, List.set_cons_succ]
                        refine wpAnyH_ready (rs := [11]) (by kernel_rfl) (by simp) ?_
                        refine AllReadyH.cons rfl (fun K hK => ?_) AllReadyH.nil
                        go_simp
                        refine (lacks_one rs _ _ _ _ _ ⟨n, i, s⟩ m _ RLen.out rX (rN.up (Gw.call bx bq)) HNO.out xok.out (fun r h => (RGS.out r h).1) (by omega)).mono ?_
                        rintro e u2 ⟨A9, c9, rfl, hb⟩
                        replace bq := (by first | exact Gw.call bq hb | exact Gw.call (Below.drew bq) hb)
                        clear hb rX
                        dsimp only
                        refine hK.out _ _ (HB.out _ bq) (fun hHeld => ?_)
                        clear hK K
                        try simp only [Act.put, List.setIfInBounds_toArray, List.set_cons_zero, List.set_cons_succ]
                        refine wpAnyH_ready (rs := [13]) (by kernel_rfl) (by simp) ?_
                        refine AllReadyH.cons rfl (fun K hK => ?_) AllReadyH.nil
                        go_simp
                        refine (has_nil ⟨n, i, s⟩ A9 c9 _).mono ?_
                        rintro e u3 ⟨rfl, hb⟩
                        replace bq := (by first | exact Gw.call bq hb | exact Gw.call (Below.drew bq) hb)
                        clear hb
                        dsimp only
                        refine hK.out _ _ (HB.out _ bq) (fun hHeld => ?_)
                        clear hK K
                        try simp only [Act.put, List.setIfInBounds_toArray, List.set_cons_zero, List.set_cons_succ]
                        refine take_d (i := 14) (oi := _) (v := ?_) (d := some 184) rfl (by kernel_rfl) (by as_aux_lemma => kernel_rfl) (by as_aux_lemma => kernel_rfl) (by as_aux_lemma => kernel_rfl) (fun _ _ _ h => h) (Or.inl ⟨by kernel_rfl, ?_⟩) hHeld ?_
                        rotate_left
                        · intro w hSw; (try dsimp only at hSw); go_simp; (try with_reducible rfl)
                        try simp only [Act.put, List.setIfInBounds_toArray, List.set_cons_zero, List.set_cons_succ]
                        refine take_d (i := 15) (oi := _) (v := ?_) (d := some 185) rfl (by kernel_rfl) (by as_aux_lemma => kernel_rfl) (by as_aux_lemma => kernel_rfl) (by as_aux_lemma => kernel_rfl) (fun _ _ _ h => h) (Or.inl ⟨by kernel_rfl, ?_⟩) hHeld ?_
                        rotate_left
                        · intro w hSw; (try dsimp only at hSw); go_simp; (try with_reducible rfl)
                        try simp only [Act.put, List.setIfInBounds_toArray, List.set_cons_zero, List.set_cons_succ]
                        refine take_d (i := 16) (oi := _) (v := ?_) (d := some 186) rfl (by kernel_rfl) (by as_aux_lemma => kernel_rfl) (by as_aux_lemma => kernel_rfl) (by as_aux_lemma => kernel_rfl) (fun _ _ _ h => h) (Or.inl ⟨by kernel_rfl, ?_⟩) hHeld ?_
                        rotate_left
                        · intro w hSw; (try dsimp only at hSw); go_simp; (try with_reducible rfl)
                        try simp only [Act.put, List.setIfInBounds_toArray, List.set_cons_zero, List.set_cons_succ]
                        refine take_d (i := 17) (oi := _) (v := ?_) (d := some 187) rfl (by kernel_rfl) (by as_aux_lemma => kernel_rfl) (by as_aux_lemma => kernel_rfl) (by as_aux_lemma => kernel_rfl) (fun _ _ _ h => h) (Or.inl ⟨by kernel_rfl, ?_⟩) hHeld ?_
                        rotate_left
                        · intro w hSw; (try dsimp only at hSw); go_simp; (try with_reducible rfl)
                        try simp only [Act.put, List.setIfInBounds_toArray, List.set_cons_zero, List.set_cons_succ]
                        refine take_d (i := 18) (oi := _) (v := ?_) (d := some 188) rfl (by kernel_rfl) (by as_aux_lemma => kernel_rfl) (by as_aux_lemma => kernel_rfl) (by as_aux_lemma => kernel_rfl) (fun _ _ _ h => h) (Or.inl ⟨by kernel_rfl, ?_⟩) hHeld ?_
                        rotate_left
                        · intro w hSw; (try dsimp only at hSw); go_simp; (try with_reducible rfl)
                        try simp only [Act.put, List.setIfInBounds_toArray, List.set_cons_zero, List.set_cons_succ]
                        refine take_d (i := 19) (oi := _) (v := ?_) (d := some 189) rfl (by kernel_rfl) (by as_aux_lemma => kernel_rfl) (by as_aux_lemma => kernel_rfl) (by as_aux_lemma => kernel_rfl) (fun _ _ _ h => h) (Or.inl ⟨by kernel_rfl, ?_⟩) hHeld ?_
                        rotate_left
                        · intro w hSw; (try dsimp only at hSw); go_simp; (try with_reducible rfl)
                        try simp only [Act.put, List.setIfInBounds_toArray, List.set_cons_zero, List.set_cons_succ]
                        refine take_d (i := 20) (oi := _) (v := ?_) (d := some 190) rfl (by kernel_rfl) (by as_aux_lemma => kernel_rfl) (by as_aux_lemma => kernel_rfl) (by as_aux_lemma => kernel_rfl) (fun _ _ _ h => h) (Or.inl ⟨by kernel_rfl, ?_⟩) hHeld ?_
                        rotate_left
                        · intro w hSw; (try dsimp only at hSw); go_simp; (try with_reducible rfl)
                        try simp only [Act.put, List.setIfInBounds_toArray, List.set_cons_zero, List.set_cons_succ]
                        refine take_d (i := 21) (oi := _) (v := ?_) (d := some 191) rfl (by kernel_rfl) (by as_aux_lemma => kernel_rfl) (by as_aux_lemma => kernel_rfl) (by as_aux_lemma => kernel_rfl) (fun _ _ _ h => h) (Or.inl ⟨by kernel_rfl, ?_⟩) hHeld ?_
                        rotate_left
                        · intro w hSw; (try dsimp only at hSw); go_simp; (try with_reducible rfl)
                        try simp only [Act.put, List.setIfInBounds_toArray, List.set_cons_zero, List.set_cons_succ]
                        refine take_d (i := 22) (oi := _) (v := ?_) (d := some 192) rfl (by kernel_rfl) (by as_aux_lemma => kernel_rfl) (by as_aux_lemma => kernel_rfl) (by as_aux_lemma => kernel_rfl) (fun _ _ _ h => h) (Or.inl ⟨by kernel_rfl, ?_⟩) hHeld ?_
                        rotate_left
                        · intro w hSw; (try dsimp only at hSw); go_simp; (try with_reducible rfl)
                        try simp only [Act.put, List.setIfInBounds_toArray, List.set_cons_zero, List.set_cons_succ]
                        refine take_d (i := 23) (oi := _) (v := ?_) (d := some 193) rfl (by kernel_rfl) (by as_aux_lemma => kernel_rfl) (by as_aux_lemma => kernel_rfl) (by as_aux_lemma => kernel_rfl) (fun _ _ _ h => h) (Or.inl ⟨by kernel_rfl, ?_⟩) hHeld ?_
                        rotate_left
                        · intro w hSw; (try dsimp only at hSw); go_simp; (try with_reducible rfl)
                        try simp only [Act.put, List.setIfInBounds_toArray, List.set_cons_zero, List.set_cons_succ]
                        refine take_d (i := 24) (oi := _) (v := .bool false) (d := some 194) rfl (by kernel_rfl) (by as_aux_lemma => kernel_rfl) (by as_aux_lemma => kernel_rfl) (by as_aux_lemma => kernel_rfl) (fun _ _ _ h => h) (Or.inl ⟨by kernel_rfl, ?_⟩) hHeld ?_
                        · intro W hSw
                          go_simp; first | done | simp only [tri] | simp [tri]
                        try simp only [Act.put, List.setIfInBounds_toArray, List.set_cons_zero, List.set_cons_succ]
                        refine take_d (i := 25) (oi := _) (v := ?_) (d := some 195) rfl (by kernel_rfl) (by as_aux_lemma => kernel_rfl) (by as_aux_lemma => kernel_rfl) (by as_aux_lemma => kernel_rfl) (fun _ _ _ h => h) (Or.inl ⟨by kernel_rfl, ?_⟩) hHeld ?_
                        rotate_left
                        · intro w hSw; (try dsimp only at hSw); go_simp; (try with_reducible rfl)
                        try simp only [Act.put, List.setIfInBounds_toArray, List.set_cons_zero, List.set_cons_succ]
                        refine wpAnyH_done (by kernel_rfl) ?_ _
                        go_wp2_with fail
                        go_meet
                        exact ⟨rfl, bq⟩
                      · skip
                        go_simp
                        have rX : Rd idc 3 (wq.drew.alloc (.cells #[.int .u8 (n : Int), .int .u16 i, .int .u32 s] 30)).heap.size (wq.drew.alloc (.cells #[.int .u8 (n : Int), .int .u16 i, .int .u32 s] 30)) (some ⟨wq.heap.size, 0, none⟩) [⟨n, i, s⟩] := by rw [World.size_alloc]; exact Rd.lit idc_len wq.drew _ rfl _ _ _ rfl
                        replace bq := Gw.al (Below.drew bq) (.cells #[.int .u8 (n : Int), .int .u16 i, .int .u32 s] 30)
                        refine hK.out _ _ (HB.out _ bq) (fun hHeld => ?_)
                        clear hK K
                        try simp only [Act.put, List.setIfInBounds_toArray, List.set_cons_zero, List.set_cons_succ]
                        refine wpAnyH_ready (rs := [6]) (by kernel_rfl) (by simp) ?_
                        refine AllReadyH.cons rfl (fun K hK => ?_) AllReadyH.nil
                        go_simp
                        refine (CR.out _).mono ?_
                        rintro e u1 ⟨rfl, hb⟩
                        replace bq := (by first | exact Gw.call bq hb | exact Gw.call (Below.drew bq) hb)
                        replace rX := rX.up hb
                        clear hb
                        dsimp only
                        refine hK.out _ _ (HB.out _ bq) (fun hHeld => ?_)
                        clear hK K
                        try simp only [Act.put, List.setIfInBounds_toArray, List.set_cons_zero, List.set_cons_succ]
                        refine wpAnyH_ready (rs := [11]) (by kernel_rfl) (by simp) ?_
                        refine AllReadyH.cons rfl (fun K hK => ?_) AllReadyH.nil
                        go_simp
                        refine (lacks_one rs _ _ _ _ _ ⟨n, i, s⟩ m _ RLen.out rX (rN.up (Gw.call bx bq)) HNO.out xok.out (fun r h => (RGS.out r h).1) (by omega)).mono ?_
                        rintro e u2 ⟨A9, c9, rfl, hb⟩
                        replace bq := (by first | exact Gw.call bq hb | exact Gw.call (Below.drew bq) hb)
                        clear hb rX
                        dsimp only
                        refine hK.out _ _ (HB.out _ bq) (fun hHeld => ?_)
                        clear hK K
                        try simp only [Act.put, List.setIfInBounds_toArray, List.set_cons_zero, List.set_cons_succ]
                        refine wpAnyH_ready (rs := [13]) (by kernel_rfl) (by simp) ?_
                        refine AllReadyH.cons rfl (fun K hK => ?_) AllReadyH.nil
                        go_simp
                        refine (has_nil ⟨n, i, s⟩ A9 c9 _).mono ?_
                        rintro e u3 ⟨rfl, hb⟩
                        replace bq := (by first | exact Gw.call bq hb | exact Gw.call (Below.drew bq) hb)
                        clear hb
                        dsimp only
                        refine hK.out _ _ (HB.out _ bq) (fun hHeld => ?_)
                        clear hK K
                        try simp only [Act.put, List.setIfInBounds_toArray, List.set_cons_zero, List.set_cons_succ]
                        refine take_d (i := 14) (oi := _) (v := ?_) (d := some 184) rfl (by kernel_rfl) (by as_aux_lemma => kernel_rfl) (by as_aux_lemma => kernel_rfl) (by as_aux_lemma => kernel_rfl) (fun _ _ _ h => h) (Or.inl ⟨by kernel_rfl, ?_⟩) hHeld ?_
                        rotate_left
                        · intro w hSw; (try dsimp only at hSw); go_simp; (try with_reducible rfl)
                        try simp only [Act.put, List.setIfInBounds_toArray, List.set_cons_zero, List.set_cons_succ]
                        refine take_d (i := 15) (oi := _) (v := ?_) (d := some 185) rfl (by kernel_rfl) (by as_aux_lemma => kernel_rfl) (by as_aux_lemma => kernel_rfl) (by as_aux_lemma => kernel_rfl) (fun _ _ _ h => h) (Or.inl ⟨by kernel_rfl, ?_⟩) hHeld ?_
                        rotate_left
                        · intro w hSw; (try dsimp only at hSw); go_simp; (try with_reducible rfl)
                        try simp only [Act.put, List.setIfInBounds_toArray, List.set_cons_zero, List.set_cons_succ]
                        refine take_d (i := 16) (oi := _) (v := ?_) (d := some 186) rfl (by kernel_rfl) (by as_aux_lemma => kernel_rfl) (by as_aux_lemma => kernel_rfl) (by as_aux_lemma => kernel_rfl) (fun _ _ _ h => h) (Or.inl ⟨by kernel_rfl, ?_⟩) hHeld ?_
                        rotate_left
                        · intro w hSw; (try dsimp only at hSw); go_simp; (try with_reducible rfl)
                        try simp only [Act.put, List.setIfInBounds_toArray, List.set_cons_zero, List.set_cons_succ]
                        refine take_d (i := 17) (oi := _) (v := ?_) (d := some 187) rfl (by kernel_rfl) (by as_aux_lemma => kernel_rfl) (by as_aux_lemma => kernel_rfl) (by as_aux_lemma => kernel_rfl) (fun _ _ _ h => h) (Or.inl ⟨by kernel_rfl, ?_⟩) hHeld ?_
                        rotate_left
                        · intro w hSw; (try dsimp only at hSw); go_simp; (try with_reducible rfl)
                        try simp only [Act.put, List.setIfInBounds_toArray, List.set_cons_zero, List.set_cons_succ]
                        refine take_d (i := 18) (oi := _) (v := ?_) (d := some 188) rfl (by kernel_rfl) (by as_aux_lemma => kernel_rfl) (by as_aux_lemma => kernel_rfl) (by as_aux_lemma => kernel_rfl) (fun _ _ _ h => h) (Or.inl ⟨by kernel_rfl, ?_⟩) hHeld ?_
                        rotate_left
                        · intro w hSw; (try dsimp only at hSw); go_simp; (try with_reducible rfl)
                        try simp only [Act.put, List.setIfInBounds_toArray, List.set_cons_zero, List.set_cons_succ]
                        refine take_d (i := 19) (oi := _) (v := ?_) (d := some 189) rfl (by kernel_rfl) (by as_aux_lemma => kernel_rfl) (by as_aux_lemma => kernel_rfl) (by as_aux_lemma => kernel_rfl) (fun _ _ _ h => h) (Or.inl ⟨by kernel_rfl, ?_⟩) hHeld ?_
                        rotate_left
                        · intro w hSw; (try dsimp only at hSw); go_simp; (try with_reducible rfl)
                        try simp only [Act.put, List.setIfInBounds_toArray, List.set_cons_zero, List.set_cons_succ]
                        refine take_d (i := 20) (oi := _) (v := ?_) (d := some 190) rfl (by kernel_rfl) (by as_aux_lemma => kernel_rfl) (by as_aux_lemma => kernel_rfl) (by as_aux_lemma => kernel_rfl) (fun _ _ _ h => h) (Or.inl ⟨by kernel_rfl, ?_⟩) hHeld ?_
                        rotate_left
                        · intro w hSw; (try dsimp only at hSw); go_simp; (try with_reducible rfl)
                        try simp only [Act.put, List.setIfInBounds_toArray, List.set_cons_zero, List.set_cons_succ]
                        refine take_d (i := 21) (oi := _) (v := ?_) (d := some 191) rfl (by kernel_rfl) (by as_aux_lemma => kernel_rfl) (by as_aux_lemma => kernel_rfl) (by as_aux_lemma => kernel_rfl) (fun _ _ _ h => h) (Or.inl ⟨by kernel_rfl, ?_⟩) hHeld ?_
                        rotate_left
                        · intro w hSw; (try dsimp only at hSw); go_simp; (try with_reducible rfl)
                        try simp only [Act.put, List.setIfInBounds_toArray, List.set_cons_zero, List.set_cons_succ]
                        refine take_d (i := 22) (oi := _) (v := ?_) (d := some 192) rfl (by kernel_rfl) (by as_aux_lemma => kernel_rfl) (by as_aux_lemma => kernel_rfl) (by as_aux_lemma => kernel_rfl) (fun _ _ _ h => h) (Or.inl ⟨by kernel_rfl, ?_⟩) hHeld ?_
                        rotate_left
                        · intro w hSw; (try dsimp only at hSw); go_simp; (try with_reducible rfl)
                        try simp only [Act.put, List.setIfInBounds_toArray, List.set_cons_zero, List.set_cons_succ]
                        refine take_d (i := 23) (oi := _) (v := ?_) (d := some 193) rfl (by kernel_rfl) (by as_aux_lemma => kernel_rfl) (by as_aux_lemma => kernel_rfl) (by as_aux_lemma => kernel_rfl) (fun _ _ _ h => h) (Or.inl ⟨by kernel_rfl, ?_⟩) hHeld ?_
                        rotate_left
                        · intro w hSw; (try dsimp only at hSw); go_simp; (try with_reducible rfl)
                        try simp only [Act.put, List.setIfInBounds_toArray, List.set_cons_zero, List.set_cons_succ]
                        refine take_d (i := 24) (oi := _) (v := .bool false) (d := some 194) rfl (by kernel_rfl) (by as_aux_lemma => kernel_rfl) (by as_aux_lemma => kernel_rfl) (by as_aux_lemma => kernel_rfl) (fun _ _ _ h => h) (Or.inl ⟨by kernel_rfl, ?_⟩) hHeld ?_
                        · intro W hSw
                          go_simp; first | done | simp only [tri] | simp [tri]
                        try simp only [Act.put, List.setIfInBounds_toArray, List.set_cons_zero, List.set_cons_succ]
                        refine take_d (i := 25) (oi := _) (v := ?_) (d := some 195) rfl (by kernel_rfl) (by as_aux_lemma => kernel_rfl) (by as_aux_lemma => kernel_rfl) (by as_aux_lemma => kernel_rfl) (fun _ _ _ h => h) (Or.inl ⟨by kernel_rfl, ?_⟩) hHeld ?_
                        rotate_left
                        · intro w hSw; (try dsimp only at hSw); go_simp; (try with_reducible rfl)
                        try simp only [Act.put, List.setIfInBounds_toArray, List.set_cons_zero, List.set_cons_succ]
                        refine wpAnyH_done (by kernel_rfl) ?_ _
                        go_wp2_with fail
                        go_meet
                        exact ⟨rfl, bq⟩
                  case rest =>
                    obtain ⟨rfl, bc⟩ := hcut
                    clear HB bq G hh1 hh2
                    go_wp2_with fail
                    go_roundw
                    case rel => exact ⟨j + 1, hjl, by go_num, Gw.call bx bc⟩
                    case measure => simp [intOf]; omega
                · obtain rfl : j = L.length := by omega
                  go_wp2_with fail
                  go_loopw [199] (fun iv wi => ∃ j : Nat, j ≤ L.length ∧ iv = .int .i64 j ∧ Below w5.heap.size w5 wi) (fun iv _ => L.length - (intOf iv).toNat)
                  case atStart => exact ⟨0, Nat.zero_le _, rfl, bj⟩
                  case round =>
                    clear bj
                    obtain ⟨j, hj, rfl, bj⟩ := hrel
                    by_cases hjl : j < L.length
                    · skip
                      obtain ⟨⟨n, i, s⟩, hx⟩ : ∃ x, L[j]? = some x := ⟨_, List.getElem?_eq_getElem (by omega)⟩
                      have hxm := HM.out _ (List.mem_of_getElem? hx)
                      have xok := Lib.hid (HIOK.out _ hxm.1)
                      obtain ⟨⟨n0, n1⟩, ⟨j0, j1⟩, s0, s1⟩ := xok.out
                      simp only at n0 n1 j0 j1 s0 s1
                      obtain ⟨n, rfl⟩ := Int.eq_ofNat_of_zero_le n0
                      obtain ⟨r0, hr0, hmay⟩ := lack_row hxm.2
                      simp only [Int.toNat_natCast] at hr0
                      have hnr : n < rows.length := (List.getElem?_eq_some_iff.1 hr0).1
                      have HX := Lib.hid hx
                      have HMAY := Lib.hid hmay
                      obtain ⟨bL, oL, hAL, hbL, hc⟩ := (rL.below (Gw.call bi bj)).at_ hx
                      subst hAL
                      have d0 : wr.cell? ⟨bL, oL + j * 3, none⟩ = some (.int .u8 (n : Int)) := hc 0 _ rfl
                      have d1 : wr.cell? ⟨bL, oL + j * 3 + 1, none⟩ = some (.int .u16 i) := hc 1 _ rfl
                      have d2 : wr.cell? ⟨bL, oL + j * 3 + 2, none⟩ = some (.int .u32 s) := hc 2 _ rfl
                      have hji : (j : Int) < (L.length : Int) := by omega
                      have nri : (n : Int) < (rows.length : Int) := by omega
                      clear hc hx hxm hmay hr0
                      have G := Ob.new wr #[.int .u8 (n : Int), .int .u16 i, .int .u32 s] 30
                      have bx := Gw.al bj (.cells #[.int .u8 (n : Int), .int .u16 i, .int .u32 s] 30)
                      have hjc : (j : Int) ≤ (c7 : Int) := by omega
                      have CH := Lib.hid (fun W h => (has_not.2 (HF.out j ⟨n, i, s⟩ HX.out)) ▸ has_any (L.take j) ⟨n, i, s⟩ (some ⟨bL, oL, none⟩) c7 W h (by simp; omega))
                      rw [show (L.take j).length = j by simp; omega] at CH
                      go_upto_region 37 with fail
                      generalize hwq : wr.alloc (.cells #[.int .u8 (n : Int), .int .u16 i, .int .u32 s] 30) = wq at *
                      generalize hg : wr.heap.size = g at *
                      clear hwq hg d0 d1 d2
                      have HB : Hid (∀ W, Below wq.heap.size wq W → (fun W : World => W.cell? ⟨g, 0, none⟩ = some (.int .u8 (n : Int)) ∧ W.cell? ⟨g, 1, none⟩ = some (.int .u16 i) ∧ W.cell? ⟨g, 2, none⟩ = some (.int .u32 s)) W) := Lib.hid fun W hb => ⟨(G.call hb).blk.2.1 0 _ rfl, (G.call hb).blk.2.1 1 _ rfl, (G.call hb).blk.2.1 2 _ rfl⟩
                      have bq := Below.refl wq.heap.size wq
                      refine wp_region_held_drew (S := fun W : World => W.cell? ⟨g, 0, none⟩ = some (.int .u8 (n : Int)) ∧ W.cell? ⟨g, 1, none⟩ = some (.int .u16 i) ∧ W.cell? ⟨g, 2, none⟩ = some (.int .u32 s)) (by kernel_rfl) (HB.out _ (Below.drew bq)) (fun hHeld => ?_)
                      refine take_d (i := 0) (oi := _) (v := ?_) (d := some 204) rfl (by kernel_rfl) (by as_aux_lemma => kernel_rfl) (by as_aux_lemma => kernel_rfl) (by as_aux_lemma => kernel_rfl) (fun _ _ _ h => h) (Or.inl ⟨by kernel_rfl, ?_⟩) hHeld ?_
                      rotate_left
                      · intro w hSw; (try dsimp only at hSw); go_simp; (try with_reducible rfl)
                      try simp only [Act.put, List.setIfInBounds_toArray, List.set_cons_zero, List.set_cons_succ]
                      refine take_d (i := 1) (oi := _) (v := ?_) (d := some 205) rfl (by kernel_rfl) (by as_aux_lemma => kernel_rfl) (by as_aux_lemma => kernel_rfl) (by as_aux_lemma => kernel_rfl) (fun _ _ _ h => h) (Or.inl ⟨by kernel_rfl, ?_⟩) hHeld ?_
                      rotate_left
                      · intro w hSw; (try dsimp only at hSw); go_simp; (try with_reducible rfl)
                      try simp only [Act.put, List.setIfInBounds_toArray, List.set_cons_zero, List.set_cons_succ]
                      refine take_d (i := 2) (oi := _) (v := ?_) (d := some 206) rfl (by kernel_rfl) (by as_aux_lemma => kernel_rfl) (by as_aux_lemma => kernel_rfl) (by as_aux_lemma => kernel_rfl) (fun _ _ _ h => h) (Or.inl ⟨by kernel_rfl, ?_⟩) hHeld ?_
                      rotate_left
                      · intro w hSw; (try dsimp only at hSw); go_simp; (try with_reducible rfl)
                      try simp only [Act.put, List.setIfInBounds_toArray, List.set_cons_zero, List.set_cons_succ]
                      refine take_d (i := 3) (oi := _) (v := ?_) (d := some 207) rfl (by kernel_rfl) (by as_aux_lemma => kernel_rfl) (by as_aux_lemma => kernel_rfl) (by as_aux_lemma => kernel_rfl) (fun _ _ _ h => h) (Or.inl ⟨by kernel_rfl, ?_⟩) hHeld ?_
                      rotate_left
                      · intro w hSw; (try dsimp only at hSw); go_simp; (try with_reducible rfl)
                      try simp only [Act.put, List.setIfInBounds_toArray, List.set_cons_zero, List.set_cons_succ]
                      refine wpAnyH_ready (rs := [4]) (by kernel_rfl) (by simp) ?_
                      refine AllReadyH.cons rfl (fun K hK => ?_) AllReadyH.nil
                      go_simp
                      refine (CH.out _ ((rL.take j).up (Gw.call (Gw.call bi bx) (by first | exact bq | exact Below.drew bq)))).mono ?_
                      rintro e u1 ⟨rfl, hb⟩
                      replace bq := (by first | exact Gw.call bq hb | exact Gw.call (Below.drew bq) hb)
                      clear hb
                      dsimp only
                      refine hK.out _ _ (HB.out _ bq) (fun hHeld => ?_)
                      clear hK K
                      try simp only [Act.put, List.setIfInBounds_toArray, List.set_cons_zero, List.set_cons_succ]
                      refine wpAnyH_done (by kernel_rfl) ?_ _
                      clear hHeld HB G CH
                      go_wp2_with fail
                      go_roundw
                      case rel => exact ⟨j + 1, hjl, by go_num, Gw.call bx bq⟩
                      case measure => simp [intOf]; omega
                    · replace bl := Gw.call (Gw.call bl bi) bj
                      obtain rfl : j = L.length := by omega
                      go_wp2_with fail
                      refine (awake_any _).mono ?_
                      rintro e w9 ⟨rfl, hb⟩
                      replace bl := Gw.call bl hb
                      clear hb
                      go_wp2_with fail
                      go_ret
                      exact ⟨rfl, bl⟩
end Go.Proofs.Ythockpallaoelaa
