/-
  stable.Report (19).
-/
import Derived.Test.YtcclnfpegepcnaaCopied
import Derived.Test.YtcclnfpegepcnaaNewer
import Derived.Deep.RegionHeld
import Derived.Deep.DeepCutAuto
namespace Go.Proofs.Ytcclnfpegepcnaa
open Go.RowKit
theorem take_d {P : Program} {ops : Array Oper} {Q : Exit → Act → World → Prop} {md : Region.Mode} {S : World → Prop} {i : Nat} {oi : Oper} {v : Value} {d : Option Nat} {fuel : Nat} {listed : Array Bool} {a : Act} {w : World} (hi : ops[i]? = some oi) (hd : oi.dst = d)
    (hs : Region.noSelect ops = true) (hf : Region.free md ops listed i = true) (hr : (Region.ready md ops listed).contains i = true)
    (hQ : ∀ c a w, Q (.panic c) (a.put oi.dst v) w → Q (.panic c) a w) (hy : YieldsIf P ops S oi v a) (hS : S w)
    (h : wpAnyH P md ops Q S fuel (listed.setIfInBounds i true) (a.put d v) w) : wpAnyH P md ops Q S (fuel + 1) listed a w :=
  wpAnyH_take hi hs hf hr hQ hy hS (hd ▸ h)
def repStep (row : List Id) (m : Id) : List Id := match row[m.n.toNat]? with
  | some o => if newerB m o = true then row.set m.n.toNat m else row
  | none => row
def repRow (row : List Id) (marks : List Id) : List Id := marks.foldl repStep row
def reportL (rows : List (List Id)) (m : Nat) (marks : List Id) : List (List Id) := match rows[m]? with
  | some row => rows.set m (repRow row marks)
  | none => rows
theorem repStep_len (row : List Id) (m : Id) : (repStep row m).length = row.length := by
  unfold repStep; split
  · split <;> simp
  · rfl
theorem repRow_len (row marks : List Id) : (repRow row marks).length = row.length := by
  unfold repRow
  induction marks generalizing row with
  | nil => rfl
  | cons m t ih => rw [List.foldl_cons, ih, repStep_len]
theorem rep_take {row marks : List Id} {k : Nat} {m : Id} (h : marks[k]? = some m) : repRow row (marks.take (k + 1)) = repStep (repRow row (marks.take k)) m := by
  unfold repRow; rw [List.take_add_one, h, Option.toList_some, List.foldl_append]; rfl
theorem rep_yes {row : List Id} {a : Nat} {i s : Int} {o : Id} (h : row[a]? = some o) (hn : newerB ⟨a, i, s⟩ o = true) : repStep row ⟨a, i, s⟩ = row.set a ⟨a, i, s⟩ := by
  unfold repStep; simp only [Int.toNat_natCast, h, hn]; rfl
theorem rep_no {row : List Id} {a : Nat} {i s : Int} {o : Id} (h : row[a]? = some o) (hn : newerB ⟨a, i, s⟩ o = false) : repStep row ⟨a, i, s⟩ = row := by
  unfold repStep; simp only [Int.toNat_natCast, h, hn]; rfl
theorem rep_out {row : List Id} {a : Nat} {i s : Int} (h : row[a]? = none) : repStep row ⟨a, i, s⟩ = row := by
  unfold repStep; simp only [Int.toNat_natCast, h]
theorem set_same {α : Type} {l : List α} {k : Nat} {x : α} (h : l[k]? = some x) : l.set k x = l := by
  refine List.ext_getElem? fun i => ?_
  by_cases hi : k = i
  · subst hi; rw [List.getElem?_set_self (List.getElem?_eq_some_iff.1 h).1, h]
  · rw [List.getElem?_set_ne hi]
set_option maxRecDepth 100000 in
set_option maxHeartbeats 4000000 in
theorem report_any (rows : List (List Id)) (A : Option Addr) (ca n : Nat) (mem : Int) (marks : List Id) (B : Option Addr) (cb : Nat) (w : World) (hln : rows.length = n) (hr : Rep w.heap.size w A rows) (hn : n ≤ 256) (hl : ∀ r ∈ rows, r.length ≤ 256) (hm : 0 ≤ mem ∧ mem ≤ 255) (hb : Rd idc 3 w.heap.size w B marks) (hml : marks.length ≤ 1000000) (hmo : ∀ x ∈ marks, x.ok) :
    Calls Try.prog 14 #[.slice A n ca, .int .u8 mem, .slice B marks.length cb] w fun e w' => ∃ A' c', e = .returned (.slice A' n c') ∧ RepO w.heap.size w' (.slice A' n c') (reportL rows mem.toNat marks) ∧ Below w.heap.size w w' := by
  have HLN := Lib.hid hln
  have HMO := Lib.hid hmo
  have HLR := Lib.hid hl
  have HC := Lib.hid (fun W h => copied_any rows A ca n W hln h (by omega) (fun r hr => Nat.le_trans (hl r hr) (by omega)))
  obtain ⟨m, rfl⟩ := Int.eq_ofNat_of_zero_le hm.1
  have hm2 : m ≤ 255 := by omega
  have wm : IntKind.i64.wrap (m : Int) = (m : Int) := IntWalk.i64_in _ (by omega)
  simp only [Int.toNat_natCast]
  clear hln hl hm hmo
  go_enter Try.func14, Try.ntmps14
  go_wp2_with fail
  refine (HC.out _ hr).mono ?_
  rintro e w1 ⟨A1, c1, rfl, ⟨rs, hrs, rx⟩, b1⟩
  clear HC hr
  have hrl : rs.length = n := by have := rep_len hrs; rw [HLN.out] at this; exact this.symm
  by_cases hlt : m < n
  · have t1 : decide ((n : Int) ≤ (m : Int)) = false := by simp; omega
    have t1n : decide (n ≤ m) = false := by simp; omega
    have hmn : (m : Int) < (n : Int) := by omega
    obtain ⟨⟨A8, row, c8⟩, hx0⟩ : ∃ x, rs[m]? = some x := ⟨_, List.getElem?_eq_getElem (by omega)⟩
    have hrow : rows[m]? = some row := by rw [← hrs, List.getElem?_map, hx0]; rfl
    have hrw := HLR.out row (List.mem_of_getElem? hrow)
    have HFL : Hid (reportL rows m marks = rows.set m (repRow row marks)) := Lib.hid (by unfold reportL; rw [hrow])
    have HRS := Lib.hid hrs
    have HRL := Lib.hid hrl
    obtain ⟨g, rfl⟩ : ∃ g, A1 = some ⟨g, 0, none⟩ := by
      rcases rx.out.2 with ⟨_, h0⟩ | ⟨g, cap, cur, hv, _⟩
      · omega
      · injection hv with hA _ _
        exact ⟨g, hA⟩
    have e8 := rx.cell hx0
    have rx0 : RepX w.heap.size w1 (.slice (some ⟨g, 0, none⟩) n c1) (rs.set m ⟨A8, repRow row (marks.take 0), c8⟩) := by
      rw [show rs.set m ⟨A8, repRow row (marks.take 0), c8⟩ = rs from set_same hx0]; exact rx
    clear hrow hx0 rx hrs hrl
    go_wp2_with fail
    go_loopw [25] (fun i wr => ∃ k : Nat, k ≤ marks.length ∧ i = .int .i64 k ∧ RepX w.heap.size wr (.slice (some ⟨g, 0, none⟩) n c1) (rs.set m ⟨A8, repRow row (marks.take k), c8⟩) ∧ Below w.heap.size w wr) (fun i _ => marks.length - (intOf i).toNat)
    case atStart => exact ⟨0, Nat.zero_le _, rfl, rx0, b1⟩
    case round =>
      clear rx0 b1 e8
      obtain ⟨k, hk, rfl, rx, bl⟩ := hrel
      by_cases hkl : k < marks.length
      · obtain ⟨⟨a, i, s⟩, hy⟩ : ∃ y, marks[k]? = some y := ⟨_, List.getElem?_eq_getElem hkl⟩
        obtain ⟨⟨a0, a1⟩, ⟨j0, j1⟩, s0, s1⟩ := HMO.out _ (List.mem_of_getElem? hy)
        simp only at a0 a1 j0 j1 s0 s1
        obtain ⟨a, rfl⟩ := Int.eq_ofNat_of_zero_le a0
        obtain ⟨bB, oB, rfl, hbB, hc⟩ := (hb.below bl).at_ hy
        have d0 : wr.cell? ⟨bB, oB + k * 3, none⟩ = some (.int .u8 (a : Int)) := hc 0 _ rfl
        have d1 : wr.cell? ⟨bB, oB + k * 3 + 1, none⟩ = some (.int .u16 i) := hc 1 _ rfl
        have d2 : wr.cell? ⟨bB, oB + k * 3 + 2, none⟩ = some (.int .u32 s) := hc 2 _ rfl
        have ki : (k : Int) < (marks.length : Int) := by omega
        have STP := Lib.hid (rep_take (row := row) hy)
        have hRl : Hid ((repRow row (marks.take k)).length = row.length) := Lib.hid (repRow_len _ _)
        have wa : IntKind.i64.wrap (a : Int) = (a : Int) := IntWalk.i64_in _ (by omega)
        have G := Ob.new wr #[.int .u8 (a : Int), .int .u16 i, .int .u32 s] 40
        have rx2 := rx.keep (Below.alloc (Below.refl _ _) (Nat.le_refl _) (.cells #[.int .u8 (a : Int), .int .u16 i, .int .u32 s] 40))
        have bx := Gw.al bl (.cells #[.int .u8 (a : Int), .int .u16 i, .int .u32 s] 40)
        clear hc hy rx bl
        go_upto_region 8 with fail
        generalize hwq : wr.alloc (.cells #[.int .u8 (a : Int), .int .u16 i, .int .u32 s] 40) = wq at *
        generalize hg8 : wr.heap.size = gb at *
        clear hwq hg8 d0 d1 d2
        have bq := Below.refl wq.heap.size wq
        by_cases hal : a < row.length
        · obtain ⟨o, ho⟩ : ∃ o, (repRow row (marks.take k))[a]? = some o := ⟨_, List.getElem?_eq_getElem (by rw [hRl.out]; exact hal)⟩
          have HO := Lib.hid ho
          have hmrs : m < rs.length := by have := HRL.out; omega
          have hset : (rs.set m ⟨A8, repRow row (marks.take k), c8⟩)[m]? = some ⟨A8, repRow row (marks.take k), c8⟩ := List.getElem?_set_self hmrs
          have orow : Own idc 3 40 w.heap.size wq (.slice A8 (repRow row (marks.take k)).length c8) (repRow row (marks.take k)) := rx2.row _ (List.mem_of_getElem? hset)
          obtain ⟨g8, rfl⟩ : ∃ g8, A8 = some ⟨g8, 0, none⟩ := by
            rcases orow.2 with ⟨_, h0⟩ | ⟨g, cap, cur, hv, _⟩
            · rw [hRl.out] at h0; omega
            · injection hv with hA _ _
              exact ⟨g, hA⟩
          have RXM := Lib.hid (fun (W : World) (h : RepX w.heap.size W (.slice (some ⟨g, 0, none⟩) n c1) (rs.set m ⟨some ⟨g8, 0, none⟩, repRow row (marks.take k), c8⟩)) => h.mark hset rfl ho ⟨a, i, s⟩)
          have e0 := Own.at_ idc_len orow ho (j := 0) rfl
          have e1 := Own.at_ idc_len orow ho (j := 1) rfl
          have e2 := Own.at_ idc_len orow ho (j := 2) rfl
          rw [Nat.add_zero] at e0
          have hg8 := (Own.row orow).2.1
          have hgq : g8 < wq.heap.size := Own.hi orow g8 rfl
          have f8 := Lib.hid (fun (W : World) (hb : Below wq.heap.size wq W) j => Own.free (Own.below orow hb) j)
          have ta : decide ((a : Int) < (row.length : Int)) = true := by simp; omega
          have tan : decide (a < row.length) = true := by simp; omega
          have ai : (a : Int) < (row.length : Int) := by omega
          have CN := Lib.hid (fun W => newer_any ⟨a, i, s⟩ o W)
          have HB : Hid (∀ W, Below wq.heap.size wq W → (fun W : World => W.cell? ⟨gb, 0, none⟩ = some (.int .u8 (a : Int)) ∧ W.cell? ⟨gb, 1, none⟩ = some (.int .u16 i) ∧ W.cell? ⟨gb, 2, none⟩ = some (.int .u32 s) ∧ W.cell? ⟨g8, a * 3, none⟩ = some (.int .u8 o.n) ∧ W.cell? ⟨g8, a * 3 + 1, none⟩ = some (.int .u16 o.i) ∧ W.cell? ⟨g8, a * 3 + 2, none⟩ = some (.int .u32 o.s)) W) := Lib.hid fun W hb => ⟨(G.call hb).blk.2.1 0 _ rfl, (G.call hb).blk.2.1 1 _ rfl, (G.call hb).blk.2.1 2 _ rfl, (hb.cell (p := ⟨g8, _, none⟩) hgq).trans e0, (hb.cell (p := ⟨g8, _, none⟩) hgq).trans e1, (hb.cell (p := ⟨g8, _, none⟩) hgq).trans e2⟩
          clear e0 e1 e2 orow ho hset
          cases hnw : newerB ⟨a, i, s⟩ o
          · rw [hnw] at CN
            have HNW := Lib.hid hnw
            clear hnw
            refine wp_region_held_drew (S := fun W : World => W.cell? ⟨gb, 0, none⟩ = some (.int .u8 (a : Int)) ∧ W.cell? ⟨gb, 1, none⟩ = some (.int .u16 i) ∧ W.cell? ⟨gb, 2, none⟩ = some (.int .u32 s) ∧ W.cell? ⟨g8, a * 3, none⟩ = some (.int .u8 o.n) ∧ W.cell? ⟨g8, a * 3 + 1, none⟩ = some (.int .u16 o.i) ∧ W.cell? ⟨g8, a * 3 + 2, none⟩ = some (.int .u32 o.s)) (by kernel_rfl) (HB.out _ (Below.drew bq)) (fun hHeld => ?_)
            refine take_d (i := 0) (oi := _) (v := ?_) (d := some 29) rfl (by kernel_rfl) (by as_aux_lemma => kernel_rfl) (by as_aux_lemma => kernel_rfl) (by as_aux_lemma => kernel_rfl) (fun _ _ _ h => h) (Or.inl ⟨by kernel_rfl, ?_⟩) hHeld ?_
            rotate_left
            · intro w hSw; (try dsimp only at hSw); go_simp; (try with_reducible rfl)
            try simp only [Act.put, List.setIfInBounds_toArray, List.set_cons_zero, List.set_cons_succ]
            refine take_d (i := 1) (oi := _) (v := ?_) (d := some 30) rfl (by kernel_rfl) (by as_aux_lemma => kernel_rfl) (by as_aux_lemma => kernel_rfl) (by as_aux_lemma => kernel_rfl) (fun _ _ _ h => h) (Or.inl ⟨by kernel_rfl, ?_⟩) hHeld ?_
            rotate_left
            · intro w hSw; (try dsimp only at hSw); go_simp; (try with_reducible rfl)
            try simp only [Act.put, List.setIfInBounds_toArray, List.set_cons_zero, List.set_cons_succ]
            refine take_d (i := 2) (oi := _) (v := ?_) (d := some 31) rfl (by kernel_rfl) (by as_aux_lemma => kernel_rfl) (by as_aux_lemma => kernel_rfl) (by as_aux_lemma => kernel_rfl) (fun _ _ _ h => h) (Or.inl ⟨by kernel_rfl, ?_⟩) hHeld ?_
            rotate_left
            · intro w hSw; (try dsimp only at hSw); go_simp; (try with_reducible rfl)
            try simp only [Act.put, List.setIfInBounds_toArray, List.set_cons_zero, List.set_cons_succ]
            refine take_d (i := 3) (oi := _) (v := ?_) (d := some 32) rfl (by kernel_rfl) (by as_aux_lemma => kernel_rfl) (by as_aux_lemma => kernel_rfl) (by as_aux_lemma => kernel_rfl) (fun _ _ _ h => h) (Or.inl ⟨by kernel_rfl, ?_⟩) hHeld ?_
            rotate_left
            · intro w hSw; (try dsimp only at hSw); go_simp; (try with_reducible rfl)
            try simp only [Act.put, List.setIfInBounds_toArray, List.set_cons_zero, List.set_cons_succ]
            refine take_d (i := 4) (oi := _) (v := ?_) (d := some 33) rfl (by kernel_rfl) (by as_aux_lemma => kernel_rfl) (by as_aux_lemma => kernel_rfl) (by as_aux_lemma => kernel_rfl) (fun _ _ _ h => h) (Or.inl ⟨by kernel_rfl, ?_⟩) hHeld ?_
            rotate_left
            · intro w hSw; (try dsimp only at hSw); go_simp; (try with_reducible rfl)
            try simp only [Act.put, List.setIfInBounds_toArray, List.set_cons_zero, List.set_cons_succ]
            refine take_d (i := 5) (oi := _) (v := .bool true) (d := some 34) rfl (by kernel_rfl) (by as_aux_lemma => kernel_rfl) (by as_aux_lemma => kernel_rfl) (by as_aux_lemma => kernel_rfl) (fun _ _ _ h => h) (Or.inl ⟨by kernel_rfl, ?_⟩) hHeld ?_
            · intro W hSw
              go_simp; first | done | simp only [ta] | simp only [tan] | simp only [wa] | simp [ta, tan, wa]
            try simp only [Act.put, List.setIfInBounds_toArray, List.set_cons_zero, List.set_cons_succ]
            refine take_d (i := 6) (oi := _) (v := ?_) (d := some 35) rfl (by kernel_rfl) (by as_aux_lemma => kernel_rfl) (by as_aux_lemma => kernel_rfl) (by as_aux_lemma => kernel_rfl) (fun _ _ _ h => h) (Or.inl ⟨by kernel_rfl, ?_⟩) hHeld ?_
            rotate_left
            · intro w hSw; (try dsimp only at hSw); go_simp; (try with_reducible rfl)
            try simp only [Act.put, List.setIfInBounds_toArray, List.set_cons_zero, List.set_cons_succ]
            refine take_d (i := 7) (oi := _) (v := ?_) (d := some 36) rfl (by kernel_rfl) (by as_aux_lemma => kernel_rfl) (by as_aux_lemma => kernel_rfl) (by as_aux_lemma => kernel_rfl) (fun _ _ _ h => h) (Or.inl ⟨by kernel_rfl, ?_⟩) hHeld ?_
            rotate_left
            · intro w hSw; (try dsimp only at hSw); go_simp; (try with_reducible rfl)
            try simp only [Act.put, List.setIfInBounds_toArray, List.set_cons_zero, List.set_cons_succ]
            refine take_d (i := 8) (oi := _) (v := ?_) (d := some 37) rfl (by kernel_rfl) (by as_aux_lemma => kernel_rfl) (by as_aux_lemma => kernel_rfl) (by as_aux_lemma => kernel_rfl) (fun _ _ _ h => h) (Or.inl ⟨by kernel_rfl, ?_⟩) hHeld ?_
            rotate_left
            · intro w hSw; (try dsimp only at hSw); go_simp; (try with_reducible rfl)
            try simp only [Act.put, List.setIfInBounds_toArray, List.set_cons_zero, List.set_cons_succ]
            refine take_d (i := 9) (oi := _) (v := ?_) (d := some 38) rfl (by kernel_rfl) (by as_aux_lemma => kernel_rfl) (by as_aux_lemma => kernel_rfl) (by as_aux_lemma => kernel_rfl) (fun _ _ _ h => h) (Or.inl ⟨by kernel_rfl, ?_⟩) hHeld ?_
            rotate_left
            · intro w hSw; (try dsimp only at hSw); go_simp; (try with_reducible rfl)
            try simp only [Act.put, List.setIfInBounds_toArray, List.set_cons_zero, List.set_cons_succ]
            refine take_d (i := 10) (oi := _) (v := ?_) (d := some 39) rfl (by kernel_rfl) (by as_aux_lemma => kernel_rfl) (by as_aux_lemma => kernel_rfl) (by as_aux_lemma => kernel_rfl) (fun _ _ _ h => h) (Or.inl ⟨by kernel_rfl, ?_⟩) hHeld ?_
            rotate_left
            · intro w hSw; (try dsimp only at hSw); go_simp; (try with_reducible rfl)
            try simp only [Act.put, List.setIfInBounds_toArray, List.set_cons_zero, List.set_cons_succ]
            refine take_d (i := 11) (oi := _) (v := ?_) (d := some 40) rfl (by kernel_rfl) (by as_aux_lemma => kernel_rfl) (by as_aux_lemma => kernel_rfl) (by as_aux_lemma => kernel_rfl) (fun _ _ _ h => h) (Or.inl ⟨by kernel_rfl, ?_⟩) hHeld ?_
            rotate_left
            · intro w hSw; (try dsimp only at hSw); go_simp; (try with_reducible rfl)
            try simp only [Act.put, List.setIfInBounds_toArray, List.set_cons_zero, List.set_cons_succ]
            refine take_d (i := 12) (oi := _) (v := ?_) (d := some 41) rfl (by kernel_rfl) (by as_aux_lemma => kernel_rfl) (by as_aux_lemma => kernel_rfl) (by as_aux_lemma => kernel_rfl) (fun _ _ _ h => h) (Or.inl ⟨by kernel_rfl, ?_⟩) hHeld ?_
            rotate_left
            · intro w hSw; (try dsimp only at hSw); go_simp; (try with_reducible rfl)
            try simp only [Act.put, List.setIfInBounds_toArray, List.set_cons_zero, List.set_cons_succ]
            refine wpAnyH_ready (rs := [13]) (by kernel_rfl) (by simp) ?_
            refine AllReadyH.cons rfl (fun K hK => ?_) AllReadyH.nil
            go_simp
            refine (CN.out _).mono ?_
            rintro e u1 ⟨rfl, hb⟩
            replace bq := (by first | exact Gw.call bq hb | exact Gw.call (Below.drew bq) hb)
            clear hb
            dsimp only
            refine hK.out _ _ (HB.out _ bq) (fun hHeld => ?_)
            clear hK K
            try simp only [Act.put, List.setIfInBounds_toArray, List.set_cons_zero, List.set_cons_succ]
            refine take_d (i := 14) (oi := _) (v := ?_) (d := some 43) rfl (by kernel_rfl) (by as_aux_lemma => kernel_rfl) (by as_aux_lemma => kernel_rfl) (by as_aux_lemma => kernel_rfl) (fun _ _ _ h => h) (Or.inl ⟨by kernel_rfl, ?_⟩) hHeld ?_
            rotate_left
            · intro w hSw; (try dsimp only at hSw); go_simp; (try with_reducible rfl)
            try simp only [Act.put, List.setIfInBounds_toArray, List.set_cons_zero, List.set_cons_succ]
            refine wpAnyH_done (by kernel_rfl) ?_ _
            replace rx2 := rx2.keep bq
            replace bx := Gw.call bx bq
            clear HB CN f8 RXM hHeld bq
            go_wp2_with fail
            go_roundw
            case rel => exact ⟨k + 1, hkl, by go_num, by rw [STP.out, rep_no HO.out HNW.out]; exact rx2, bx⟩
            case measure => simp [intOf]; omega
          · rw [hnw] at CN
            have HNW := Lib.hid hnw
            clear hnw
            refine wp_region_held_drew (S := fun W : World => W.cell? ⟨gb, 0, none⟩ = some (.int .u8 (a : Int)) ∧ W.cell? ⟨gb, 1, none⟩ = some (.int .u16 i) ∧ W.cell? ⟨gb, 2, none⟩ = some (.int .u32 s) ∧ W.cell? ⟨g8, a * 3, none⟩ = some (.int .u8 o.n) ∧ W.cell? ⟨g8, a * 3 + 1, none⟩ = some (.int .u16 o.i) ∧ W.cell? ⟨g8, a * 3 + 2, none⟩ = some (.int .u32 o.s)) (by kernel_rfl) (HB.out _ (Below.drew bq)) (fun hHeld => ?_)
            refine take_d (i := 0) (oi := _) (v := ?_) (d := some 29) rfl (by kernel_rfl) (by as_aux_lemma => kernel_rfl) (by as_aux_lemma => kernel_rfl) (by as_aux_lemma => kernel_rfl) (fun _ _ _ h => h) (Or.inl ⟨by kernel_rfl, ?_⟩) hHeld ?_
            rotate_left
            · intro w hSw; (try dsimp only at hSw); go_simp; (try with_reducible rfl)
            try simp only [Act.put, List.setIfInBounds_toArray, List.set_cons_zero, List.set_cons_succ]
            refine take_d (i := 1) (oi := _) (v := ?_) (d := some 30) rfl (by kernel_rfl) (by as_aux_lemma => kernel_rfl) (by as_aux_lemma => kernel_rfl) (by as_aux_lemma => kernel_rfl) (fun _ _ _ h => h) (Or.inl ⟨by kernel_rfl, ?_⟩) hHeld ?_
            rotate_left
            · intro w hSw; (try dsimp only at hSw); go_simp; (try with_reducible rfl)
            try simp only [Act.put, List.setIfInBounds_toArray, List.set_cons_zero, List.set_cons_succ]
            refine take_d (i := 2) (oi := _) (v := ?_) (d := some 31) rfl (by kernel_rfl) (by as_aux_lemma => kernel_rfl) (by as_aux_lemma => kernel_rfl) (by as_aux_lemma => kernel_rfl) (fun _ _ _ h => h) (Or.inl ⟨by kernel_rfl, ?_⟩) hHeld ?_
            rotate_left
            · intro w hSw; (try dsimp only at hSw); go_simp; (try with_reducible rfl)
            try simp only [Act.put, List.setIfInBounds_toArray, List.set_cons_zero, List.set_cons_succ]
            refine take_d (i := 3) (oi := _) (v := ?_) (d := some 32) rfl (by kernel_rfl) (by as_aux_lemma => kernel_rfl) (by as_aux_lemma => kernel_rfl) (by as_aux_lemma => kernel_rfl) (fun _ _ _ h => h) (Or.inl ⟨by kernel_rfl, ?_⟩) hHeld ?_
            rotate_left
            · intro w hSw; (try dsimp only at hSw); go_simp; (try with_reducible rfl)
            try simp only [Act.put, List.setIfInBounds_toArray, List.set_cons_zero, List.set_cons_succ]
            refine take_d (i := 4) (oi := _) (v := ?_) (d := some 33) rfl (by kernel_rfl) (by as_aux_lemma => kernel_rfl) (by as_aux_lemma => kernel_rfl) (by as_aux_lemma => kernel_rfl) (fun _ _ _ h => h) (Or.inl ⟨by kernel_rfl, ?_⟩) hHeld ?_
            rotate_left
            · intro w hSw; (try dsimp only at hSw); go_simp; (try with_reducible rfl)
            try simp only [Act.put, List.setIfInBounds_toArray, List.set_cons_zero, List.set_cons_succ]
            refine take_d (i := 5) (oi := _) (v := .bool true) (d := some 34) rfl (by kernel_rfl) (by as_aux_lemma => kernel_rfl) (by as_aux_lemma => kernel_rfl) (by as_aux_lemma => kernel_rfl) (fun _ _ _ h => h) (Or.inl ⟨by kernel_rfl, ?_⟩) hHeld ?_
            · intro W hSw
              go_simp; first | done | simp only [ta] | simp only [tan] | simp only [wa] | simp [ta, tan, wa]
            try simp only [Act.put, List.setIfInBounds_toArray, List.set_cons_zero, List.set_cons_succ]
            refine take_d (i := 6) (oi := _) (v := ?_) (d := some 35) rfl (by kernel_rfl) (by as_aux_lemma => kernel_rfl) (by as_aux_lemma => kernel_rfl) (by as_aux_lemma => kernel_rfl) (fun _ _ _ h => h) (Or.inl ⟨by kernel_rfl, ?_⟩) hHeld ?_
            rotate_left
            · intro w hSw; (try dsimp only at hSw); go_simp; (try with_reducible rfl)
            try simp only [Act.put, List.setIfInBounds_toArray, List.set_cons_zero, List.set_cons_succ]
            refine take_d (i := 7) (oi := _) (v := ?_) (d := some 36) rfl (by kernel_rfl) (by as_aux_lemma => kernel_rfl) (by as_aux_lemma => kernel_rfl) (by as_aux_lemma => kernel_rfl) (fun _ _ _ h => h) (Or.inl ⟨by kernel_rfl, ?_⟩) hHeld ?_
            rotate_left
            · intro w hSw; (try dsimp only at hSw); go_simp; (try with_reducible rfl)
            try simp only [Act.put, List.setIfInBounds_toArray, List.set_cons_zero, List.set_cons_succ]
            refine take_d (i := 8) (oi := _) (v := ?_) (d := some 37) rfl (by kernel_rfl) (by as_aux_lemma => kernel_rfl) (by as_aux_lemma => kernel_rfl) (by as_aux_lemma => kernel_rfl) (fun _ _ _ h => h) (Or.inl ⟨by kernel_rfl, ?_⟩) hHeld ?_
            rotate_left
            · intro w hSw; (try dsimp only at hSw); go_simp; (try with_reducible rfl)
            try simp only [Act.put, List.setIfInBounds_toArray, List.set_cons_zero, List.set_cons_succ]
            refine take_d (i := 9) (oi := _) (v := ?_) (d := some 38) rfl (by kernel_rfl) (by as_aux_lemma => kernel_rfl) (by as_aux_lemma => kernel_rfl) (by as_aux_lemma => kernel_rfl) (fun _ _ _ h => h) (Or.inl ⟨by kernel_rfl, ?_⟩) hHeld ?_
            rotate_left
            · intro w hSw; (try dsimp only at hSw); go_simp; (try with_reducible rfl)
            try simp only [Act.put, List.setIfInBounds_toArray, List.set_cons_zero, List.set_cons_succ]
            refine take_d (i := 10) (oi := _) (v := ?_) (d := some 39) rfl (by kernel_rfl) (by as_aux_lemma => kernel_rfl) (by as_aux_lemma => kernel_rfl) (by as_aux_lemma => kernel_rfl) (fun _ _ _ h => h) (Or.inl ⟨by kernel_rfl, ?_⟩) hHeld ?_
            rotate_left
            · intro w hSw; (try dsimp only at hSw); go_simp; (try with_reducible rfl)
            try simp only [Act.put, List.setIfInBounds_toArray, List.set_cons_zero, List.set_cons_succ]
            refine take_d (i := 11) (oi := _) (v := ?_) (d := some 40) rfl (by kernel_rfl) (by as_aux_lemma => kernel_rfl) (by as_aux_lemma => kernel_rfl) (by as_aux_lemma => kernel_rfl) (fun _ _ _ h => h) (Or.inl ⟨by kernel_rfl, ?_⟩) hHeld ?_
            rotate_left
            · intro w hSw; (try dsimp only at hSw); go_simp; (try with_reducible rfl)
            try simp only [Act.put, List.setIfInBounds_toArray, List.set_cons_zero, List.set_cons_succ]
            refine take_d (i := 12) (oi := _) (v := ?_) (d := some 41) rfl (by kernel_rfl) (by as_aux_lemma => kernel_rfl) (by as_aux_lemma => kernel_rfl) (by as_aux_lemma => kernel_rfl) (fun _ _ _ h => h) (Or.inl ⟨by kernel_rfl, ?_⟩) hHeld ?_
            rotate_left
            · intro w hSw; (try dsimp only at hSw); go_simp; (try with_reducible rfl)
            try simp only [Act.put, List.setIfInBounds_toArray, List.set_cons_zero, List.set_cons_succ]
            refine wpAnyH_ready (rs := [13]) (by kernel_rfl) (by simp) ?_
            refine AllReadyH.cons rfl (fun K hK => ?_) AllReadyH.nil
            go_simp
            refine (CN.out _).mono ?_
            rintro e u1 ⟨rfl, hb⟩
            replace bq := (by first | exact Gw.call bq hb | exact Gw.call (Below.drew bq) hb)
            clear hb
            dsimp only
            refine hK.out _ _ (HB.out _ bq) (fun hHeld => ?_)
            clear hK K
            try simp only [Act.put, List.setIfInBounds_toArray, List.set_cons_zero, List.set_cons_succ]
            refine take_d (i := 14) (oi := _) (v := ?_) (d := some 43) rfl (by kernel_rfl) (by as_aux_lemma => kernel_rfl) (by as_aux_lemma => kernel_rfl) (by as_aux_lemma => kernel_rfl) (fun _ _ _ h => h) (Or.inl ⟨by kernel_rfl, ?_⟩) hHeld ?_
            rotate_left
            · intro w hSw; (try dsimp only at hSw); go_simp; (try with_reducible rfl)
            try simp only [Act.put, List.setIfInBounds_toArray, List.set_cons_zero, List.set_cons_succ]
            refine wpAnyH_done (by kernel_rfl) ?_ _
            replace rx2 := rx2.keep bq
            replace bx := Gw.call bx bq
            obtain ⟨c0, c1', c2', k0, k1, k2⟩ := hHeld
            have f8' := f8.out _ bq
            have rx3 := RXM.out _ rx2
            clear HB CN f8 RXM rx2 bq
            go_wp2_with fail
            go_roundw
            case rel => exact ⟨k + 1, hkl, by go_num, by rw [STP.out, rep_yes HO.out HNW.out]; simpa only [List.set_set] using rx3, Gw.st (Gw.st (Gw.st bx (p := ⟨g8, a * 3, none⟩) hg8 _) (p := ⟨g8, a * 3 + 1, none⟩) hg8 _) (p := ⟨g8, a * 3 + 2, none⟩) hg8 _⟩
            case measure => simp [intOf]; omega
        · have ta : decide ((a : Int) < (row.length : Int)) = false := by simp; omega
          have tan : decide (a < row.length) = false := by simp; omega
          have HO : Hid ((repRow row (marks.take k))[a]? = none) := Lib.hid (List.getElem?_eq_none (by rw [hRl.out]; omega))
          have HB : Hid (∀ W, Below wq.heap.size wq W → (fun W : World => W.cell? ⟨gb, 0, none⟩ = some (.int .u8 (a : Int)) ∧ W.cell? ⟨gb, 1, none⟩ = some (.int .u16 i) ∧ W.cell? ⟨gb, 2, none⟩ = some (.int .u32 s)) W) := Lib.hid fun W hb => ⟨(G.call hb).blk.2.1 0 _ rfl, (G.call hb).blk.2.1 1 _ rfl, (G.call hb).blk.2.1 2 _ rfl⟩
          refine wp_region_held_drew (S := fun W : World => W.cell? ⟨gb, 0, none⟩ = some (.int .u8 (a : Int)) ∧ W.cell? ⟨gb, 1, none⟩ = some (.int .u16 i) ∧ W.cell? ⟨gb, 2, none⟩ = some (.int .u32 s)) (by kernel_rfl) (HB.out _ (Below.drew bq)) (fun hHeld => ?_)
          refine take_d (i := 0) (oi := _) (v := ?_) (d := some 29) rfl (by kernel_rfl) (by as_aux_lemma => kernel_rfl) (by as_aux_lemma => kernel_rfl) (by as_aux_lemma => kernel_rfl) (fun _ _ _ h => h) (Or.inl ⟨by kernel_rfl, ?_⟩) hHeld ?_
          rotate_left
          · intro w hSw; (try dsimp only at hSw); go_simp; (try with_reducible rfl)
          try simp only [Act.put, List.setIfInBounds_toArray, List.set_cons_zero, List.set_cons_succ]
          refine take_d (i := 1) (oi := _) (v := ?_) (d := some 30) rfl (by kernel_rfl) (by as_aux_lemma => kernel_rfl) (by as_aux_lemma => kernel_rfl) (by as_aux_lemma => kernel_rfl) (fun _ _ _ h => h) (Or.inl ⟨by kernel_rfl, ?_⟩) hHeld ?_
          rotate_left
          · intro w hSw; (try dsimp only at hSw); go_simp; (try with_reducible rfl)
          try simp only [Act.put, List.setIfInBounds_toArray, List.set_cons_zero, List.set_cons_succ]
          refine take_d (i := 2) (oi := _) (v := ?_) (d := some 31) rfl (by kernel_rfl) (by as_aux_lemma => kernel_rfl) (by as_aux_lemma => kernel_rfl) (by as_aux_lemma => kernel_rfl) (fun _ _ _ h => h) (Or.inl ⟨by kernel_rfl, ?_⟩) hHeld ?_
          rotate_left
          · intro w hSw; (try dsimp only at hSw); go_simp; (try with_reducible rfl)
          try simp only [Act.put, List.setIfInBounds_toArray, List.set_cons_zero, List.set_cons_succ]
          refine take_d (i := 3) (oi := _) (v := ?_) (d := some 32) rfl (by kernel_rfl) (by as_aux_lemma => kernel_rfl) (by as_aux_lemma => kernel_rfl) (by as_aux_lemma => kernel_rfl) (fun _ _ _ h => h) (Or.inl ⟨by kernel_rfl, ?_⟩) hHeld ?_
          rotate_left
          · intro w hSw; (try dsimp only at hSw); go_simp; (try with_reducible rfl)
          try simp only [Act.put, List.setIfInBounds_toArray, List.set_cons_zero, List.set_cons_succ]
          refine take_d (i := 4) (oi := _) (v := ?_) (d := some 33) rfl (by kernel_rfl) (by as_aux_lemma => kernel_rfl) (by as_aux_lemma => kernel_rfl) (by as_aux_lemma => kernel_rfl) (fun _ _ _ h => h) (Or.inl ⟨by kernel_rfl, ?_⟩) hHeld ?_
          rotate_left
          · intro w hSw; (try dsimp only at hSw); go_simp; (try with_reducible rfl)
          try simp only [Act.put, List.setIfInBounds_toArray, List.set_cons_zero, List.set_cons_succ]
          refine take_d (i := 5) (oi := _) (v := .bool false) (d := some 34) rfl (by kernel_rfl) (by as_aux_lemma => kernel_rfl) (by as_aux_lemma => kernel_rfl) (by as_aux_lemma => kernel_rfl) (fun _ _ _ h => h) (Or.inl ⟨by kernel_rfl, ?_⟩) hHeld ?_
          · intro W hSw
            go_simp; first | done | simp only [ta] | simp only [tan] | simp only [wa] | simp [ta, tan, wa]
          try simp only [Act.put, List.setIfInBounds_toArray, List.set_cons_zero, List.set_cons_succ]
          refine take_d (i := 6) (oi := _) (v := ?_) (d := some 35) rfl (by kernel_rfl) (by as_aux_lemma => kernel_rfl) (by as_aux_lemma => kernel_rfl) (by as_aux_lemma => kernel_rfl) (fun _ _ _ h => h) (Or.inl ⟨by kernel_rfl, ?_⟩) hHeld ?_
          rotate_left
          · intro w hSw; (try dsimp only at hSw); go_simp; (try with_reducible rfl)
          try simp only [Act.put, List.setIfInBounds_toArray, List.set_cons_zero, List.set_cons_succ]
          refine take_d (i := 7) (oi := _) (v := undef) (d := some 36) rfl (by kernel_rfl) (by as_aux_lemma => kernel_rfl) (by as_aux_lemma => kernel_rfl) (by as_aux_lemma => kernel_rfl) (fun _ _ _ h => h) (Or.inr ⟨by kernel_rfl, rfl⟩) hHeld ?_
          try simp only [Act.put, List.setIfInBounds_toArray, List.set_cons_zero, List.set_cons_succ]
          refine take_d (i := 8) (oi := _) (v := undef) (d := some 37) rfl (by kernel_rfl) (by as_aux_lemma => kernel_rfl) (by as_aux_lemma => kernel_rfl) (by as_aux_lemma => kernel_rfl) (fun _ _ _ h => h) (Or.inr ⟨by kernel_rfl, rfl⟩) hHeld ?_
          try simp only [Act.put, List.setIfInBounds_toArray, List.set_cons_zero, List.set_cons_succ]
          refine take_d (i := 9) (oi := _) (v := undef) (d := some 38) rfl (by kernel_rfl) (by as_aux_lemma => kernel_rfl) (by as_aux_lemma => kernel_rfl) (by as_aux_lemma => kernel_rfl) (fun _ _ _ h => h) (Or.inr ⟨by kernel_rfl, rfl⟩) hHeld ?_
          try simp only [Act.put, List.setIfInBounds_toArray, List.set_cons_zero, List.set_cons_succ]
          refine take_d (i := 10) (oi := _) (v := undef) (d := some 39) rfl (by kernel_rfl) (by as_aux_lemma => kernel_rfl) (by as_aux_lemma => kernel_rfl) (by as_aux_lemma => kernel_rfl) (fun _ _ _ h => h) (Or.inr ⟨by kernel_rfl, rfl⟩) hHeld ?_
          try simp only [Act.put, List.setIfInBounds_toArray, List.set_cons_zero, List.set_cons_succ]
          refine take_d (i := 11) (oi := _) (v := undef) (d := some 40) rfl (by kernel_rfl) (by as_aux_lemma => kernel_rfl) (by as_aux_lemma => kernel_rfl) (by as_aux_lemma => kernel_rfl) (fun _ _ _ h => h) (Or.inr ⟨by kernel_rfl, rfl⟩) hHeld ?_
          try simp only [Act.put, List.setIfInBounds_toArray, List.set_cons_zero, List.set_cons_succ]
          refine take_d (i := 12) (oi := _) (v := undef) (d := some 41) rfl (by kernel_rfl) (by as_aux_lemma => kernel_rfl) (by as_aux_lemma => kernel_rfl) (by as_aux_lemma => kernel_rfl) (fun _ _ _ h => h) (Or.inr ⟨by kernel_rfl, rfl⟩) hHeld ?_
          try simp only [Act.put, List.setIfInBounds_toArray, List.set_cons_zero, List.set_cons_succ]
          refine take_d (i := 13) (oi := _) (v := undef) (d := some 42) rfl (by kernel_rfl) (by as_aux_lemma => kernel_rfl) (by as_aux_lemma => kernel_rfl) (by as_aux_lemma => kernel_rfl) (fun _ _ _ h => h) (Or.inr ⟨by kernel_rfl, rfl⟩) hHeld ?_
          try simp only [Act.put, List.setIfInBounds_toArray, List.set_cons_zero, List.set_cons_succ]
          refine take_d (i := 14) (oi := _) (v := ?_) (d := some 43) rfl (by kernel_rfl) (by as_aux_lemma => kernel_rfl) (by as_aux_lemma => kernel_rfl) (by as_aux_lemma => kernel_rfl) (fun _ _ _ h => h) (Or.inl ⟨by kernel_rfl, ?_⟩) hHeld ?_
          rotate_left
          · intro w hSw; (try dsimp only at hSw); go_simp; (try with_reducible rfl)
          try simp only [Act.put, List.setIfInBounds_toArray, List.set_cons_zero, List.set_cons_succ]
          refine wpAnyH_done (by kernel_rfl) ?_ _
          replace rx2 := rx2.keep (Below.drew bq)
          replace bx := Gw.call bx (Below.drew bq)
          clear HB hHeld bq
          go_wp2_with fail
          go_roundw
          case rel => exact ⟨k + 1, hkl, by go_num, by rw [STP.out, rep_out HO.out]; exact rx2, bx⟩
          case measure => simp [intOf]; omega
      · obtain rfl : k = marks.length := by omega
        rw [List.take_length] at rx
        go_wp2_with fail
        go_ret
        exact ⟨_, _, rfl, ⟨_, by rw [map_set HRS.out, HFL.out], rx⟩, bl⟩
  · have t1 : decide ((n : Int) ≤ (m : Int)) = true := by simp; omega
    have HFL : Hid (reportL rows m marks = rows) := Lib.hid (by unfold reportL; rw [List.getElem?_eq_none (by have := HLN.out; omega)])
    go_wp2_with fail
    go_ret
    exact ⟨_, _, rfl, ⟨rs, by rw [HFL.out]; exact hrs, rx⟩, b1⟩
end Go.Proofs.Ytcclnfpegepcnaa
