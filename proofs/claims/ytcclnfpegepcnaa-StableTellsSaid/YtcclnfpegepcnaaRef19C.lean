/-
  The document's own Report (19).
-/
import Derived.Test.YtcclnfpegepcnaaRef19
import Derived.Test.YtcclnfpegepcnaaRef19B
namespace Go.Proofs.Ytcclnfpegepcnaa
open Go.RowKit
theorem report_row {rows : List (List Id)} {m i : Nat} {row ms : List Id} (hi : rows[i]? = some row) : ∃ q, (reportL rows m ms)[i]? = some q ∧ q.length = row.length ∧ (i = m → q = repRow row ms) ∧ (¬i = m → q = row) := by
  have hil := (List.getElem?_eq_some_iff.1 hi).1
  by_cases h : i = m
  · subst h
    unfold reportL
    rw [hi]
    dsimp only
    rw [List.getElem?_set_self hil]
    exact ⟨_, rfl, repRow_len _ _, fun _ => rfl, fun h => absurd rfl h⟩
  · unfold reportL
    split
    · rw [List.getElem?_set_ne (fun e => h e.symm)]
      exact ⟨row, hi, rfl, fun e => absurd e h, fun _ => rfl⟩
    · exact ⟨row, hi, rfl, fun e => absurd e h, fun _ => rfl⟩
set_option maxRecDepth 100000 in
set_option maxHeartbeats 4000000 in
theorem refreport_any (rows : List (List Id)) (A : Option Addr) (ca n : Nat) (mem : Int) (marks : List Id) (B : Option Addr) (cb : Nat) (w : World) (hln : rows.length = n) (hr : Rep w.heap.size w A rows) (hn : n ≤ 256) (hl : ∀ r ∈ rows, r.length = n) (hm : 0 ≤ mem ∧ mem ≤ 255) (hbr : Rd idc 3 w.heap.size w B marks) (hml : marks.length ≤ 1000000) (hmo : ∀ x ∈ marks, x.ok) :
    Calls Try.prog 21 #[.slice A n ca, .int .u8 mem, .slice B marks.length cb] w fun e w' => ∃ A' c', e = .returned (.slice A' n c') ∧ RepO w.heap.size w' (.slice A' n c') (reportL rows mem.toNat marks) ∧ Below w.heap.size w w' := by
  obtain ⟨i0, hi0, hz0, hz1, hz2⟩ := info_parts Try.infoMkS
  obtain ⟨i1, hi1, hy0, hy1, hy2⟩ := info_parts Try.infoMk
  have HLN := Lib.hid hln
  have HL := Lib.hid hl
  have HMO := Lib.hid hmo
  obtain ⟨m, rfl⟩ := Int.eq_ofNat_of_zero_le hm.1
  simp only [Int.toNat_natCast]
  have wm : IntKind.i64.wrap (m : Int) = (m : Int) := IntWalk.i64_in _ (by omega)
  clear hln hl hmo
  have HFR := Lib.hid (fun (i : Nat) (row : List Id) (h : rows[i]? = some row) => report_row (m := m) (ms := marks) h)
  have HRL : Hid ((reportL rows m marks).length = n) := Lib.hid (by rw [reportL_len]; exact HLN.out)
  obtain ⟨R, hR⟩ : ∃ R, R = reportL rows m marks := ⟨_, rfl⟩
  rw [← hR] at HFR HRL ⊢
  clear hR
  go_enter Try.func21, Try.ntmps21
  go_wp2_with fail
  go_loopw [7, 8] (fun t iv wr => ∃ (i : Nat) (A1 : Option Addr) (c1 : Nat), i ≤ n ∧ iv = .int .i64 i ∧ t = .slice A1 i c1 ∧ RepO w.heap.size wr (.slice A1 i c1) (R.take i) ∧ Below w.heap.size w wr) (fun _ iv _ => n - (intOf iv).toNat)
  case atStart => exact ⟨0, none, 0, Nat.zero_le _, rfl, rfl, RepO.nil_, Below.refl _ _⟩
  case round =>
    obtain ⟨i, A1, c1, hi, rfl, rfl, ⟨rs, hrs, rx⟩, bl⟩ := hrel
    by_cases hlt : i < n
    · have ii : (i : Int) < (n : Int) := by omega
      have hil : i = rs.length := by have := rep_len hrs; rw [List.length_take, HRL.out] at this; omega
      have HIL := Lib.hid hil
      have HRS := Lib.hid hrs
      clear hil hrs
      obtain ⟨row, hrow⟩ : ∃ row, rows[i]? = some row := ⟨_, List.getElem?_eq_getElem (by rw [HLN.out]; exact hlt)⟩
      have hrl : row.length = n := HL.out row (List.mem_of_getElem? hrow)
      obtain ⟨q, hq, hql, hq1, hq2⟩ := HFR.out i row hrow
      have HQ := Lib.hid hq
      have HQL := Lib.hid (hql.trans hrl)
      have HQ1 := Lib.hid hq1
      have HQ2 := Lib.hid hq2
      obtain ⟨W0, hW0⟩ : ∃ W0 : World, W0 = wr := ⟨wr, rfl⟩
      subst hW0
      obtain ⟨b, o, A2, c2, rfl, hbw, hc, rr⟩ := (hr.below bl).at_ hrow
      rw [hrl] at hc
      have HRW := Lib.hid hrl
      have hrr := rr
      clear hrow hrl hq hql hq1 hq2
      have o0 : Own idc 3 40 W0.heap.size W0 (.slice none 0 0) ([] : List Id) := Own.nil_
      go_upto_region 7 with (first | (at_builtin; refine wpList_app _ rfl _ _ 29 rfl W0.heap.size 40 i1 _ 8 Try.underlying29 hi1 hy0 hy1 hy2 rfl (by omega) idc_len idc_one (.slice none 0 0) [] rfl o0 0 rfl _ _ n _ row rfl HRW.out.symm hrr (by omega) (by omega) (Nat.le_refl _) ?_; intro A3 c3 w3 o3 hg) | fail)
      rw [List.nil_append, Nat.zero_add] at o3
      have hb := Gw.gr (Below.refl W0.heap.size W0) hg o0.lt
      have ev : ∀ (A : Option Addr) (l : List Id) (c : Nat), l.length = n → RsV.v ⟨A, l, c⟩ = .slice A n c := fun A l c h => by show Value.slice A l.length c = _; rw [h]
      have EV := Lib.hid ev
      clear ev o0 hg hrr hc
      have SN : Hid (R.take (i + 1) = R.take i ++ [q]) := Lib.hid (take_snoc HQ.out)
      by_cases him : i = m
      · have z1 : ((i : Int) == (m : Int)) = true := by rw [beq_iff_eq]; omega
        have HQ3 := Lib.hid (HQ1.out him)
        clear him
        have o3' : Own idc 3 40 W0.heap.size w3 (.slice A3 n c3) (repRow row (marks.take 0)) := o3
        clear o3
        go_wp2_with fail
        go_loopw [10] (fun kv wr => ∃ k : Nat, k ≤ marks.length ∧ kv = .int .i64 k ∧ Own idc 3 40 W0.heap.size wr (.slice A3 n c3) (repRow row (marks.take k)) ∧ Below W0.heap.size W0 wr) (fun kv _ => marks.length - (intOf kv).toNat)
        case atStart => exact ⟨0, Nat.zero_le _, rfl, o3', hb⟩
        case round =>
          clear o3' hb
          obtain ⟨k, hk, rfl, o3, hb⟩ := hrel
          by_cases hkl : k < marks.length
          · obtain ⟨⟨a, ai, s⟩, hy⟩ : ∃ y, marks[k]? = some y := ⟨_, List.getElem?_eq_getElem hkl⟩
            obtain ⟨⟨a0, a1⟩, ⟨j0, j1⟩, s0, s1⟩ := HMO.out _ (List.mem_of_getElem? hy)
            simp only at a0 a1 j0 j1 s0 s1
            obtain ⟨a, rfl⟩ := Int.eq_ofNat_of_zero_le a0
            obtain ⟨bB, oB, hBA, hbB, hcB⟩ := (hbr.below (Gw.call bl hb)).at_ hy
            have d0 : wr.cell? ⟨bB, oB + k * 3, none⟩ = some (.int .u8 (a : Int)) := hcB 0 _ rfl
            have d1 : wr.cell? ⟨bB, oB + k * 3 + 1, none⟩ = some (.int .u16 ai) := hcB 1 _ rfl
            have d2 : wr.cell? ⟨bB, oB + k * 3 + 2, none⟩ = some (.int .u32 s) := hcB 2 _ rfl
            have HBA := Lib.hid hBA
            have ki : (k : Int) < (marks.length : Int) := by omega
            have STP := Lib.hid (rep_take (row := row) hy)
            have hRl : Hid ((repRow row (marks.take k)).length = n) := Lib.hid ((repRow_len _ _).trans HRW.out)
            have wa : IntKind.i64.wrap (a : Int) = (a : Int) := IntWalk.i64_in _ (by omega)
            clear hcB hy
            rw [hBA]
            clear hBA
            have bq := Below.refl wr.heap.size wr
            go_upto_region 12 with fail
            have hbq : bB < wr.heap.size := Nat.lt_of_lt_of_le hbB (Nat.le_trans bl.size hb.size)
            by_cases hal : a < n
            · obtain ⟨o8, ho⟩ : ∃ o, (repRow row (marks.take k))[a]? = some o := ⟨_, List.getElem?_eq_getElem (by rw [hRl.out]; exact hal)⟩
              have HO := Lib.hid ho
              obtain ⟨g8, hg8e⟩ : ∃ g8, A3 = some ⟨g8, 0, none⟩ := by
                rcases o3.2 with ⟨hv, h0⟩ | ⟨g, cap, cur, hv, _⟩
                · rw [hRl.out] at h0; omega
                · injection hv with hA _ _
                  exact ⟨g, hA⟩
              subst hg8e
              have e0 := Own.at_ idc_len o3 ho (j := 0) rfl
              have e1 := Own.at_ idc_len o3 ho (j := 1) rfl
              have e2 := Own.at_ idc_len o3 ho (j := 2) rfl
              rw [Nat.add_zero] at e0
              have hg8 := (Own.row o3).2.1
              have hgq : g8 < wr.heap.size := Own.hi o3 g8 rfl
              have ta : decide ((a : Int) < (n : Int)) = true := by simp; omega
              have tan : decide (a < n) = true := by simp; omega
              have ani : (a : Int) < (n : Int) := by omega
              have CN := Lib.hid (fun W => refnewer_any ⟨a, ai, s⟩ o8 W)
              have HB : Hid (∀ W, Below wr.heap.size wr W → (fun W : World => W.cell? ⟨bB, oB + k * 3, none⟩ = some (.int .u8 (a : Int)) ∧ W.cell? ⟨bB, oB + k * 3 + 1, none⟩ = some (.int .u16 ai) ∧ W.cell? ⟨bB, oB + k * 3 + 2, none⟩ = some (.int .u32 s) ∧ W.cell? ⟨g8, a * 3, none⟩ = some (.int .u8 o8.n) ∧ W.cell? ⟨g8, a * 3 + 1, none⟩ = some (.int .u16 o8.i) ∧ W.cell? ⟨g8, a * 3 + 2, none⟩ = some (.int .u32 o8.s)) W) := Lib.hid fun W hb => ⟨(hb.cell (p := ⟨bB, _, none⟩) hbq).trans d0, (hb.cell (p := ⟨bB, _, none⟩) hbq).trans d1, (hb.cell (p := ⟨bB, _, none⟩) hbq).trans d2, (hb.cell (p := ⟨g8, _, none⟩) hgq).trans e0, (hb.cell (p := ⟨g8, _, none⟩) hgq).trans e1, (hb.cell (p := ⟨g8, _, none⟩) hgq).trans e2⟩
              clear e0 e1 e2 ho
              cases hnw : newerB ⟨a, ai, s⟩ o8
              · rw [hnw] at CN
                have HNW := Lib.hid hnw
                clear hnw
                refine wp_region_held_drew (S := fun W : World => W.cell? ⟨bB, oB + k * 3, none⟩ = some (.int .u8 (a : Int)) ∧ W.cell? ⟨bB, oB + k * 3 + 1, none⟩ = some (.int .u16 ai) ∧ W.cell? ⟨bB, oB + k * 3 + 2, none⟩ = some (.int .u32 s) ∧ W.cell? ⟨g8, a * 3, none⟩ = some (.int .u8 o8.n) ∧ W.cell? ⟨g8, a * 3 + 1, none⟩ = some (.int .u16 o8.i) ∧ W.cell? ⟨g8, a * 3 + 2, none⟩ = some (.int .u32 o8.s)) (by kernel_rfl) (HB.out _ (Below.drew bq)) (fun hHeld => ?_)
                refine take_d (i := 0) (oi := _) (v := ?_) (d := some 40) rfl (by kernel_rfl) (by as_aux_lemma => kernel_rfl) (by as_aux_lemma => kernel_rfl) (by as_aux_lemma => kernel_rfl) (fun _ _ _ h => h) (Or.inl ⟨by kernel_rfl, ?_⟩) hHeld ?_
                rotate_left
                · intro w hSw; (try dsimp only at hSw); go_simp; (try with_reducible rfl)
                try simp only [Act.put, List.setIfInBounds_toArray, List.set_cons_zero, List.set_cons_succ]
                refine take_d (i := 1) (oi := _) (v := ?_) (d := some 41) rfl (by kernel_rfl) (by as_aux_lemma => kernel_rfl) (by as_aux_lemma => kernel_rfl) (by as_aux_lemma => kernel_rfl) (fun _ _ _ h => h) (Or.inl ⟨by kernel_rfl, ?_⟩) hHeld ?_
                rotate_left
                · intro w hSw; (try dsimp only at hSw); go_simp; (try with_reducible rfl)
                try simp only [Act.put, List.setIfInBounds_toArray, List.set_cons_zero, List.set_cons_succ]
                refine take_d (i := 2) (oi := _) (v := ?_) (d := some 42) rfl (by kernel_rfl) (by as_aux_lemma => kernel_rfl) (by as_aux_lemma => kernel_rfl) (by as_aux_lemma => kernel_rfl) (fun _ _ _ h => h) (Or.inl ⟨by kernel_rfl, ?_⟩) hHeld ?_
                rotate_left
                · intro w hSw; (try dsimp only at hSw); go_simp; (try with_reducible rfl)
                try simp only [Act.put, List.setIfInBounds_toArray, List.set_cons_zero, List.set_cons_succ]
                refine take_d (i := 3) (oi := _) (v := .bool true) (d := some 43) rfl (by kernel_rfl) (by as_aux_lemma => kernel_rfl) (by as_aux_lemma => kernel_rfl) (by as_aux_lemma => kernel_rfl) (fun _ _ _ h => h) (Or.inl ⟨by kernel_rfl, ?_⟩) hHeld ?_
                · intro W hSw
                  go_simp; first | done | simp only [ta] | simp only [tan] | simp only [wa] | simp [ta, tan, wa]
                try simp only [Act.put, List.setIfInBounds_toArray, List.set_cons_zero, List.set_cons_succ]
                refine take_d (i := 4) (oi := _) (v := ?_) (d := some 44) rfl (by kernel_rfl) (by as_aux_lemma => kernel_rfl) (by as_aux_lemma => kernel_rfl) (by as_aux_lemma => kernel_rfl) (fun _ _ _ h => h) (Or.inl ⟨by kernel_rfl, ?_⟩) hHeld ?_
                rotate_left
                · intro w hSw; (try dsimp only at hSw); go_simp; (try with_reducible rfl)
                try simp only [Act.put, List.setIfInBounds_toArray, List.set_cons_zero, List.set_cons_succ]
                refine take_d (i := 5) (oi := _) (v := ?_) (d := some 45) rfl (by kernel_rfl) (by as_aux_lemma => kernel_rfl) (by as_aux_lemma => kernel_rfl) (by as_aux_lemma => kernel_rfl) (fun _ _ _ h => h) (Or.inl ⟨by kernel_rfl, ?_⟩) hHeld ?_
                rotate_left
                · intro w hSw; (try dsimp only at hSw); go_simp; (try with_reducible rfl)
                try simp only [Act.put, List.setIfInBounds_toArray, List.set_cons_zero, List.set_cons_succ]
                refine take_d (i := 6) (oi := _) (v := ?_) (d := some 46) rfl (by kernel_rfl) (by as_aux_lemma => kernel_rfl) (by as_aux_lemma => kernel_rfl) (by as_aux_lemma => kernel_rfl) (fun _ _ _ h => h) (Or.inl ⟨by kernel_rfl, ?_⟩) hHeld ?_
                rotate_left
                · intro w hSw; (try dsimp only at hSw); go_simp; (try with_reducible rfl)
                try simp only [Act.put, List.setIfInBounds_toArray, List.set_cons_zero, List.set_cons_succ]
                refine take_d (i := 7) (oi := _) (v := ?_) (d := some 47) rfl (by kernel_rfl) (by as_aux_lemma => kernel_rfl) (by as_aux_lemma => kernel_rfl) (by as_aux_lemma => kernel_rfl) (fun _ _ _ h => h) (Or.inl ⟨by kernel_rfl, ?_⟩) hHeld ?_
                rotate_left
                · intro w hSw; (try dsimp only at hSw); go_simp; (try with_reducible rfl)
                try simp only [Act.put, List.setIfInBounds_toArray, List.set_cons_zero, List.set_cons_succ]
                refine take_d (i := 8) (oi := _) (v := ?_) (d := some 48) rfl (by kernel_rfl) (by as_aux_lemma => kernel_rfl) (by as_aux_lemma => kernel_rfl) (by as_aux_lemma => kernel_rfl) (fun _ _ _ h => h) (Or.inl ⟨by kernel_rfl, ?_⟩) hHeld ?_
                rotate_left
                · intro w hSw; (try dsimp only at hSw); go_simp; (try with_reducible rfl)
                try simp only [Act.put, List.setIfInBounds_toArray, List.set_cons_zero, List.set_cons_succ]
                refine take_d (i := 9) (oi := _) (v := ?_) (d := some 49) rfl (by kernel_rfl) (by as_aux_lemma => kernel_rfl) (by as_aux_lemma => kernel_rfl) (by as_aux_lemma => kernel_rfl) (fun _ _ _ h => h) (Or.inl ⟨by kernel_rfl, ?_⟩) hHeld ?_
                rotate_left
                · intro w hSw; (try dsimp only at hSw); go_simp; (try with_reducible rfl)
                try simp only [Act.put, List.setIfInBounds_toArray, List.set_cons_zero, List.set_cons_succ]
                refine take_d (i := 10) (oi := _) (v := ?_) (d := some 50) rfl (by kernel_rfl) (by as_aux_lemma => kernel_rfl) (by as_aux_lemma => kernel_rfl) (by as_aux_lemma => kernel_rfl) (fun _ _ _ h => h) (Or.inl ⟨by kernel_rfl, ?_⟩) hHeld ?_
                rotate_left
                · intro w hSw; (try dsimp only at hSw); go_simp; (try with_reducible rfl)
                try simp only [Act.put, List.setIfInBounds_toArray, List.set_cons_zero, List.set_cons_succ]
                refine take_d (i := 11) (oi := _) (v := ?_) (d := some 51) rfl (by kernel_rfl) (by as_aux_lemma => kernel_rfl) (by as_aux_lemma => kernel_rfl) (by as_aux_lemma => kernel_rfl) (fun _ _ _ h => h) (Or.inl ⟨by kernel_rfl, ?_⟩) hHeld ?_
                rotate_left
                · intro w hSw; (try dsimp only at hSw); go_simp; (try with_reducible rfl)
                try simp only [Act.put, List.setIfInBounds_toArray, List.set_cons_zero, List.set_cons_succ]
                refine take_d (i := 12) (oi := _) (v := ?_) (d := some 52) rfl (by kernel_rfl) (by as_aux_lemma => kernel_rfl) (by as_aux_lemma => kernel_rfl) (by as_aux_lemma => kernel_rfl) (fun _ _ _ h => h) (Or.inl ⟨by kernel_rfl, ?_⟩) hHeld ?_
                rotate_left
                · intro w hSw; (try dsimp only at hSw); go_simp; (try with_reducible rfl)
                try simp only [Act.put, List.setIfInBounds_toArray, List.set_cons_zero, List.set_cons_succ]
                refine wpAnyH_ready (rs := [13]) (by kernel_rfl) (by simp) ?_
                refine AllReadyH.cons rfl (fun K hK => ?_) AllReadyH.nil
                go_simp
                refine (CN.out _).mono ?_
                rintro e u1 ⟨rfl, hb⟩
                replace bq := (by first | exact Gw.call bq hb | exact Gw.call (Below.drew bq) hb)
                clear hb
                dsimp only
                refine hK.out _ _ (HB.out _ bq) (fun hHeld => ?_)
                clear hK K
                try simp only [Act.put, List.setIfInBounds_toArray, List.set_cons_zero, List.set_cons_succ]
                refine take_d (i := 14) (oi := _) (v := ?_) (d := some 54) rfl (by kernel_rfl) (by as_aux_lemma => kernel_rfl) (by as_aux_lemma => kernel_rfl) (by as_aux_lemma => kernel_rfl) (fun _ _ _ h => h) (Or.inl ⟨by kernel_rfl, ?_⟩) hHeld ?_
                rotate_left
                · intro w hSw; (try dsimp only at hSw); go_simp; (try with_reducible rfl)
                try simp only [Act.put, List.setIfInBounds_toArray, List.set_cons_zero, List.set_cons_succ]
                refine wpAnyH_done (by kernel_rfl) ?_ _
                replace o3 := Own.below o3 bq
                replace hb := Gw.call hb bq
                clear HB CN hHeld bq
                go_wp2_with fail
                go_roundw
                case rel => exact ⟨k + 1, hkl, by go_num, by rw [STP.out, rep_no HO.out HNW.out]; exact o3, hb⟩
                case measure => simp [intOf]; omega
              · rw [hnw] at CN
                have HNW := Lib.hid hnw
                clear hnw
                refine wp_region_held_drew (S := fun W : World => W.cell? ⟨bB, oB + k * 3, none⟩ = some (.int .u8 (a : Int)) ∧ W.cell? ⟨bB, oB + k * 3 + 1, none⟩ = some (.int .u16 ai) ∧ W.cell? ⟨bB, oB + k * 3 + 2, none⟩ = some (.int .u32 s) ∧ W.cell? ⟨g8, a * 3, none⟩ = some (.int .u8 o8.n) ∧ W.cell? ⟨g8, a * 3 + 1, none⟩ = some (.int .u16 o8.i) ∧ W.cell? ⟨g8, a * 3 + 2, none⟩ = some (.int .u32 o8.s)) (by kernel_rfl) (HB.out _ (Below.drew bq)) (fun hHeld => ?_)
                refine take_d (i := 0) (oi := _) (v := ?_) (d := some 40) rfl (by kernel_rfl) (by as_aux_lemma => kernel_rfl) (by as_aux_lemma => kernel_rfl) (by as_aux_lemma => kernel_rfl) (fun _ _ _ h => h) (Or.inl ⟨by kernel_rfl, ?_⟩) hHeld ?_
                rotate_left
                · intro w hSw; (try dsimp only at hSw); go_simp; (try with_reducible rfl)
                try simp only [Act.put, List.setIfInBounds_toArray, List.set_cons_zero, List.set_cons_succ]
                refine take_d (i := 1) (oi := _) (v := ?_) (d := some 41) rfl (by kernel_rfl) (by as_aux_lemma => kernel_rfl) (by as_aux_lemma => kernel_rfl) (by as_aux_lemma => kernel_rfl) (fun _ _ _ h => h) (Or.inl ⟨by kernel_rfl, ?_⟩) hHeld ?_
                rotate_left
                · intro w hSw; (try dsimp only at hSw); go_simp; (try with_reducible rfl)
                try simp only [Act.put, List.setIfInBounds_toArray, List.set_cons_zero, List.set_cons_succ]
                refine take_d (i := 2) (oi := _) (v := ?_) (d := some 42) rfl (by kernel_rfl) (by as_aux_lemma => kernel_rfl) (by as_aux_lemma => kernel_rfl) (by as_aux_lemma => kernel_rfl) (fun _ _ _ h => h) (Or.inl ⟨by kernel_rfl, ?_⟩) hHeld ?_
                rotate_left
                · intro w hSw; (try dsimp only at hSw); go_simp; (try with_reducible rfl)
                try simp only [Act.put, List.setIfInBounds_toArray, List.set_cons_zero, List.set_cons_succ]
                refine take_d (i := 3) (oi := _) (v := .bool true) (d := some 43) rfl (by kernel_rfl) (by as_aux_lemma => kernel_rfl) (by as_aux_lemma => kernel_rfl) (by as_aux_lemma => kernel_rfl) (fun _ _ _ h => h) (Or.inl ⟨by kernel_rfl, ?_⟩) hHeld ?_
                · intro W hSw
                  go_simp; first | done | simp only [ta] | simp only [tan] | simp only [wa] | simp [ta, tan, wa]
                try simp only [Act.put, List.setIfInBounds_toArray, List.set_cons_zero, List.set_cons_succ]
                refine take_d (i := 4) (oi := _) (v := ?_) (d := some 44) rfl (by kernel_rfl) (by as_aux_lemma => kernel_rfl) (by as_aux_lemma => kernel_rfl) (by as_aux_lemma => kernel_rfl) (fun _ _ _ h => h) (Or.inl ⟨by kernel_rfl, ?_⟩) hHeld ?_
                rotate_left
                · intro w hSw; (try dsimp only at hSw); go_simp; (try with_reducible rfl)
                try simp only [Act.put, List.setIfInBounds_toArray, List.set_cons_zero, List.set_cons_succ]
                refine take_d (i := 5) (oi := _) (v := ?_) (d := some 45) rfl (by kernel_rfl) (by as_aux_lemma => kernel_rfl) (by as_aux_lemma => kernel_rfl) (by as_aux_lemma => kernel_rfl) (fun _ _ _ h => h) (Or.inl ⟨by kernel_rfl, ?_⟩) hHeld ?_
                rotate_left
                · intro w hSw; (try dsimp only at hSw); go_simp; (try with_reducible rfl)
                try simp only [Act.put, List.setIfInBounds_toArray, List.set_cons_zero, List.set_cons_succ]
                refine take_d (i := 6) (oi := _) (v := ?_) (d := some 46) rfl (by kernel_rfl) (by as_aux_lemma => kernel_rfl) (by as_aux_lemma => kernel_rfl) (by as_aux_lemma => kernel_rfl) (fun _ _ _ h => h) (Or.inl ⟨by kernel_rfl, ?_⟩) hHeld ?_
                rotate_left
                · intro w hSw; (try dsimp only at hSw); go_simp; (try with_reducible rfl)
                try simp only [Act.put, List.setIfInBounds_toArray, List.set_cons_zero, List.set_cons_succ]
                refine take_d (i := 7) (oi := _) (v := ?_) (d := some 47) rfl (by kernel_rfl) (by as_aux_lemma => kernel_rfl) (by as_aux_lemma => kernel_rfl) (by as_aux_lemma => kernel_rfl) (fun _ _ _ h => h) (Or.inl ⟨by kernel_rfl, ?_⟩) hHeld ?_
                rotate_left
                · intro w hSw; (try dsimp only at hSw); go_simp; (try with_reducible rfl)
                try simp only [Act.put, List.setIfInBounds_toArray, List.set_cons_zero, List.set_cons_succ]
                refine take_d (i := 8) (oi := _) (v := ?_) (d := some 48) rfl (by kernel_rfl) (by as_aux_lemma => kernel_rfl) (by as_aux_lemma => kernel_rfl) (by as_aux_lemma => kernel_rfl) (fun _ _ _ h => h) (Or.inl ⟨by kernel_rfl, ?_⟩) hHeld ?_
                rotate_left
                · intro w hSw; (try dsimp only at hSw); go_simp; (try with_reducible rfl)
                try simp only [Act.put, List.setIfInBounds_toArray, List.set_cons_zero, List.set_cons_succ]
                refine take_d (i := 9) (oi := _) (v := ?_) (d := some 49) rfl (by kernel_rfl) (by as_aux_lemma => kernel_rfl) (by as_aux_lemma => kernel_rfl) (by as_aux_lemma => kernel_rfl) (fun _ _ _ h => h) (Or.inl ⟨by kernel_rfl, ?_⟩) hHeld ?_
                rotate_left
                · intro w hSw; (try dsimp only at hSw); go_simp; (try with_reducible rfl)
                try simp only [Act.put, List.setIfInBounds_toArray, List.set_cons_zero, List.set_cons_succ]
                refine take_d (i := 10) (oi := _) (v := ?_) (d := some 50) rfl (by kernel_rfl) (by as_aux_lemma => kernel_rfl) (by as_aux_lemma => kernel_rfl) (by as_aux_lemma => kernel_rfl) (fun _ _ _ h => h) (Or.inl ⟨by kernel_rfl, ?_⟩) hHeld ?_
                rotate_left
                · intro w hSw; (try dsimp only at hSw); go_simp; (try with_reducible rfl)
                try simp only [Act.put, List.setIfInBounds_toArray, List.set_cons_zero, List.set_cons_succ]
                refine take_d (i := 11) (oi := _) (v := ?_) (d := some 51) rfl (by kernel_rfl) (by as_aux_lemma => kernel_rfl) (by as_aux_lemma => kernel_rfl) (by as_aux_lemma => kernel_rfl) (fun _ _ _ h => h) (Or.inl ⟨by kernel_rfl, ?_⟩) hHeld ?_
                rotate_left
                · intro w hSw; (try dsimp only at hSw); go_simp; (try with_reducible rfl)
                try simp only [Act.put, List.setIfInBounds_toArray, List.set_cons_zero, List.set_cons_succ]
                refine take_d (i := 12) (oi := _) (v := ?_) (d := some 52) rfl (by kernel_rfl) (by as_aux_lemma => kernel_rfl) (by as_aux_lemma => kernel_rfl) (by as_aux_lemma => kernel_rfl) (fun _ _ _ h => h) (Or.inl ⟨by kernel_rfl, ?_⟩) hHeld ?_
                rotate_left
                · intro w hSw; (try dsimp only at hSw); go_simp; (try with_reducible rfl)
                try simp only [Act.put, List.setIfInBounds_toArray, List.set_cons_zero, List.set_cons_succ]
                refine wpAnyH_ready (rs := [13]) (by kernel_rfl) (by simp) ?_
                refine AllReadyH.cons rfl (fun K hK => ?_) AllReadyH.nil
                go_simp
                refine (CN.out _).mono ?_
                rintro e u1 ⟨rfl, hb⟩
                replace bq := (by first | exact Gw.call bq hb | exact Gw.call (Below.drew bq) hb)
                clear hb
                dsimp only
                refine hK.out _ _ (HB.out _ bq) (fun hHeld => ?_)
                clear hK K
                try simp only [Act.put, List.setIfInBounds_toArray, List.set_cons_zero, List.set_cons_succ]
                refine take_d (i := 14) (oi := _) (v := ?_) (d := some 54) rfl (by kernel_rfl) (by as_aux_lemma => kernel_rfl) (by as_aux_lemma => kernel_rfl) (by as_aux_lemma => kernel_rfl) (fun _ _ _ h => h) (Or.inl ⟨by kernel_rfl, ?_⟩) hHeld ?_
                rotate_left
                · intro w hSw; (try dsimp only at hSw); go_simp; (try with_reducible rfl)
                try simp only [Act.put, List.setIfInBounds_toArray, List.set_cons_zero, List.set_cons_succ]
                refine wpAnyH_done (by kernel_rfl) ?_ _
                replace o3 := Own.below o3 bq
                replace hb := Gw.call hb bq
                obtain ⟨c0, c1', c2', k0, k1, k2⟩ := hHeld
                have f8 := fun j => Own.free o3 j
                have p0 := Own.put1 idc_len o3 HO.out (j := 0) (by omega) ⟨a, o8.i, o8.s⟩ (.int .u8 a) rfl
                rw [Nat.add_zero] at p0
                have hal' : a < (repRow row (marks.take k)).length := by rw [hRl.out]; exact hal
                have p1 := Own.put1 idc_len p0 (k := a) (x := ⟨a, o8.i, o8.s⟩) (by simp [hal']) (j := 1) (by omega) ⟨a, ai, o8.s⟩ (.int .u16 ai) rfl
                have p2 := Own.put1 idc_len p1 (k := a) (x := ⟨a, ai, o8.s⟩) (by simp [hal']) (j := 2) (by omega) ⟨a, ai, s⟩ (.int .u32 s) rfl
                simp only [List.set_set] at p2
                clear HB CN p0 p1 bq hal'
                go_wp2_with fail
                go_roundw
                case rel => exact ⟨k + 1, hkl, by go_num, by rw [STP.out, rep_yes HO.out HNW.out]; exact p2, Gw.st (Gw.st (Gw.st hb (p := ⟨g8, a * 3, none⟩) hg8 _) (p := ⟨g8, a * 3 + 1, none⟩) hg8 _) (p := ⟨g8, a * 3 + 2, none⟩) hg8 _⟩
                case measure => simp [intOf]; omega
            · have ta : decide ((a : Int) < (n : Int)) = false := by simp; omega
              have tan : decide (a < n) = false := by simp; omega
              have HO : Hid ((repRow row (marks.take k))[a]? = none) := Lib.hid (List.getElem?_eq_none (by rw [hRl.out]; omega))
              have HB : Hid (∀ W, Below wr.heap.size wr W → (fun W : World => W.cell? ⟨bB, oB + k * 3, none⟩ = some (.int .u8 (a : Int)) ∧ W.cell? ⟨bB, oB + k * 3 + 1, none⟩ = some (.int .u16 ai) ∧ W.cell? ⟨bB, oB + k * 3 + 2, none⟩ = some (.int .u32 s)) W) := Lib.hid fun W hb => ⟨(hb.cell (p := ⟨bB, _, none⟩) hbq).trans d0, (hb.cell (p := ⟨bB, _, none⟩) hbq).trans d1, (hb.cell (p := ⟨bB, _, none⟩) hbq).trans d2⟩
              refine wp_region_held_drew (S := fun W : World => W.cell? ⟨bB, oB + k * 3, none⟩ = some (.int .u8 (a : Int)) ∧ W.cell? ⟨bB, oB + k * 3 + 1, none⟩ = some (.int .u16 ai) ∧ W.cell? ⟨bB, oB + k * 3 + 2, none⟩ = some (.int .u32 s)) (by kernel_rfl) (HB.out _ (Below.drew bq)) (fun hHeld => ?_)
              refine take_d (i := 0) (oi := _) (v := ?_) (d := some 40) rfl (by kernel_rfl) (by as_aux_lemma => kernel_rfl) (by as_aux_lemma => kernel_rfl) (by as_aux_lemma => kernel_rfl) (fun _ _ _ h => h) (Or.inl ⟨by kernel_rfl, ?_⟩) hHeld ?_
              rotate_left
              · intro w hSw; (try dsimp only at hSw); go_simp; (try with_reducible rfl)
              try simp only [Act.put, List.setIfInBounds_toArray, List.set_cons_zero, List.set_cons_succ]
              refine take_d (i := 1) (oi := _) (v := ?_) (d := some 41) rfl (by kernel_rfl) (by as_aux_lemma => kernel_rfl) (by as_aux_lemma => kernel_rfl) (by as_aux_lemma => kernel_rfl) (fun _ _ _ h => h) (Or.inl ⟨by kernel_rfl, ?_⟩) hHeld ?_
              rotate_left
              · intro w hSw; (try dsimp only at hSw); go_simp; (try with_reducible rfl)
              try simp only [Act.put, List.setIfInBounds_toArray, List.set_cons_zero, List.set_cons_succ]
              refine take_d (i := 2) (oi := _) (v := ?_) (d := some 42) rfl (by kernel_rfl) (by as_aux_lemma => kernel_rfl) (by as_aux_lemma => kernel_rfl) (by as_aux_lemma => kernel_rfl) (fun _ _ _ h => h) (Or.inl ⟨by kernel_rfl, ?_⟩) hHeld ?_
              rotate_left
              · intro w hSw; (try dsimp only at hSw); go_simp; (try with_reducible rfl)
              try simp only [Act.put, List.setIfInBounds_toArray, List.set_cons_zero, List.set_cons_succ]
              refine take_d (i := 3) (oi := _) (v := .bool false) (d := some 43) rfl (by kernel_rfl) (by as_aux_lemma => kernel_rfl) (by as_aux_lemma => kernel_rfl) (by as_aux_lemma => kernel_rfl) (fun _ _ _ h => h) (Or.inl ⟨by kernel_rfl, ?_⟩) hHeld ?_
              · intro W hSw
                go_simp; first | done | simp only [ta] | simp only [tan] | simp only [wa] | simp [ta, tan, wa]
              try simp only [Act.put, List.setIfInBounds_toArray, List.set_cons_zero, List.set_cons_succ]
              refine take_d (i := 4) (oi := _) (v := ?_) (d := some 44) rfl (by kernel_rfl) (by as_aux_lemma => kernel_rfl) (by as_aux_lemma => kernel_rfl) (by as_aux_lemma => kernel_rfl) (fun _ _ _ h => h) (Or.inl ⟨by kernel_rfl, ?_⟩) hHeld ?_
              rotate_left
              · intro w hSw; (try dsimp only at hSw); go_simp; (try with_reducible rfl)
              try simp only [Act.put, List.setIfInBounds_toArray, List.set_cons_zero, List.set_cons_succ]
              refine take_d (i := 5) (oi := _) (v := undef) (d := some 45) rfl (by kernel_rfl) (by as_aux_lemma => kernel_rfl) (by as_aux_lemma => kernel_rfl) (by as_aux_lemma => kernel_rfl) (fun _ _ _ h => h) (Or.inr ⟨by kernel_rfl, rfl⟩) hHeld ?_
              try simp only [Act.put, List.setIfInBounds_toArray, List.set_cons_zero, List.set_cons_succ]
              refine take_d (i := 6) (oi := _) (v := undef) (d := some 46) rfl (by kernel_rfl) (by as_aux_lemma => kernel_rfl) (by as_aux_lemma => kernel_rfl) (by as_aux_lemma => kernel_rfl) (fun _ _ _ h => h) (Or.inr ⟨by kernel_rfl, rfl⟩) hHeld ?_
              try simp only [Act.put, List.setIfInBounds_toArray, List.set_cons_zero, List.set_cons_succ]
              refine take_d (i := 7) (oi := _) (v := undef) (d := some 47) rfl (by kernel_rfl) (by as_aux_lemma => kernel_rfl) (by as_aux_lemma => kernel_rfl) (by as_aux_lemma => kernel_rfl) (fun _ _ _ h => h) (Or.inr ⟨by kernel_rfl, rfl⟩) hHeld ?_
              try simp only [Act.put, List.setIfInBounds_toArray, List.set_cons_zero, List.set_cons_succ]
              refine take_d (i := 8) (oi := _) (v := undef) (d := some 48) rfl (by kernel_rfl) (by as_aux_lemma => kernel_rfl) (by as_aux_lemma => kernel_rfl) (by as_aux_lemma => kernel_rfl) (fun _ _ _ h => h) (Or.inr ⟨by kernel_rfl, rfl⟩) hHeld ?_
              try simp only [Act.put, List.setIfInBounds_toArray, List.set_cons_zero, List.set_cons_succ]
              refine take_d (i := 9) (oi := _) (v := undef) (d := some 49) rfl (by kernel_rfl) (by as_aux_lemma => kernel_rfl) (by as_aux_lemma => kernel_rfl) (by as_aux_lemma => kernel_rfl) (fun _ _ _ h => h) (Or.inr ⟨by kernel_rfl, rfl⟩) hHeld ?_
              try simp only [Act.put, List.setIfInBounds_toArray, List.set_cons_zero, List.set_cons_succ]
              refine take_d (i := 10) (oi := _) (v := undef) (d := some 50) rfl (by kernel_rfl) (by as_aux_lemma => kernel_rfl) (by as_aux_lemma => kernel_rfl) (by as_aux_lemma => kernel_rfl) (fun _ _ _ h => h) (Or.inr ⟨by kernel_rfl, rfl⟩) hHeld ?_
              try simp only [Act.put, List.setIfInBounds_toArray, List.set_cons_zero, List.set_cons_succ]
              refine take_d (i := 11) (oi := _) (v := undef) (d := some 51) rfl (by kernel_rfl) (by as_aux_lemma => kernel_rfl) (by as_aux_lemma => kernel_rfl) (by as_aux_lemma => kernel_rfl) (fun _ _ _ h => h) (Or.inr ⟨by kernel_rfl, rfl⟩) hHeld ?_
              try simp only [Act.put, List.setIfInBounds_toArray, List.set_cons_zero, List.set_cons_succ]
              refine take_d (i := 12) (oi := _) (v := undef) (d := some 52) rfl (by kernel_rfl) (by as_aux_lemma => kernel_rfl) (by as_aux_lemma => kernel_rfl) (by as_aux_lemma => kernel_rfl) (fun _ _ _ h => h) (Or.inr ⟨by kernel_rfl, rfl⟩) hHeld ?_
              try simp only [Act.put, List.setIfInBounds_toArray, List.set_cons_zero, List.set_cons_succ]
              refine take_d (i := 13) (oi := _) (v := undef) (d := some 53) rfl (by kernel_rfl) (by as_aux_lemma => kernel_rfl) (by as_aux_lemma => kernel_rfl) (by as_aux_lemma => kernel_rfl) (fun _ _ _ h => h) (Or.inr ⟨by kernel_rfl, rfl⟩) hHeld ?_
              try simp only [Act.put, List.setIfInBounds_toArray, List.set_cons_zero, List.set_cons_succ]
              refine take_d (i := 14) (oi := _) (v := ?_) (d := some 54) rfl (by kernel_rfl) (by as_aux_lemma => kernel_rfl) (by as_aux_lemma => kernel_rfl) (by as_aux_lemma => kernel_rfl) (fun _ _ _ h => h) (Or.inl ⟨by kernel_rfl, ?_⟩) hHeld ?_
              rotate_left
              · intro w hSw; (try dsimp only at hSw); go_simp; (try with_reducible rfl)
              try simp only [Act.put, List.setIfInBounds_toArray, List.set_cons_zero, List.set_cons_succ]
              refine wpAnyH_done (by kernel_rfl) ?_ _
              replace o3 := Own.below o3 (Below.drew bq)
              replace hb := Gw.call hb (Below.drew bq)
              clear HB hHeld bq
              go_wp2_with fail
              go_roundw
              case rel => exact ⟨k + 1, hkl, by go_num, by rw [STP.out, rep_out HO.out]; exact o3, hb⟩
              case measure => simp [intOf]; omega
          · obtain rfl : k = marks.length := by omega
            rw [List.take_length, ← HQ3.out] at o3
            have hf : Hid (∀ y ∈ rs, Apart y.v (RsV.v ⟨A3, q, c3⟩)) := Lib.hid fun y hy => Apart.symm (by
              rw [EV.out _ _ _ HQL.out]; exact Apart.newer (rx.row y hy) o3)
            have ox : Own idc 3 40 w.heap.size wr (RsV.v ⟨A3, q, c3⟩) q := by
              rw [EV.out _ _ _ HQL.out]; exact o3.base_le bl.size
            have rx2 := rx.keep hb
            have b2 := Gw.call bl hb
            clear hb bl rx o3 rr
            have LT : Rd rsc 1 (wr.alloc (.cells #[.slice A3 n c3] 29)).heap.size (wr.alloc (.cells #[.slice A3 n c3] 29)) (some ⟨wr.heap.size, 0, none⟩) [(⟨A3, q, c3⟩ : RsV)] := by
              rw [World.size_alloc]; exact Rd.lit rsc_len wr _ rfl _ _ _ (by simp [rsc, HQL.out])
            have b3 := Gw.al b2 (.cells #[.slice A3 n c3] 29)
            have rx3 := rx2.keep (Below.alloc (Below.refl _ _) (Nat.le_refl _) (.cells #[.slice A3 n c3] 29))
            have ox3 := ox.alloc (.cells #[.slice A3 n c3] 29)
            clear rx2 ox b2
            go_wp2_with (first | (at_builtin; refine wpList_app _ rfl _ _ 35 rfl w.heap.size 29 i0 _ 24 Try.underlying35 hi0 hz0 hz1 hz2 rfl (by omega) rsc_len rsc_one (.slice A1 i c1) rs rfl rx3.out i HIL.out _ _ 1 1 [(⟨A3, q, c3⟩ : RsV)] rfl rfl LT (by omega) (by omega) b3.size ?_; intro A4 c4 w4 o4 hg) | fail)
            have rx4 := rx3.snoc hg o4 ox3 hf.out
            have b4 := Gw.gr b3 hg rx3.out.lt
            go_roundw
            case rel => exact ⟨i + 1, A4, c4, hlt, by go_num, rfl, ⟨_, by rw [List.map_append, HRS.out, SN.out]; rfl, rx4⟩, b4⟩
            case measure => simp [intOf]; omega
      · have z1 : ((i : Int) == (m : Int)) = false := by rw [beq_eq_false_iff_ne]; omega
        have HQ3 := HQ2.out him
        rw [← HQ3] at o3
        clear him HQ3
        have hf : Hid (∀ y ∈ rs, Apart y.v (RsV.v ⟨A3, q, c3⟩)) := Lib.hid fun y hy => Apart.symm (by
          rw [EV.out _ _ _ HQL.out]; exact Apart.newer (rx.row y hy) o3)
        have ox : Own idc 3 40 w.heap.size w3 (RsV.v ⟨A3, q, c3⟩) q := by
          rw [EV.out _ _ _ HQL.out]; exact o3.base_le bl.size
        have rx2 := rx.keep hb
        have b2 := Gw.call bl hb
        clear hb bl rx o3 rr
        have LT : Rd rsc 1 (w3.alloc (.cells #[.slice A3 n c3] 29)).heap.size (w3.alloc (.cells #[.slice A3 n c3] 29)) (some ⟨w3.heap.size, 0, none⟩) [(⟨A3, q, c3⟩ : RsV)] := by
          rw [World.size_alloc]; exact Rd.lit rsc_len w3 _ rfl _ _ _ (by simp [rsc, HQL.out])
        have b3 := Gw.al b2 (.cells #[.slice A3 n c3] 29)
        have rx3 := rx2.keep (Below.alloc (Below.refl _ _) (Nat.le_refl _) (.cells #[.slice A3 n c3] 29))
        have ox3 := ox.alloc (.cells #[.slice A3 n c3] 29)
        clear rx2 ox b2
        go_wp2_with (first | (at_builtin; refine wpList_app _ rfl _ _ 35 rfl w.heap.size 29 i0 _ 24 Try.underlying35 hi0 hz0 hz1 hz2 rfl (by omega) rsc_len rsc_one (.slice A1 i c1) rs rfl rx3.out i HIL.out _ _ 1 1 [(⟨A3, q, c3⟩ : RsV)] rfl rfl LT (by omega) (by omega) b3.size ?_; intro A4 c4 w4 o4 hg) | fail)
        have rx4 := rx3.snoc hg o4 ox3 hf.out
        have b4 := Gw.gr b3 hg rx3.out.lt
        go_roundw
        case rel => exact ⟨i + 1, A4, c4, hlt, by go_num, rfl, ⟨_, by rw [List.map_append, HRS.out, SN.out]; rfl, rx4⟩, b4⟩
        case measure => simp [intOf]; omega
    · obtain rfl : i = n := by omega
      rw [List.take_of_length_le (Nat.le_of_eq HRL.out)] at hrs
      go_wp2_with fail
      go_ret
      exact ⟨A1, c1, rfl, ⟨rs, hrs, rx⟩, bl⟩
end Go.Proofs.Ytcclnfpegepcnaa
