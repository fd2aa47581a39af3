/-
  The document's own New, Forget, Of, Passed and Newer (19).
-/
import Derived.Test.YtcclnfpegepcnaaLaw19C
namespace Go.Proofs.Ytcclnfpegepcnaa
open Go.RowKit
theorem blank_snoc (q : Nat) : blank (q + 1) = blank q ++ [⟨(q : Int), 0, 0⟩] := by unfold blank; rw [List.range_succ, List.map_append]; rfl
theorem blank_zero : blank 0 = [] := rfl
set_option maxRecDepth 100000 in
set_option maxHeartbeats 4000000 in
theorem refnew_any (n : Nat) (w : World) (h2 : n ≤ 256) :
    Calls Try.prog 18 #[.int .i64 n] w fun e w' => ∃ A' c', e = .returned (.slice A' n c') ∧ RepO w.heap.size w' (.slice A' n c') (List.replicate n (blank n)) ∧ Below w.heap.size w w' := by
  obtain ⟨i0, hi0, hz0, hz1, hz2⟩ := info_parts Try.infoMkS
  obtain ⟨i1, hi1, hy0, hy1, hy2⟩ := info_parts Try.infoMk
  have t0 : decide ((256 : Int) < (n : Int)) = false := by simp; omega
  have t0n : decide (256 < n) = false := by simp; omega
  go_enter Try.func18, Try.ntmps18
  go_wp2_with fail
  go_loopw [3, 4] (fun t i wr => ∃ (k : Nat) (A : Option Addr) (c : Nat), k ≤ n ∧ i = .int .i64 k ∧ t = .slice A k c ∧ RepO w.heap.size wr (.slice A k c) (List.replicate k (blank n)) ∧ Below w.heap.size w wr) (fun _ i _ => n - (intOf i).toNat)
  case atStart => exact ⟨0, none, 0, Nat.zero_le _, rfl, rfl, RepO.nil_, Below.refl _ _⟩
  case round =>
    obtain ⟨k, A, c, hk, rfl, rfl, ⟨rs, hrs, rx⟩, bl⟩ := hrel
    have hkl : k = rs.length := by have := rep_len hrs; simpa using this
    by_cases hlt : k < n
    · have ki : (k : Int) < (n : Int) := by omega
      have HKL := Lib.hid hkl
      clear hkl
      obtain ⟨W0, hW0⟩ : ∃ W0 : World, W0 = wr := ⟨wr, rfl⟩
      subst hW0
      go_wp2_with fail
      go_loopw [5, 6] (fun r j wr => ∃ (q : Nat) (A2 : Option Addr) (c2 : Nat), q ≤ n ∧ j = .int .i64 q ∧ r = .slice A2 q c2 ∧ Own idc 3 40 W0.heap.size wr (.slice A2 q c2) (blank q) ∧ Below W0.heap.size W0 wr) (fun _ j _ => n - (intOf j).toNat)
      case atStart => exact ⟨0, none, 0, Nat.zero_le _, rfl, rfl, by rw [blank_zero]; exact Own.nil_, Below.refl _ _⟩
      case round =>
        obtain ⟨q, A2, c2, hq, rfl, rfl, o2, hb⟩ := hrel
        by_cases hqn : q < n
        · have qi : (q : Int) < (n : Int) := by omega
          have wq : IntKind.u8.wrap (q : Int) = (q : Int) := IntWalk.u8_in _ (by omega)
          have LT : Rd idc 3 (wr.alloc (.cells #[.int .u8 (q : Int), .int .u16 0, .int .u32 0] 40)).heap.size (wr.alloc (.cells #[.int .u8 (q : Int), .int .u16 0, .int .u32 0] 40)) (some ⟨wr.heap.size, 0, none⟩) [(⟨(q : Int), 0, 0⟩ : Id)] := by
            rw [World.size_alloc]; exact Rd.lit idc_len wr _ rfl _ _ _ rfl
          have b3 := Gw.al hb (.cells #[.int .u8 (q : Int), .int .u16 0, .int .u32 0] 40)
          have o3 := o2.alloc (.cells #[.int .u8 (q : Int), .int .u16 0, .int .u32 0] 40)
          clear o2 hb
          go_wp2_with (first | (at_builtin; refine wpList_app _ rfl _ _ 29 rfl W0.heap.size 40 i1 _ 8 Try.underlying29 hi1 hy0 hy1 hy2 rfl (by omega) idc_len idc_one (.slice A2 q c2) (blank q) rfl o3 q (blank_len q).symm _ _ 1 1 [(⟨(q : Int), 0, 0⟩ : Id)] rfl rfl LT (by omega) (by omega) b3.size ?_; intro A4 c4 w4 o4 hg) | fail)
          have b4 := Gw.gr b3 hg o3.lt
          go_roundw
          case rel => exact ⟨q + 1, A4, c4, hqn, by go_num, rfl, by rw [blank_snoc]; exact o4, b4⟩
          case measure => simp [intOf]; omega
        · obtain rfl : q = n := by omega
          have hf : Hid (∀ y ∈ rs, Apart y.v (RsV.v ⟨A2, blank q, c2⟩)) := Lib.hid fun y hy => Apart.symm (by
            have := Apart.newer (rx.row y hy) o2
            show Apart (.slice A2 (blank q).length c2) _
            rw [blank_len]; exact this)
          have ox : Own idc 3 40 w.heap.size wr (RsV.v ⟨A2, blank q, c2⟩) (blank q) := by
            show Own idc 3 _ _ _ (.slice A2 (blank q).length c2) _
            rw [blank_len]; exact o2.base_le bl.size
          have rx2 := rx.keep hb
          have b2 := Gw.call bl hb
          clear hb bl rx o2
          have LT : Rd rsc 1 (wr.alloc (.cells #[.slice A2 q c2] 29)).heap.size (wr.alloc (.cells #[.slice A2 q c2] 29)) (some ⟨wr.heap.size, 0, none⟩) [(⟨A2, blank q, c2⟩ : RsV)] := by
            rw [World.size_alloc]; exact Rd.lit rsc_len wr _ rfl _ _ _ (by simp [rsc, blank_len])
          have b3 := Gw.al b2 (.cells #[.slice A2 q c2] 29)
          have rx3 := rx2.keep (Below.alloc (Below.refl _ _) (Nat.le_refl _) (.cells #[.slice A2 q c2] 29))
          have ox3 := ox.alloc (.cells #[.slice A2 q c2] 29)
          clear rx2 ox b2
          go_wp2_with (first | (at_builtin; refine wpList_app _ rfl _ _ 35 rfl w.heap.size 29 i0 _ 24 Try.underlying35 hi0 hz0 hz1 hz2 rfl (by omega) rsc_len rsc_one (.slice A k c) rs rfl rx3.out k HKL.out _ _ 1 1 [(⟨A2, blank q, c2⟩ : RsV)] rfl rfl LT (by omega) (by omega) b3.size ?_; intro A4 c4 w4 o4 hg) | fail)
          have rx4 := rx3.snoc hg o4 ox3 hf.out
          have b4 := Gw.gr b3 hg rx3.out.lt
          go_roundw
          case rel => exact ⟨k + 1, A4, c4, hlt, by go_num, rfl, ⟨_, by rw [List.map_append, hrs]; simp [List.replicate_succ'], rx4⟩, b4⟩
          case measure => simp [intOf]; omega
    · obtain rfl : k = n := by omega
      go_wp2_with fail
      go_ret
      exact ⟨A, c, rfl, ⟨rs, hrs, rx⟩, bl⟩
set_option maxHeartbeats 400000 in
theorem refnew_none (n : Int) (w : World) (h : n ≤ 0) :
    Calls Try.prog 18 #[.int .i64 n] w fun e w' => e = .returned (.slice none 0 0) ∧ Below w.heap.size w w' := by
  have t0 : decide ((256 : Int) < n) = false := by simp; omega
  have t1 : decide (0 < n) = false := by simp; omega
  go_enter Try.func18, Try.ntmps18
  go_wp2_with fail
  go_loopw [3, 4] (fun t i wr => i = .int .i64 0 ∧ t = .slice none 0 0 ∧ Below w.heap.size w wr) (fun _ _ _ => 0)
  case atStart => exact ⟨rfl, rfl, Below.refl _ _⟩
  case round =>
    obtain ⟨rfl, rfl, bl⟩ := hrel
    go_wp2_with fail
    go_ret
    exact ⟨rfl, bl⟩
theorem forget_row {rows : List (List Id)} {m n i : Nat} {row : List Id} (hln : rows.length = n) (hi : rows[i]? = some row) (hrl : row.length = n) : ∃ q, (forgetL rows m)[i]? = some q ∧ q.length = n ∧ (i = m → q = blank n) ∧ (¬i = m → q = row) := by
  have hil := (List.getElem?_eq_some_iff.1 hi).1
  unfold forgetL
  by_cases h : i = m
  · subst h
    rw [if_pos hil, List.getElem?_set_self hil, hln]
    exact ⟨_, rfl, blank_len n, fun _ => rfl, fun h => absurd rfl h⟩
  · split
    · rw [List.getElem?_set_ne (fun e => h e.symm)]
      exact ⟨row, hi, hrl, fun e => absurd e h, fun _ => rfl⟩
    · exact ⟨row, hi, hrl, fun e => absurd e h, fun _ => rfl⟩
theorem take_snoc {α : Type} {l : List α} {k : Nat} {x : α} (h : l[k]? = some x) : l.take (k + 1) = l.take k ++ [x] := by rw [List.take_add_one, h]; rfl
set_option maxRecDepth 100000 in
set_option maxHeartbeats 4000000 in
theorem refforget_any (rows : List (List Id)) (A : Option Addr) (ca n : Nat) (mem : Int) (w : World) (hln : rows.length = n) (hr : Rep w.heap.size w A rows) (hn : n ≤ 256) (hl : ∀ r ∈ rows, r.length = n) (hm : 0 ≤ mem ∧ mem ≤ 255) :
    Calls Try.prog 20 #[.slice A n ca, .int .u8 mem] w fun e w' => ∃ A' c', e = .returned (.slice A' n c') ∧ RepO w.heap.size w' (.slice A' n c') (forgetL rows mem.toNat) ∧ Below w.heap.size w w' := by
  obtain ⟨i0, hi0, hz0, hz1, hz2⟩ := info_parts Try.infoMkS
  obtain ⟨i1, hi1, hy0, hy1, hy2⟩ := info_parts Try.infoMk
  have HLN := Lib.hid hln
  have HL := Lib.hid hl
  obtain ⟨m, rfl⟩ := Int.eq_ofNat_of_zero_le hm.1
  simp only [Int.toNat_natCast]
  have wm : IntKind.i64.wrap (m : Int) = (m : Int) := IntWalk.i64_in _ (by omega)
  clear hln hl
  have HFR := Lib.hid (fun (i : Nat) (row : List Id) (h : rows[i]? = some row) => forget_row (m := m) HLN.out h (HL.out row (List.mem_of_getElem? h)))
  have HRL : Hid ((forgetL rows m).length = n) := Lib.hid (by unfold forgetL; split <;> simp [HLN.out])
  obtain ⟨R, hR⟩ : ∃ R, R = forgetL rows m := ⟨_, rfl⟩
  rw [← hR] at HFR HRL ⊢
  clear hR
  go_enter Try.func20, Try.ntmps20
  go_wp2_with fail
  go_loopw [5, 6] (fun t iv wr => ∃ (i : Nat) (A1 : Option Addr) (c1 : Nat), i ≤ n ∧ iv = .int .i64 i ∧ t = .slice A1 i c1 ∧ RepO w.heap.size wr (.slice A1 i c1) (R.take i) ∧ Below w.heap.size w wr) (fun _ iv _ => n - (intOf iv).toNat)
  case atStart => exact ⟨0, none, 0, Nat.zero_le _, rfl, rfl, RepO.nil_, Below.refl _ _⟩
  case round =>
    obtain ⟨i, A1, c1, hi, rfl, rfl, ⟨rs, hrs, rx⟩, bl⟩ := hrel
    by_cases hlt : i < n
    · have ii : (i : Int) < (n : Int) := by omega
      have hil : i = rs.length := by have := rep_len hrs; rw [List.length_take, HRL.out] at this; omega
      have HIL := Lib.hid hil
      have HRS := Lib.hid hrs
      clear hil hrs
      obtain ⟨row, hrow⟩ : ∃ row, rows[i]? = some row := ⟨_, List.getElem?_eq_getElem (by rw [HLN.out]; exact hlt)⟩
      have hrl : row.length = n := HL.out row (List.mem_of_getElem? hrow)
      obtain ⟨q, hq, hql, hq1, hq2⟩ := HFR.out i row hrow
      have HQ := Lib.hid hq
      have HQL := Lib.hid hql
      have HQ1 := Lib.hid hq1
      have HQ2 := Lib.hid hq2
      obtain ⟨W0, hW0⟩ : ∃ W0 : World, W0 = wr := ⟨wr, rfl⟩
      subst hW0
      obtain ⟨b, o, A2, c2, rfl, hbw, hc, rr⟩ := (hr.below bl).at_ hrow
      rw [hrl] at hc
      have HRW := Lib.hid hrl
      have HC := Lib.hid hc
      clear hrow hrl hq hql hq1 hq2 hc
      go_wp2_with fail
      go_loopw [7, 8] (fun r kv wr => ∃ (k : Nat) (A3 : Option Addr) (c3 : Nat), k ≤ n ∧ kv = .int .i64 k ∧ r = .slice A3 k c3 ∧ Own idc 3 40 W0.heap.size wr (.slice A3 k c3) (q.take k) ∧ Below W0.heap.size W0 wr) (fun _ kv _ => n - (intOf kv).toNat)
      case atStart => exact ⟨0, none, 0, Nat.zero_le _, rfl, rfl, Own.nil_, Below.refl _ _⟩
      case round =>
        obtain ⟨k, A3, c3, hk, rfl, rfl, o3, hb⟩ := hrel
        have hc : wr.cell? ⟨b, o + i, none⟩ = some (.slice A2 n c2) := (hb.cell (p := ⟨b, o + i, none⟩) (Nat.lt_of_lt_of_le hbw bl.size)).trans HC.out
        by_cases hkn : k < n
        · have kn : (k : Int) < (n : Int) := by omega
          have wk : IntKind.u8.wrap (k : Int) = (k : Int) := IntWalk.u8_in _ (by omega)
          obtain ⟨x, hx⟩ : ∃ x, row[k]? = some x := ⟨_, List.getElem?_eq_getElem (by rw [HRW.out]; exact hkn)⟩
          obtain ⟨b1, o1, rfl, hb1, f0, f1, f2⟩ := (rr.below (hb.mono bl.size)).id3 hx
          have HX := Lib.hid hx
          clear hx
          have hqt : k = (q.take k).length := by rw [List.length_take, HQL.out]; omega
          have HQT := Lib.hid hqt
          clear hqt
          by_cases him : i = m
          · have z1 : ((i : Int) == (m : Int)) = true := by rw [beq_iff_eq]; omega
            have SN : Hid (q.take (k + 1) = q.take k ++ [⟨(k : Int), 0, 0⟩]) := Lib.hid (take_snoc (by rw [HQ1.out him]; exact blank_at hkn))
            clear him
            have LT : Rd idc 3 ((wr.alloc (.cells #[.int .u8 (k : Int), .int .u16 0, .int .u32 0] 40)).alloc (.cells #[.int .u8 (k : Int), .int .u16 0, .int .u32 0] 40)).heap.size ((wr.alloc (.cells #[.int .u8 (k : Int), .int .u16 0, .int .u32 0] 40)).alloc (.cells #[.int .u8 (k : Int), .int .u16 0, .int .u32 0] 40)) (some ⟨wr.heap.size + 1, 0, none⟩) [(⟨(k : Int), 0, 0⟩ : Id)] := by
              rw [World.size_alloc]; exact Rd.lit idc_len _ _ (by rw [World.size_alloc]) _ _ _ rfl
            have b3 := Gw.al (Gw.al hb (.cells #[.int .u8 (k : Int), .int .u16 0, .int .u32 0] 40)) (.cells #[.int .u8 (k : Int), .int .u16 0, .int .u32 0] 40)
            have o4 := (o3.alloc (.cells #[.int .u8 (k : Int), .int .u16 0, .int .u32 0] 40)).alloc (.cells #[.int .u8 (k : Int), .int .u16 0, .int .u32 0] 40)
            go_wp2_with (first | (at_builtin; refine wpList_app _ rfl _ _ 29 rfl W0.heap.size 40 i1 _ 8 Try.underlying29 hi1 hy0 hy1 hy2 rfl (by omega) idc_len idc_one (.slice A3 k c3) (q.take k) rfl o4 k HQT.out _ _ 1 1 [(⟨(k : Int), 0, 0⟩ : Id)] rfl rfl LT (by omega) (by omega) b3.size ?_; intro A5 c5 w5 o5 hg) | fail)
            have b5 := Gw.gr b3 hg o4.lt
            go_roundw
            case rel => exact ⟨k + 1, A5, c5, hkn, by go_num, rfl, by rw [SN.out]; exact o5, b5⟩
            case measure => simp [intOf]; omega
          · have z1 : ((i : Int) == (m : Int)) = false := by rw [beq_eq_false_iff_ne]; omega
            have SN : Hid (q.take (k + 1) = q.take k ++ [x]) := Lib.hid (take_snoc (by rw [HQ2.out him]; exact HX.out))
            clear him
            have LT : Rd idc 3 ((wr.alloc (.cells #[.int .u8 x.n, .int .u16 x.i, .int .u32 x.s] 40)).alloc (.cells #[.int .u8 x.n, .int .u16 x.i, .int .u32 x.s] 40)).heap.size ((wr.alloc (.cells #[.int .u8 x.n, .int .u16 x.i, .int .u32 x.s] 40)).alloc (.cells #[.int .u8 x.n, .int .u16 x.i, .int .u32 x.s] 40)) (some ⟨wr.heap.size + 1, 0, none⟩) [x] := by
              rw [World.size_alloc]; exact Rd.lit idc_len _ _ (by rw [World.size_alloc]) _ _ _ rfl
            have b3 := Gw.al (Gw.al hb (.cells #[.int .u8 x.n, .int .u16 x.i, .int .u32 x.s] 40)) (.cells #[.int .u8 x.n, .int .u16 x.i, .int .u32 x.s] 40)
            have o4 := (o3.alloc (.cells #[.int .u8 x.n, .int .u16 x.i, .int .u32 x.s] 40)).alloc (.cells #[.int .u8 x.n, .int .u16 x.i, .int .u32 x.s] 40)
            go_wp2_with (first | (at_builtin; refine wpList_app _ rfl _ _ 29 rfl W0.heap.size 40 i1 _ 8 Try.underlying29 hi1 hy0 hy1 hy2 rfl (by omega) idc_len idc_one (.slice A3 k c3) (q.take k) rfl o4 k HQT.out _ _ 1 1 [x] rfl rfl LT (by omega) (by omega) b3.size ?_; intro A5 c5 w5 o5 hg) | fail)
            have b5 := Gw.gr b3 hg o4.lt
            go_roundw
            case rel => exact ⟨k + 1, A5, c5, hkn, by go_num, rfl, by rw [SN.out]; exact o5, b5⟩
            case measure => simp [intOf]; omega
        · obtain rfl : k = n := by omega
          have hqk : q.take k = q := List.take_of_length_le (Nat.le_of_eq HQL.out)
          rw [hqk] at o3
          clear hqk
          have ev : RsV.v ⟨A3, q, c3⟩ = .slice A3 k c3 := by show Value.slice A3 q.length c3 = _; rw [HQL.out]
          have hf : Hid (∀ y ∈ rs, Apart y.v (RsV.v ⟨A3, q, c3⟩)) := Lib.hid fun y hy => Apart.symm (by
            rw [ev]; exact Apart.newer (rx.row y hy) o3)
          have ox : Own idc 3 40 w.heap.size wr (RsV.v ⟨A3, q, c3⟩) q := by
            rw [ev]; exact o3.base_le bl.size
          have rx2 := rx.keep hb
          have b2 := Gw.call bl hb
          clear hb bl rx o3 rr
          have LT : Rd rsc 1 (wr.alloc (.cells #[.slice A3 k c3] 29)).heap.size (wr.alloc (.cells #[.slice A3 k c3] 29)) (some ⟨wr.heap.size, 0, none⟩) [(⟨A3, q, c3⟩ : RsV)] := by
            rw [World.size_alloc]; exact Rd.lit rsc_len wr _ rfl _ _ _ (by simp [rsc, HQL.out])
          have b3 := Gw.al b2 (.cells #[.slice A3 k c3] 29)
          have rx3 := rx2.keep (Below.alloc (Below.refl _ _) (Nat.le_refl _) (.cells #[.slice A3 k c3] 29))
          have ox3 := ox.alloc (.cells #[.slice A3 k c3] 29)
          have SN : Hid (R.take (i + 1) = R.take i ++ [q]) := Lib.hid (take_snoc HQ.out)
          clear rx2 ox b2 ev
          go_wp2_with (first | (at_builtin; refine wpList_app _ rfl _ _ 35 rfl w.heap.size 29 i0 _ 24 Try.underlying35 hi0 hz0 hz1 hz2 rfl (by omega) rsc_len rsc_one (.slice A1 i c1) rs rfl rx3.out i HIL.out _ _ 1 1 [(⟨A3, q, c3⟩ : RsV)] rfl rfl LT (by omega) (by omega) b3.size ?_; intro A4 c4 w4 o4 hg) | fail)
          have rx4 := rx3.snoc hg o4 ox3 hf.out
          have b4 := Gw.gr b3 hg rx3.out.lt
          go_roundw
          case rel => exact ⟨i + 1, A4, c4, hlt, by go_num, rfl, ⟨_, by rw [List.map_append, HRS.out, SN.out]; rfl, rx4⟩, b4⟩
          case measure => simp [intOf]; omega
    · obtain rfl : i = n := by omega
      rw [List.take_of_length_le (Nat.le_of_eq HRL.out)] at hrs
      go_wp2_with fail
      go_ret
      exact ⟨A1, c1, rfl, ⟨rs, hrs, rx⟩, bl⟩
end Go.Proofs.Ytcclnfpegepcnaa
