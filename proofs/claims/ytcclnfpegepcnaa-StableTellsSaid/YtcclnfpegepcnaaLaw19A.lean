/-
  StableApart (19).
-/
import Derived.Test.YtcclnfpegepcnaaAwake19
import Derived.Test.YtcclnfpegepcnaaFrame
namespace Go.Proofs.Ytcclnfpegepcnaa
open Go.RowKit
/-- one cell of one mark of a row is put -/
theorem RepX.cell1 {base : Nat} {W : World} {v : Value} {rs : List RsV} {g k j f : Nat} {x : RsV} {o m : Id} {u : Value} (h : RepX base W v rs) (hk : rs[k]? = some x) (hA : x.A = some ⟨g, 0, none⟩) (hj : x.l[j]? = some o) (hf : f < 3) (he : idc m = (idc o).set f u) :
    RepX base (W.setCell ⟨g, j * 3 + f, none⟩ u) v (rs.set k ⟨x.A, x.l.set j m, x.c⟩) := by
  obtain ⟨A, l, c⟩ := x
  simp only at hA hj
  subst hA
  have hx : Own idc 3 40 base W (.slice (some ⟨g, 0, none⟩) l.length c) l := h.row _ (List.mem_of_getElem? hk)
  have p2 := Own.put1 idc_len hx hj (j := f) hf m u he
  have hout : ∀ b, v.ownBlock = some b → b ≠ g := fun b hv e => own_unlike h.out hx (by decide) b hv (by rw [e]; rfl)
  have ho := Own.far h.out (p := ⟨g, j * 3 + f, none⟩) hout u
  have hset : (rs.set k ⟨some ⟨g, 0, none⟩, l.set j m, c⟩).flatMap rsc = rs.flatMap rsc := by
    rw [flat_set rsc_len rs k _ ⟨some ⟨g, 0, none⟩, l.set j m, c⟩ 0 (.slice (some ⟨g, 0, none⟩) l.length c) hk (by omega) (by simp [rsc])]
    have := flat_at rsc_len rs k _ hk 0 (by omega)
    simp only [rsc, List.getElem?_cons_zero] at this
    refine List.ext_getElem? fun i => ?_
    by_cases hi : k * 1 + 0 = i
    · subst hi
      rw [List.getElem?_set_self (List.getElem?_eq_some_iff.1 this).1]
      exact this.symm
    · rw [List.getElem?_set_ne hi]
  refine ⟨?_, fun y hy => ?_, ?_⟩
  · unfold Own at ho ⊢
    rw [List.length_set, hset]
    exact ho
  · obtain ⟨i, hi, he2⟩ := List.getElem_of_mem hy
    simp only [List.length_set] at hi
    rw [List.getElem_set] at he2
    split at he2
    · rw [← he2]
      show Own idc 3 _ base _ (.slice (some ⟨g, 0, none⟩) (l.set j m).length c) (l.set j m)
      rw [List.length_set]
      exact p2
    · rename_i hik
      have hap : ∀ b, y.v.ownBlock = some b → b ≠ g := fun b hv e => by
        have hp := List.pairwise_iff_getElem.1 h.far
        obtain ⟨hkl', hke⟩ := List.getElem?_eq_some_iff.1 hk
        rcases Nat.lt_or_ge k i with h1 | h1
        · have := hp k i hkl' hi h1
          rw [hke, he2] at this
          exact this g rfl (by rw [hv, e])
        · have := hp i k hi hkl' (by omega)
          rw [hke, he2] at this
          exact this b hv (by rw [e]; rfl)
      exact Own.far (h.row y (by rw [← he2]; exact List.getElem_mem _)) (p := ⟨g, j * 3 + f, none⟩) hap _
  · rw [List.pairwise_iff_getElem]
    intro a b ha hb' hab
    obtain ⟨hkl', hke⟩ := List.getElem?_eq_some_iff.1 hk
    have hp := (List.pairwise_iff_getElem.1 h.far) a b (by simpa using ha) (by simpa using hb') hab
    rw [List.getElem_set, List.getElem_set]
    have e1 : ∀ y : Value, Apart (RsV.v ⟨some ⟨g, 0, none⟩, l.set j m, c⟩) y ↔ Apart (RsV.v ⟨some ⟨g, 0, none⟩, l, c⟩) y := fun y => Iff.rfl
    have e2 : ∀ y : Value, Apart y (RsV.v ⟨some ⟨g, 0, none⟩, l.set j m, c⟩) ↔ Apart y (RsV.v ⟨some ⟨g, 0, none⟩, l, c⟩) := fun y => Iff.rfl
    split
    · rename_i hka
      subst hka
      rw [hke] at hp
      split
      · omega
      · exact (e1 _).2 hp
    · split
      · rename_i hkb
        subst hkb
        rw [hke] at hp
        exact (e2 _).2 hp
      · exact hp
theorem rep_rows {rows : List (List Id)} {m : Nat} {marks : List Id} {L : Nat} (h : ∀ r ∈ rows, r.length = L) : ∀ r ∈ reportL rows m marks, r.length = L := fun r hr => by
  unfold reportL at hr
  split at hr
  · rename_i row hrow
    rcases List.mem_or_eq_of_mem_set hr with h1 | h1
    · exact h r h1
    · rw [h1, repRow_len]; exact h row (List.mem_of_getElem? hrow)
  · exact h r hr
theorem new_rows (n : Nat) : ∀ r ∈ List.replicate n (blank n), r.length = n := fun r hr => by rw [List.eq_of_mem_replicate hr, blank_len]
theorem rep_same {rows : List (List Id)} {m : Nat} {marks : List Id} (h : rows.length ≤ m) : reportL rows m marks = rows := by unfold reportL; rw [List.getElem?_eq_none h]
theorem newr_any (n : Nat) (w : World) (h2 : n ≤ 256) :
    Calls Try.prog 17 #[.int .i64 n] w fun e w' => ∃ A' c', e = .returned (.slice A' n c') ∧ Rep w'.heap.size w' A' (List.replicate n (blank n)) ∧ Below w.heap.size w w' := by
  refine (new_any n w h2).mono ?_
  rintro e w' ⟨A', c', rfl, h, hb⟩
  exact ⟨A', c', rfl, h.rd, hb⟩
set_option maxRecDepth 100000 in
set_option maxHeartbeats 8000000 in
theorem sapart_any (nodes member : Int) (marks : List Id) (B : Option Addr) (cb : Nat) (w : World) (hn : 0 ≤ nodes ∧ nodes ≤ 255) (hmem : 0 ≤ member ∧ member ≤ 255) (hr : Rd idc 3 w.heap.size w B marks) (hok : ∀ x ∈ marks, x.ok) (hlc : marks.length ≤ cb) (hcm : cb ≤ maxLen) :
    Calls Try.prog 6 #[.int .u8 nodes, .int .u8 member, .slice B marks.length cb] w fun e w' => e = .returned (.bool true) ∧ Below w.heap.size w w' := by
  unfold maxLen at hcm
  obtain ⟨nn, hnn⟩ : ∃ nn : Nat, 1 + nodes % 12 = (nn : Int) := ⟨(1 + nodes % 12).toNat, by omega⟩
  have nn1 : 1 ≤ nn := by omega
  have nn12 : nn ≤ 12 := by omega
  have HOK := Lib.hid hok
  obtain ⟨m0, m1⟩ := hmem
  clear hok
  by_cases h40 : 40 < marks.length
  · have t1 : decide ((40 : Int) < (marks.length : Int)) = true := by simp; omega
    clear hn
    go_enter Try.func6, Try.ntmps6
    go_wp2_with fail
    refine (awake_any _).mono ?_
    rintro e w9 ⟨rfl, hb⟩
    go_wp2_with fail
    go_ret
    exact ⟨rfl, hb⟩
  have t1 : decide ((40 : Int) < (marks.length : Int)) = false := by simp; omega
  have HR := Lib.hid (fun A ca W h1 h2 => report_any (List.replicate nn (blank nn)) A ca nn member marks B cb W (by simp) h1 (by omega) (fun r hr => by rw [new_rows nn r hr]; omega) ⟨m0, m1⟩ h2 (by omega) HOK.out)
  have RRW := Lib.hid (rep_rows (m := member.toNat) (marks := marks) (new_rows nn))
  have RSM := Lib.hid (fun (h : nn ≤ member.toNat) => rep_same (rows := List.replicate nn (blank nn)) (m := member.toNat) (marks := marks) (by simpa using h))
  have RLN : Hid ((reportL (List.replicate nn (blank nn)) member.toNat marks).length = nn) := Lib.hid (by unfold reportL; split <;> simp)
  have wmm : IntKind.i64.wrap member = member := IntWalk.i64_in _ (by omega)
  obtain ⟨T, hT⟩ : ∃ T, T = List.replicate nn (blank nn) := ⟨_, rfl⟩
  have HN := Lib.hid (fun W => newr_any nn W (by omega))
  have TL : Hid (T.length = nn) := Lib.hid (by rw [hT]; simp)
  have TR : Hid (∀ r ∈ T, r.length = nn) := Lib.hid (by rw [hT]; exact new_rows nn)
  rw [← hT] at HN HR RRW RSM RLN
  obtain ⟨U, hU⟩ : ∃ U, U = reportL T member.toNat marks := ⟨_, rfl⟩
  rw [← hU] at HR RRW RSM RLN
  clear hT hU h40
  go_enter Try.func6, Try.ntmps6
  go_wp2_with fail
  refine (HN.out _).mono ?_
  rintro e w1 ⟨A8, c8, rfl, rt, b1⟩
  clear hn hnn
  go_wp2_with fail
  refine (HR.out A8 c8 _ rt (hr.up b1)).mono ?_
  rintro e w2 ⟨A9, c9, rfl, x9, b2⟩
  clear HR hr
  have CS := Lib.hid (fun A ca W h1 h2 => same_any T T A8 A c8 ca nn nn W TL.out TL.out h1 h2 (fun r hr => by rw [TR.out r hr]; omega) (fun r hr => by rw [TR.out r hr]; omega) (by omega) (by omega))
  rw [show decide (T = T) = true by simp] at CS
  go_wp2_with fail
  refine (HN.out _).mono ?_
  rintro e w3 ⟨A10, c10, rfl, r10, hb⟩
  replace b2 := Gw.call b2 hb
  replace x9 := x9.keep hb
  clear hb
  go_wp2_with fail
  refine (CS.out A10 c10 _ (rt.up b2) r10).mono ?_
  rintro e w4 ⟨rfl, hb⟩
  replace b2 := Gw.call b2 hb
  replace x9 := x9.keep hb
  clear hb r10
  have HNX := HN
  by_cases hmn : (nn : Int) ≤ member
  · have t2 : decide ((nn : Int) ≤ member) = true := by simp; omega
    have hUT := Lib.hid (RSM.out (by omega))
    have CU := Lib.hid (fun W h1 h2 => same_any U T A9 A8 c9 c8 nn nn W RLN.out TL.out h1 h2 (fun r hr => by rw [RRW.out r hr]; omega) (fun r hr => by rw [TR.out r hr]; omega) (by omega) (by omega))
    rw [show decide (U = T) = true by rw [hUT.out]; simp] at CU
    clear hmn
    go_wp2_with fail
    refine (CU.out _ x9.rd (rt.up b2)).mono ?_
    rintro e w5 ⟨rfl, hb⟩
    replace b2 := Gw.call b2 hb
    replace x9 := x9.keep hb
    clear hb CU
    have HNN := Lib.hid (fun W => new_none (-(nn : Int)) W (by omega))
    go_wp2_with fail
    refine (HNN.out _).mono ?_
    rintro e w5 ⟨rfl, hb⟩
    replace b2 := Gw.call b2 hb
    replace x9 := x9.keep hb
    clear hb HNN
    obtain ⟨rs, hrs, rx⟩ := x9
    have hrl : Hid (rs.length = nn) := Lib.hid (by have := rep_len hrs; rw [RLN.out] at this; exact this.symm)
    have hrr : Hid (∀ x ∈ rs, x.l.length = nn) := Lib.hid (fun x hx => RRW.out x.l (by rw [← hrs]; exact List.mem_map_of_mem hx))
    clear hrs
    go_wp2_with fail
    go_loopw [52] (fun iv wr => ∃ (k : Nat) (rs : List RsV), k ≤ nn ∧ iv = .int .i64 k ∧ RepX w1.heap.size wr (.slice A9 nn c9) rs ∧ Hid (rs.length = nn) ∧ Hid (∀ x ∈ rs, x.l.length = nn) ∧ Below w1.heap.size w1 wr) (fun iv _ => nn - (intOf iv).toNat)
    case atStart => exact ⟨0, rs, Nat.zero_le _, rfl, rx, hrl, hrr, b2⟩
    case round =>
      clear b2 rx hrl hrr
      obtain ⟨k, rs, hk, rfl, rx, hrl, hrr, bl⟩ := hrel
      by_cases hkl : k < nn
      · have ki : (k : Int) < (nn : Int) := by omega
        obtain ⟨⟨A7, l7, c7⟩, hx0⟩ : ∃ x, rs[k]? = some x := ⟨_, List.getElem?_eq_getElem (by have := hrl.out; omega)⟩
        have hl7 := hrr.out _ (List.mem_of_getElem? hx0)
        simp only at hl7
        have HX0 := Lib.hid hx0
        obtain ⟨g, rfl⟩ : ∃ g, A9 = some ⟨g, 0, none⟩ := by
          rcases rx.out.2 with ⟨_, h0⟩ | ⟨g, cap, cur, hv, _⟩
          · have := hrl.out; omega
          · injection hv with hA _ _
            exact ⟨g, hA⟩
        obtain ⟨g7, rfl⟩ : ∃ g, A7 = some ⟨g, 0, none⟩ := by
          rcases (rx.row _ (List.mem_of_getElem? hx0)).2 with ⟨_, h0⟩ | ⟨g, cap, cur, hv, _⟩
          · rw [hl7] at h0; omega
          · injection hv with hA _ _
            exact ⟨g, hA⟩
        have e0 := rx.cell hx0
        have hg7 := (Own.row (rx.row _ (List.mem_of_getElem? hx0))).2.1
        simp only [hl7] at e0
        have rx0 : RepX w1.heap.size wr (.slice (some ⟨g, 0, none⟩) nn c9) (rs.set k ⟨some ⟨g7, 0, none⟩, l7, c7⟩) := by rw [set_same hx0]; exact rx
        have HL7 := Lib.hid hl7
        clear hx0 rx hl7
        go_wp2_with fail
        go_loopw [60] (fun jv wr => ∃ (j : Nat) (l : List Id), j ≤ nn ∧ jv = .int .i64 j ∧ RepX w1.heap.size wr (.slice (some ⟨g, 0, none⟩) nn c9) (rs.set k ⟨some ⟨g7, 0, none⟩, l, c7⟩) ∧ Hid (l.length = nn) ∧ Below w1.heap.size w1 wr) (fun jv _ => nn - (intOf jv).toNat)
        case atStart => exact ⟨0, l7, Nat.zero_le _, rfl, rx0, HL7, bl⟩
        case round =>
          clear rx0 bl e0
          obtain ⟨j, l, hj, rfl, rx, hll, bl⟩ := hrel
          by_cases hjl : j < nn
          · have ji : (j : Int) < (nn : Int) := by omega
            have hset : (rs.set k ⟨some ⟨g7, 0, none⟩, l, c7⟩)[k]? = some ⟨some ⟨g7, 0, none⟩, l, c7⟩ := List.getElem?_set_self (by have := hrl.out; omega)
            obtain ⟨o, ho⟩ : ∃ o, l[j]? = some o := ⟨_, List.getElem?_eq_getElem (by have := hll.out; omega)⟩
            have e0 := rx.cell hset
            simp only [hll.out] at e0
            have orow : Own idc 3 40 w1.heap.size wr (.slice (some ⟨g7, 0, none⟩) l.length c7) l := rx.row _ (List.mem_of_getElem? hset)
            have e2 := Own.at_ idc_len orow ho (j := 2) rfl
            have f7 := fun i => Own.free orow i
            have RXM := Lib.hid (fun (V : Int) => rx.cell1 (f := 2) (m := ⟨o.n, o.i, V⟩) (u := .int .u32 V) hset rfl ho (by omega) rfl)
            have HLS := Lib.hid (fun (V : Int) => (by rw [List.length_set]; exact hll.out : (l.set j ⟨o.n, o.i, V⟩).length = nn))
            clear hset ho orow rx
            go_wp2_with fail
            go_roundw
            case rel => exact ⟨j + 1, _, hjl, by go_num, by simpa only [List.set_set] using RXM.out _, Lib.hid (HLS.out _), Gw.st bl (p := ⟨g7, j * 3 + 2, none⟩) hg7 _⟩
            case measure => simp [intOf]; omega
          · obtain rfl : j = nn := by omega
            have hrl2 : Hid ((rs.set k ⟨some ⟨g7, 0, none⟩, l, c7⟩).length = j) := Lib.hid (by rw [List.length_set]; exact hrl.out)
            have hrr2 : Hid (∀ x ∈ rs.set k ⟨some ⟨g7, 0, none⟩, l, c7⟩, x.l.length = j) := Lib.hid (fun x hx => by
              rcases List.mem_or_eq_of_mem_set hx with h1 | h1
              · exact hrr.out x h1
              · rw [h1]; exact hll.out)
            go_wp2_with fail
            go_roundw
            case rel => exact ⟨k + 1, _, hkl, by go_num, rx, hrl2, hrr2, bl⟩
            case measure => simp [intOf]; omega
      · obtain rfl : k = nn := by omega
        go_wp2_with fail
        refine (HN.out _).mono ?_
        rintro e w6 ⟨A11, c11, rfl, r11, hb⟩
        replace bl := Gw.call bl hb
        clear hb rx
        go_wp2_with fail
        refine (CS.out A11 c11 _ (rt.up bl) r11).mono ?_
        rintro e w7 ⟨rfl, hb⟩
        replace bl := Gw.call bl hb
        clear hb r11
        have te : ((k : Int) == (k : Int)) = true := by simp
        go_wp2_with fail
        refine (awake_any _).mono ?_
        rintro e w8 ⟨rfl, hb⟩
        go_wp2_with fail
        go_ret
        exact ⟨rfl, Gw.call (Gw.call b1 bl) hb⟩

  · have t2 : decide ((nn : Int) ≤ member) = false := by simp; omega
    clear hmn
    have HNN := Lib.hid (fun W => new_none (-(nn : Int)) W (by omega))
    go_wp2_with fail
    refine (HNN.out _).mono ?_
    rintro e w5 ⟨rfl, hb⟩
    replace b2 := Gw.call b2 hb
    replace x9 := x9.keep hb
    clear hb HNN
    obtain ⟨rs, hrs, rx⟩ := x9
    have hrl : Hid (rs.length = nn) := Lib.hid (by have := rep_len hrs; rw [RLN.out] at this; exact this.symm)
    have hrr : Hid (∀ x ∈ rs, x.l.length = nn) := Lib.hid (fun x hx => RRW.out x.l (by rw [← hrs]; exact List.mem_map_of_mem hx))
    clear hrs
    go_wp2_with fail
    go_loopw [52] (fun iv wr => ∃ (k : Nat) (rs : List RsV), k ≤ nn ∧ iv = .int .i64 k ∧ RepX w1.heap.size wr (.slice A9 nn c9) rs ∧ Hid (rs.length = nn) ∧ Hid (∀ x ∈ rs, x.l.length = nn) ∧ Below w1.heap.size w1 wr) (fun iv _ => nn - (intOf iv).toNat)
    case atStart => exact ⟨0, rs, Nat.zero_le _, rfl, rx, hrl, hrr, b2⟩
    case round =>
      clear b2 rx hrl hrr
      obtain ⟨k, rs, hk, rfl, rx, hrl, hrr, bl⟩ := hrel
      by_cases hkl : k < nn
      · have ki : (k : Int) < (nn : Int) := by omega
        obtain ⟨⟨A7, l7, c7⟩, hx0⟩ : ∃ x, rs[k]? = some x := ⟨_, List.getElem?_eq_getElem (by have := hrl.out; omega)⟩
        have hl7 := hrr.out _ (List.mem_of_getElem? hx0)
        simp only at hl7
        have HX0 := Lib.hid hx0
        obtain ⟨g, rfl⟩ : ∃ g, A9 = some ⟨g, 0, none⟩ := by
          rcases rx.out.2 with ⟨_, h0⟩ | ⟨g, cap, cur, hv, _⟩
          · have := hrl.out; omega
          · injection hv with hA _ _
            exact ⟨g, hA⟩
        obtain ⟨g7, rfl⟩ : ∃ g, A7 = some ⟨g, 0, none⟩ := by
          rcases (rx.row _ (List.mem_of_getElem? hx0)).2 with ⟨_, h0⟩ | ⟨g, cap, cur, hv, _⟩
          · rw [hl7] at h0; omega
          · injection hv with hA _ _
            exact ⟨g, hA⟩
        have e0 := rx.cell hx0
        have hg7 := (Own.row (rx.row _ (List.mem_of_getElem? hx0))).2.1
        simp only [hl7] at e0
        have rx0 : RepX w1.heap.size wr (.slice (some ⟨g, 0, none⟩) nn c9) (rs.set k ⟨some ⟨g7, 0, none⟩, l7, c7⟩) := by rw [set_same hx0]; exact rx
        have HL7 := Lib.hid hl7
        clear hx0 rx hl7
        go_wp2_with fail
        go_loopw [60] (fun jv wr => ∃ (j : Nat) (l : List Id), j ≤ nn ∧ jv = .int .i64 j ∧ RepX w1.heap.size wr (.slice (some ⟨g, 0, none⟩) nn c9) (rs.set k ⟨some ⟨g7, 0, none⟩, l, c7⟩) ∧ Hid (l.length = nn) ∧ Below w1.heap.size w1 wr) (fun jv _ => nn - (intOf jv).toNat)
        case atStart => exact ⟨0, l7, Nat.zero_le _, rfl, rx0, HL7, bl⟩
        case round =>
          clear rx0 bl e0
          obtain ⟨j, l, hj, rfl, rx, hll, bl⟩ := hrel
          by_cases hjl : j < nn
          · have ji : (j : Int) < (nn : Int) := by omega
            have hset : (rs.set k ⟨some ⟨g7, 0, none⟩, l, c7⟩)[k]? = some ⟨some ⟨g7, 0, none⟩, l, c7⟩ := List.getElem?_set_self (by have := hrl.out; omega)
            obtain ⟨o, ho⟩ : ∃ o, l[j]? = some o := ⟨_, List.getElem?_eq_getElem (by have := hll.out; omega)⟩
            have e0 := rx.cell hset
            simp only [hll.out] at e0
            have orow : Own idc 3 40 w1.heap.size wr (.slice (some ⟨g7, 0, none⟩) l.length c7) l := rx.row _ (List.mem_of_getElem? hset)
            have e2 := Own.at_ idc_len orow ho (j := 2) rfl
            have f7 := fun i => Own.free orow i
            have RXM := Lib.hid (fun (V : Int) => rx.cell1 (f := 2) (m := ⟨o.n, o.i, V⟩) (u := .int .u32 V) hset rfl ho (by omega) rfl)
            have HLS := Lib.hid (fun (V : Int) => (by rw [List.length_set]; exact hll.out : (l.set j ⟨o.n, o.i, V⟩).length = nn))
            clear hset ho orow rx
            go_wp2_with fail
            go_roundw
            case rel => exact ⟨j + 1, _, hjl, by go_num, by simpa only [List.set_set] using RXM.out _, Lib.hid (HLS.out _), Gw.st bl (p := ⟨g7, j * 3 + 2, none⟩) hg7 _⟩
            case measure => simp [intOf]; omega
          · obtain rfl : j = nn := by omega
            have hrl2 : Hid ((rs.set k ⟨some ⟨g7, 0, none⟩, l, c7⟩).length = j) := Lib.hid (by rw [List.length_set]; exact hrl.out)
            have hrr2 : Hid (∀ x ∈ rs.set k ⟨some ⟨g7, 0, none⟩, l, c7⟩, x.l.length = j) := Lib.hid (fun x hx => by
              rcases List.mem_or_eq_of_mem_set hx with h1 | h1
              · exact hrr.out x h1
              · rw [h1]; exact hll.out)
            go_wp2_with fail
            go_roundw
            case rel => exact ⟨k + 1, _, hkl, by go_num, rx, hrl2, hrr2, bl⟩
            case measure => simp [intOf]; omega
      · obtain rfl : k = nn := by omega
        go_wp2_with fail
        refine (HN.out _).mono ?_
        rintro e w6 ⟨A11, c11, rfl, r11, hb⟩
        replace bl := Gw.call bl hb
        clear hb rx
        go_wp2_with fail
        refine (CS.out A11 c11 _ (rt.up bl) r11).mono ?_
        rintro e w7 ⟨rfl, hb⟩
        replace bl := Gw.call bl hb
        clear hb r11
        have te : ((k : Int) == (k : Int)) = true := by simp
        go_wp2_with fail
        refine (awake_any _).mono ?_
        rintro e w8 ⟨rfl, hb⟩
        go_wp2_with fail
        go_ret
        exact ⟨rfl, Gw.call (Gw.call b1 bl) hb⟩

end Go.Proofs.Ytcclnfpegepcnaa
