/-
  stable.Stable (19).
-/
import Derived.Test.YtcclnfpegepcnaaLags
import Derived.Test.YtcclnfpegepcnaaMarksSame
import Derived.Deep.RegionHeld3
namespace Go.Proofs.Ytcclnfpegepcnaa
open Go.RowKit
open Classical in
noncomputable def stableB (t : List (List Id)) (members : List Mb) (self : Int) (rows : List Rw) (x : Id) : Bool := match rows[x.n.toNat]? with
  | none => false
  | some r => decide (∀ (j : Nat) (mb : Mb), members[j]? = some mb → lagB j mb self r t x = false)
theorem stable_no {t : List (List Id)} {members : List Mb} {self : Int} {rows : List Rw} {x : Id} (h : rows.length ≤ x.n.toNat) : stableB t members self rows x = false := by
  unfold stableB; rw [List.getElem?_eq_none h]
theorem stable_lag {t : List (List Id)} {members : List Mb} {self : Int} {rows : List Rw} {x : Id} {r : Rw} {k : Nat} {mb : Mb} (hr : rows[x.n.toNat]? = some r) (h : members[k]? = some mb) (hl : lagB k mb self r t x = true) : stableB t members self rows x = false := by
  unfold stableB; rw [hr]
  simp only [decide_eq_false_iff_not]
  intro hh
  rw [hh k mb h] at hl
  cases hl
theorem stable_yes {t : List (List Id)} {members : List Mb} {self : Int} {rows : List Rw} {x : Id} {r : Rw} (hr : rows[x.n.toNat]? = some r) (h : ∀ (j : Nat) (mb : Mb), members[j]? = some mb → lagB j mb self r t x = false) : stableB t members self rows x = true := by
  unfold stableB; rw [hr]
  simp only [decide_eq_true_iff]
  exact h
set_option maxRecDepth 100000 in
set_option maxHeartbeats 4000000 in
theorem stable_any (t : List (List Id)) (members : List Mb) (self : Int) (rows : List Rw) (x : Id) (A C B : Option Addr) (ca cc cb n mn rn : Nat) (w : World) (hln : t.length = n) (hml : members.length = mn) (hrl : rows.length = rn) (rt : Rep w.heap.size w A t) (rm : Rd memc 3 w.heap.size w C members) (rr : Rd rowc 3 w.heap.size w B rows) (hself : 0 ≤ self ∧ self ≤ 255) (hx : x.ok) (hm : mn ≤ 255) (hrb : rn ≤ 1000000) :
    Calls Try.prog 12 #[.slice A n ca, .slice C mn cc, .int .u8 self, .slice B rn cb, idv x] w fun e w' => e = .returned (.bool (stableB t members self rows x)) ∧ Below w.heap.size w w' := by
  obtain ⟨b5, hb5⟩ : ∃ o : Obj, o = .cells #[.slice A n ca] 35 := ⟨_, rfl⟩
  obtain ⟨b7, hb7⟩ : ∃ o : Obj, o = .cells #[.int .u8 self] 5 := ⟨_, rfl⟩
  obtain ⟨b8, hb8⟩ : ∃ o : Obj, o = .cells #[.slice B rn cb] 24 := ⟨_, rfl⟩
  obtain ⟨b9, hb9⟩ : ∃ o : Obj, o = .cells #[.int .u8 x.n, .int .u16 x.i, .int .u32 x.s] 28 := ⟨_, rfl⟩
  have c5 := World.cell?_alloc_old (World.cell?_alloc_old (World.cell?_alloc_old ((Ob.new w #[.slice A n ca] 35).blk.2.1 0 _ rfl) b7) b8) b9
  have c7 := World.cell?_alloc_old (World.cell?_alloc_old ((Ob.new (w.alloc b5) #[.int .u8 self] 5).blk.2.1 0 _ rfl) b8) b9
  have c8 := World.cell?_alloc_old ((Ob.new ((w.alloc b5).alloc b7) #[.slice B rn cb] 24).blk.2.1 0 _ rfl) b9
  have o9 := Ob.new (((w.alloc b5).alloc b7).alloc b8) #[.int .u8 x.n, .int .u16 x.i, .int .u32 x.s] 28
  rw [← hb5] at c5
  rw [← hb7] at c7
  rw [← hb8] at c8
  rw [← hb9] at o9
  simp only [World.size_alloc] at c5 c7 c8 o9
  have b0 := Gw.al (Gw.al (Gw.al (Gw.al (Below.refl w.heap.size w) b5) b7) b8) b9
  have rt4 := rt.up b0
  have rm4 := rm.up b0
  have rr4 := rr.up b0
  have o90 := o9.blk.2.1 0 _ rfl
  subst hb5 hb7 hb8 hb9
  obtain ⟨n0, n1⟩ := hx.1
  obtain ⟨a, ha⟩ := Int.eq_ofNat_of_zero_le n0
  have HA := Lib.hid ha
  have wx : IntKind.i64.wrap x.n = x.n := IntWalk.i64_in _ (by omega)
  have HX := Lib.hid hx
  clear n0 rt rm rr hx
  by_cases hax : a < rn
  · obtain ⟨r, hr⟩ : ∃ r, rows[a]? = some r := ⟨_, List.getElem?_eq_getElem (by omega)⟩
    have HR : Hid (rows[x.n.toNat]? = some r) := Lib.hid (by rw [HA.out]; exact hr)
    have t1 : decide ((rn : Int) ≤ x.n) = false := by simp; omega
    have HML := Lib.hid hml
    have HRL := Lib.hid hrl
    have HLN := Lib.hid hln
    clear hr ha hml hrl hln
    go_enter Try.func12, Try.ntmps12
    go_wp2_with fail
    generalize hw4 : (((w.alloc (.cells #[.slice A n ca] 35)).alloc (.cells #[.int .u8 self] 5)).alloc (.cells #[.slice B rn cb] 24)).alloc (.cells #[.int .u8 x.n, .int .u16 x.i, .int .u32 x.s] 28) = w4 at *
    clear hw4 o90
    have CL := Lib.hid (fun (k : Nat) (mb : Mb) (W : World) (hb : Below w4.heap.size w4 W) (hk : k ≤ 255) => lags_any k mb self x rows t r A B ca cb n (w.heap.size + 1) (w.heap.size + 1 + 1 + 1) (w.heap.size + 1 + 1) w.heap.size W hk hself HX.out HR.out HLN.out (rr4.up hb) (rt4.up hb) ((hb.cell (p := ⟨_, 0, none⟩) (World.block_lt_of_cell? w4 _ c7)).trans c7) (o9.call hb) ((hb.cell (p := ⟨_, 0, none⟩) (World.block_lt_of_cell? w4 _ c8)).trans (by rw [HRL.out]; exact c8)) ((hb.cell (p := ⟨_, 0, none⟩) (World.block_lt_of_cell? w4 _ c5)).trans c5))
    clear c5 c7 c8 o9
    go_loopw [23] (fun i wr => ∃ k : Nat, k ≤ mn ∧ i = .int .i64 k ∧ Hid (∀ (j : Nat) (mb : Mb), j < k → members[j]? = some mb → lagB j mb self r t x = false) ∧ Below w4.heap.size w4 wr) (fun i _ => mn - (intOf i).toNat)
    case atStart => exact ⟨0, Nat.zero_le _, rfl, Lib.hid (fun j mb h => absurd h (Nat.not_lt_zero _)), Below.refl _ _⟩
    case round =>
      obtain ⟨k, hk, rfl, HP, bl⟩ := hrel
      by_cases hkl : k < mn
      · obtain ⟨mb, hmb⟩ : ∃ mb, members[k]? = some mb := ⟨_, List.getElem?_eq_getElem (by have := HML.out; omega)⟩
        obtain ⟨bm, om, rfl, hbm, hc⟩ := (rm4.below bl).at_ hmb
        have d0 : wr.cell? ⟨bm, om + k * 3, none⟩ = some (.int .u16 mb.i) := hc 0 _ rfl
        have d1 : wr.cell? ⟨bm, om + k * 3 + 1, none⟩ = some (.int .u8 mb.s) := hc 1 _ rfl
        have d2 : wr.cell? ⟨bm, om + k * 3 + 2, none⟩ = some (.int .u8 mb.q) := hc 2 _ rfl
        have HMB := Lib.hid hmb
        have ki : (k : Int) < (mn : Int) := by omega
        have bx := Gw.al bl (.cells #[.int .u16 mb.i, .int .u8 mb.s, .int .u8 mb.q] 39)
        clear hc hmb
        go_wp2_with fail
        refine (CL.out k mb _ bx (by omega)).mono ?_
        rintro e w6 ⟨rfl, hb⟩
        have b6 := Gw.call bx hb
        clear hb d0 d1 d2
        cases hl : lagB k mb self r t x
        · have HP2 : Hid (∀ (j : Nat) (mb : Mb), j < k + 1 → members[j]? = some mb → lagB j mb self r t x = false) := Lib.hid fun j mb' hj hm' => by
            rcases Nat.lt_succ_iff_lt_or_eq.1 hj with h | h
            · exact HP.out j mb' h hm'
            · subst h
              obtain rfl := Option.some.inj (HMB.out.symm.trans hm')
              exact hl
          clear hl
          go_wp2_with fail
          go_roundw
          case rel => exact ⟨k + 1, hkl, by go_num, HP2, b6⟩
          case measure => simp [intOf]; omega
        · have hs : Hid (stableB t members self rows x = false) := Lib.hid (stable_lag HR.out HMB.out hl)
          clear hl
          go_wp2_with fail
          go_ret
          exact ⟨by rw [hs.out]; rfl, Gw.call b0 b6⟩
      · obtain rfl : k = mn := by omega
        have hs : Hid (stableB t members self rows x = true) := Lib.hid (stable_yes HR.out (fun j mb h => HP.out j mb (by have := (List.getElem?_eq_some_iff.1 h).1; have := HML.out; omega) h))
        go_wp2_with fail
        go_ret
        exact ⟨by rw [hs.out]; rfl, Gw.call b0 bl⟩
  · have t1 : decide ((rn : Int) ≤ x.n) = true := by simp; omega
    rw [stable_no (by omega)]
    clear ha
    go_enter Try.func12, Try.ntmps12
    go_wp2_with fail
    go_ret
    exact ⟨rfl, b0⟩
set_option maxRecDepth 100000 in
set_option maxHeartbeats 4000000 in
theorem same_any (a b : List (List Id)) (A B : Option Addr) (ca cb n m : Nat) (w : World) (hn : a.length = n) (hm : b.length = m) (ra : Rep w.heap.size w A a) (rb : Rep w.heap.size w B b) (hla : ∀ r ∈ a, r.length ≤ 1000000) (hlb : ∀ r ∈ b, r.length ≤ 1000000) (hnn : n ≤ 1000000) (hmm : m ≤ 1000000) :
    Calls Try.prog 15 #[.slice A n ca, .slice B m cb] w fun e w' => e = .returned (.bool (decide (a = b))) ∧ Below w.heap.size w w' := by
  have HLA := Lib.hid hla
  have HLB := Lib.hid hlb
  have HN := Lib.hid hn
  have HM := Lib.hid hm
  clear hla hlb hn hm
  by_cases hnm : n = m
  · subst hnm
    have t1 : ((n : Int) != (n : Int)) = false := by simp
    go_enter Try.func15, Try.ntmps15
    go_wp2_with fail
    go_loopw [13] (fun i wr => ∃ k : Nat, k ≤ n ∧ i = .int .i64 k ∧ Hid (∀ j, j < k → a[j]? = b[j]?) ∧ Below w.heap.size w wr) (fun i _ => n - (intOf i).toNat)
    case atStart => exact ⟨0, Nat.zero_le _, rfl, Lib.hid (fun j h => absurd h (Nat.not_lt_zero _)), Below.refl _ _⟩
    case round =>
      obtain ⟨k, hk, rfl, HP, bl⟩ := hrel
      by_cases hkl : k < n
      · obtain ⟨ra1, hra⟩ : ∃ r, a[k]? = some r := ⟨_, List.getElem?_eq_getElem (by have := HN.out; omega)⟩
        obtain ⟨rb1, hrb⟩ : ∃ r, b[k]? = some r := ⟨_, List.getElem?_eq_getElem (by have := HM.out; omega)⟩
        obtain ⟨b1, o1, A1, c1, rfl, hb1, e1, r1⟩ := ra.at_ hra
        obtain ⟨b2, o2, A2, c2, rfl, hb2, e2, r2⟩ := rb.at_ hrb
        have HRA := Lib.hid hra
        have HRB := Lib.hid hrb
        have CS := Lib.hid (fun W h1 h2 => msame_any ra1 rb1 A1 A2 c1 c2 W h1 h2 (Nat.le_trans (HLA.out ra1 (List.mem_of_getElem? hra)) (by omega)) (Nat.le_trans (HLB.out rb1 (List.mem_of_getElem? hrb)) (by omega)))
        have ki : (k : Int) < (n : Int) := by omega
        have HB : Hid (∀ W, Below w.heap.size w W → W.cell? ⟨b1, o1 + k, none⟩ = some (.slice A1 ra1.length c1) ∧ W.cell? ⟨b2, o2 + k, none⟩ = some (.slice A2 rb1.length c2)) := Lib.hid fun W hb => ⟨(hb.cell (p := ⟨b1, _, none⟩) hb1).trans e1, (hb.cell (p := ⟨b2, _, none⟩) hb2).trans e2⟩
        clear hra hrb e1 e2
        go_upto_region 6 with fail
        go_region_held3 (fun W => W.cell? ⟨b1, o1 + k, none⟩ = some (.slice A1 ra1.length c1) ∧ W.cell? ⟨b2, o2 + k, none⟩ = some (.slice A2 rb1.length c2)) (first | exact HB.out _ (Below.drew bl) | exact HB.out _ bl) (first
          | ((with_reducible show Calls _ _ _ _ _); go_at_call 31; (with_reducible refine (CS.out _ (r1.up (Below.drew bl)) (r2.up (Below.drew bl))).mono ?_); rintro e w1 ⟨rfl, hb⟩; replace bl := Gw.call (Below.drew bl) hb; clear hb; dsimp only)
          | fail)
        cases hd : decide (ra1 = rb1)
        · have hs : Hid (decide (a = b) = false) := Lib.hid (by
            simp only [decide_eq_false_iff_not] at hd ⊢
            rintro rfl
            exact hd (Option.some.inj (HRA.out.symm.trans HRB.out)))
          clear hd
          go_wp2_with fail
          go_ret
          exact ⟨by rw [hs.out]; rfl, bl⟩
        · have HP2 : Hid (∀ j, j < k + 1 → a[j]? = b[j]?) := Lib.hid fun j hj => by
            rcases Nat.lt_succ_iff_lt_or_eq.1 hj with h | h
            · exact HP.out j h
            · subst h
              rw [HRA.out, HRB.out, of_decide_eq_true hd]
          clear hd
          go_wp2_with fail
          go_roundw
          case rel => exact ⟨k + 1, hkl, by go_num, HP2, bl⟩
          case measure => simp [intOf]; omega
      · obtain rfl : k = n := by omega
        have hs : Hid (decide (a = b) = true) := Lib.hid (decide_eq_true (List.ext_getElem? fun j => by
          rcases Nat.lt_or_ge j k with h | h
          · exact HP.out j h
          · rw [List.getElem?_eq_none (by have := HN.out; omega), List.getElem?_eq_none (by have := HM.out; omega)]))
        go_wp2_with fail
        go_ret
        exact ⟨by rw [hs.out]; rfl, bl⟩
  · have t1 : ((n : Int) != (m : Int)) = true := by simp; omega
    have hs : Hid (decide (a = b) = false) := Lib.hid (decide_eq_false (by rintro rfl; exact hnm (HN.out.symm.trans HM.out)))
    clear hnm
    go_enter Try.func15, Try.ntmps15
    go_wp2_with fail
    go_ret
    exact ⟨by rw [hs.out]; rfl, Below.refl _ _⟩
end Go.Proofs.Ytcclnfpegepcnaa
