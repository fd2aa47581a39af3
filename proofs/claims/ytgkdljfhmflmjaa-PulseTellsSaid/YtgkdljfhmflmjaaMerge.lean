/-
  Merge of tables (14): the program's, the document's.
-/
import Derived.Test.YtgkdljfhmflmjaaUp
import Derived.Test.YtgkdljfhmflmjaaStep
import Derived.IntWalk
import Derived.Deep.QuietTactic
import Derived.BigQuiet
import Derived.RegionTactic
import Derived.Deep.DeepCutAuto
namespace Go.Proofs.Ytgkdljfhmflmjaa
open Go.RowKit
set_option maxRecDepth 100000 in
set_option maxHeartbeats 8000000 in
theorem merge_any (l o : List Mb) (A B : Option Addr) (ca cb : Nat) (self : Int) (w : World) (hr : Rd memc 3 w.heap.size w A l) (ho : Rd memc 3 w.heap.size w B o) (hlen : l.length ≤ 1000000) (hlo : o.length ≤ 1000000) (hs : 0 ≤ self ∧ self ≤ 255) (hok : ∀ x ∈ o, x.ok) :
    Calls Try.prog 21 #[.slice A l.length ca, .slice B o.length cb, .int .u8 self] w fun e w' => ∃ A' c', e = .returned (.slice A' l.length c') ∧ Own memc 3 27 w.heap.size w' (.slice A' l.length c') (mergeL l o self) ∧ Below w.heap.size w w' := by
  have HOK := Lib.hid hok
  clear hok
  obtain ⟨s0, s1⟩ := hs
  obtain ⟨mn, hmn⟩ : ∃ mn : Nat, mn = min l.length o.length := ⟨_, rfl⟩
  have hmi : (if (o.length : Int) < (l.length : Int) then (o.length : Int) else (l.length : Int)) = (mn : Int) := by split <;> omega
  have hmi2 : (if o.length < l.length then (o.length : Int) else (l.length : Int)) = (mn : Int) := by split <;> omega
  have HMN : Hid (mn = min l.length o.length) := Lib.hid hmn
  have mnl : mn ≤ l.length := by omega
  have mno : mn ≤ o.length := by omega
  clear hmn
  go_enter Try.func21, Try.ntmps21
  go_wp2_with fail
  refine (cloneMem_any l A ca _ hr hlen).mono ?_
  rintro e w1 ⟨A1, c1, rfl, o1, b1⟩
  go_wp2_with fail
  go_loopw [8, 16] (fun _ i wr => ∃ k : Nat, k ≤ mn ∧ i = .int .i64 k ∧ Own memc 3 27 w.heap.size wr (.slice A1 l.length c1) (mix (mergeL l o self) l k) ∧ Below w.heap.size w wr) (fun _ i _ => mn - (intOf i).toNat)
  case atStart => exact ⟨0, Nat.zero_le _, rfl, by rw [mix_zero]; exact o1, b1⟩
  case round =>
    obtain ⟨k, hk, rfl, hown, hb⟩ := hrel
    by_cases hlt : k < mn
    · obtain ⟨x, hx⟩ : ∃ x, l[k]? = some x := ⟨_, List.getElem?_eq_getElem (by omega)⟩
      obtain ⟨y, hy⟩ : ∃ y, o[k]? = some y := ⟨_, List.getElem?_eq_getElem (by omega)⟩
      have yok := HOK.out y (List.mem_of_getElem? hy)
      have yi0 := yok.1.1
      have hkl : k < l.length := by omega
      have kl : (k : Int) < (l.length : Int) := by omega
      have ko : (k : Int) < (o.length : Int) := by omega
      have HML := Lib.hid (merge_len l o self)
      have hmx := mix_at HML.out (k := k) hkl
      rw [hx] at hmx
      have HMX := Lib.hid hmx
      clear hmx
      have HMA := Lib.hid (merge_at (o := o) (self := self) hx)
      obtain ⟨g1, rfl⟩ : ∃ g1, A1 = some ⟨g1, 0, none⟩ := by
        rcases hown.2 with ⟨_, h0⟩ | ⟨g1, _, _, hv, _⟩
        · rw [mix_len HML.out (by omega)] at h0; omega
        · injection hv with hA _ _; exact ⟨g1, hA⟩
      have lown := (Own.row hown).2.1
      have ghi : g1 < wr.heap.size := Own.hi hown g1 rfl
      obtain ⟨b2, o2, rfl, hb2, e0, e1, e2⟩ := (hr.up hb).mem3 hx
      obtain ⟨b3, o3, rfl, hb3, f0, f1, f2⟩ := (ho.up hb).mem3 hy
      have HY := Lib.hid hy
      have HLX := Lib.hid hx
      clear hx hy hr ho
      have ff := fun j => Own.free hown j
      by_cases hself : (k : Int) = self
      · have t1 : ((k : Int) != self) = false := by simpa using hself
        have STP : Hid ((mergeL l o self)[k]? = l[k]?) := Lib.hid (by rw [HMA.out, (show l[k]? = some x from HLX.out)]; unfold mrg1; rw [HY.out]; simp only [hself]; simp)
        clear hself
        go_upto_region 5 with fail
        have HWR : IntKind.i64.wrap self = self := IntWalk.i64_in _ (by omega)
        go_quiet (fail)
        clear e0 e1 e2 f0 f1 f2 ff HWR
        go_wp2_with fail
        go_roundw
        case rel => exact ⟨k + 1, hlt, by go_num, by rw [mix_same HML.out STP.out]; exact hown.below (Gw.drewN (Below.refl wr.heap.size wr) nq), Gw.drewN hb nq⟩
        case measure => simp [intOf]; omega
      · have t1 : ((k : Int) != self) = true := by rw [bne_iff_ne]; exact hself
        cases hq : newerM y x
        · have HM : Hid (∀ W, Calls Try.prog 16 #[.agg #[.int .u16 y.i, .int .u8 y.s, .int .u8 y.q], .agg #[.int .u16 x.i, .int .u8 x.s, .int .u8 x.q]] W fun e w' => e = .returned (.bool false) ∧ Below W.heap.size W w') := Lib.hid (fun W => hq ▸ newerm_any y x W)
          have STP : Hid ((mergeL l o self)[k]? = l[k]?) := Lib.hid (by rw [HMA.out, (show l[k]? = some x from HLX.out)]; unfold mrg1; rw [HY.out]; simp only [hq]; simp)
          clear hself hq
          go_upto_region 5 with fail
          have b := Below.refl wr.heap.size wr
          have HB : Hid (∀ W, Below wr.heap.size wr W → (fun W => W.cell? ⟨b2, o2 + k * 3, none⟩ = some (.int .u16 x.i) ∧ W.cell? ⟨b2, o2 + k * 3 + 1, none⟩ = some (.int .u8 x.s) ∧ W.cell? ⟨b2, o2 + k * 3 + 2, none⟩ = some (.int .u8 x.q) ∧ W.cell? ⟨b3, o3 + k * 3, none⟩ = some (.int .u16 y.i) ∧ W.cell? ⟨b3, o3 + k * 3 + 1, none⟩ = some (.int .u8 y.s) ∧ W.cell? ⟨b3, o3 + k * 3 + 2, none⟩ = some (.int .u8 y.q)) W) := Lib.hid fun W hb => ⟨(hb.cell (p := ⟨b2, o2 + k * 3, none⟩) hb2).trans e0, (hb.cell (p := ⟨b2, o2 + k * 3 + 1, none⟩) hb2).trans e1, (hb.cell (p := ⟨b2, o2 + k * 3 + 2, none⟩) hb2).trans e2, (hb.cell (p := ⟨b3, o3 + k * 3, none⟩) hb3).trans f0, (hb.cell (p := ⟨b3, o3 + k * 3 + 1, none⟩) hb3).trans f1, (hb.cell (p := ⟨b3, o3 + k * 3 + 2, none⟩) hb3).trans f2⟩
          have HWR : IntKind.i64.wrap self = self := IntWalk.i64_in _ (by omega)
          clear ff
          go_region_held3 (fun W => W.cell? ⟨b2, o2 + k * 3, none⟩ = some (.int .u16 x.i) ∧ W.cell? ⟨b2, o2 + k * 3 + 1, none⟩ = some (.int .u8 x.s) ∧ W.cell? ⟨b2, o2 + k * 3 + 2, none⟩ = some (.int .u8 x.q) ∧ W.cell? ⟨b3, o3 + k * 3, none⟩ = some (.int .u16 y.i) ∧ W.cell? ⟨b3, o3 + k * 3 + 1, none⟩ = some (.int .u8 y.s) ∧ W.cell? ⟨b3, o3 + k * 3 + 2, none⟩ = some (.int .u8 y.q)) (first | exact HB.out _ b | exact HB.out _ (Below.drew b)) (first
            | ((with_reducible show Calls _ _ _ _ _); go_at_call 16; (with_reducible refine (HM.out _).mono ?_); rintro e w5 ⟨rfl, hb5⟩; replace b := (by first | exact Gw.call b hb5 | exact Gw.call (Below.drew b) hb5); clear hb5)
            | fail)
          obtain ⟨e0', e1', e2', f0', f1', f2'⟩ := HB.out _ b
          clear e0 e1 e2 f0 f1 f2 HWR HB
          have own5 := hown.below b
          have bl5 := Gw.call hb b
          clear b hown hb HM
          go_wp2_with fail
          go_roundw
          case rel => exact ⟨k + 1, hlt, by go_num, by rw [mix_same HML.out STP.out]; exact own5, bl5⟩
          case measure => simp [intOf]; omega
        · have HM : Hid (∀ W, Calls Try.prog 16 #[.agg #[.int .u16 y.i, .int .u8 y.s, .int .u8 y.q], .agg #[.int .u16 x.i, .int .u8 x.s, .int .u8 x.q]] W fun e w' => e = .returned (.bool true) ∧ Below W.heap.size W w') := Lib.hid (fun W => hq ▸ newerm_any y x W)
          have STP : Hid ((mergeL l o self)[k]? = some ⟨y.i, y.s, 0⟩) := Lib.hid (by rw [HMA.out]; unfold mrg1; rw [HY.out]; simp only [hq]; rw [if_pos ⟨hself, trivial⟩])
          clear hself hq
          go_upto_region 5 with fail
          have b := Below.refl wr.heap.size wr
          have HB : Hid (∀ W, Below wr.heap.size wr W → (fun W => W.cell? ⟨b2, o2 + k * 3, none⟩ = some (.int .u16 x.i) ∧ W.cell? ⟨b2, o2 + k * 3 + 1, none⟩ = some (.int .u8 x.s) ∧ W.cell? ⟨b2, o2 + k * 3 + 2, none⟩ = some (.int .u8 x.q) ∧ W.cell? ⟨b3, o3 + k * 3, none⟩ = some (.int .u16 y.i) ∧ W.cell? ⟨b3, o3 + k * 3 + 1, none⟩ = some (.int .u8 y.s) ∧ W.cell? ⟨b3, o3 + k * 3 + 2, none⟩ = some (.int .u8 y.q)) W) := Lib.hid fun W hb => ⟨(hb.cell (p := ⟨b2, o2 + k * 3, none⟩) hb2).trans e0, (hb.cell (p := ⟨b2, o2 + k * 3 + 1, none⟩) hb2).trans e1, (hb.cell (p := ⟨b2, o2 + k * 3 + 2, none⟩) hb2).trans e2, (hb.cell (p := ⟨b3, o3 + k * 3, none⟩) hb3).trans f0, (hb.cell (p := ⟨b3, o3 + k * 3 + 1, none⟩) hb3).trans f1, (hb.cell (p := ⟨b3, o3 + k * 3 + 2, none⟩) hb3).trans f2⟩
          have HWR : IntKind.i64.wrap self = self := IntWalk.i64_in _ (by omega)
          clear ff
          go_region_held3 (fun W => W.cell? ⟨b2, o2 + k * 3, none⟩ = some (.int .u16 x.i) ∧ W.cell? ⟨b2, o2 + k * 3 + 1, none⟩ = some (.int .u8 x.s) ∧ W.cell? ⟨b2, o2 + k * 3 + 2, none⟩ = some (.int .u8 x.q) ∧ W.cell? ⟨b3, o3 + k * 3, none⟩ = some (.int .u16 y.i) ∧ W.cell? ⟨b3, o3 + k * 3 + 1, none⟩ = some (.int .u8 y.s) ∧ W.cell? ⟨b3, o3 + k * 3 + 2, none⟩ = some (.int .u8 y.q)) (first | exact HB.out _ b | exact HB.out _ (Below.drew b)) (first
            | ((with_reducible show Calls _ _ _ _ _); go_at_call 16; (with_reducible refine (HM.out _).mono ?_); rintro e w5 ⟨rfl, hb5⟩; replace b := (by first | exact Gw.call b hb5 | exact Gw.call (Below.drew b) hb5); clear hb5)
            | fail)
          obtain ⟨e0', e1', e2', f0', f1', f2'⟩ := HB.out _ b
          clear e0 e1 e2 f0 f1 f2 HWR HB
          have own5 := hown.below b
          have bl5 := Gw.call hb b
          clear b hown hb HM
          have ff := fun j => Own.free own5 j
          have m0 := Own.at_ memc_len own5 HMX.out (j := 0) rfl
          rw [Nat.add_zero] at m0
          have m1 := Own.at_ memc_len own5 HMX.out (j := 1) rfl
          have m2 := Own.at_ memc_len own5 HMX.out (j := 2) rfl
          go_wp2_with fail
          go_region
          all_goals
            go_wp2_with fail
            have p0 := Own.put1 memc_len own5 HMX.out (j := 0) (by omega) ⟨y.i, x.s, x.q⟩ (.int .u16 y.i) rfl
            rw [Nat.add_zero] at p0
            have p1 := Own.put1 memc_len p0 (k := k) (x := ⟨y.i, x.s, x.q⟩) (by rw [List.getElem?_set_self (by rw [mix_len HML.out (by omega)]; omega)]) (j := 1) (by omega) ⟨y.i, y.s, x.q⟩ (.int .u8 y.s) rfl
            have p2 := Own.put1 memc_len p1 (k := k) (x := ⟨y.i, y.s, x.q⟩) (by rw [List.getElem?_set_self (by rw [List.length_set, mix_len HML.out (by omega)]; omega)]) (j := 2) (by omega) ⟨y.i, y.s, 0⟩ (.int .u8 0) rfl
            simp only [List.set_set] at p2
            rw [mix_set HML.out STP.out] at p2
            go_roundw
            case rel => exact ⟨k + 1, hlt, by go_num, Own.drew p2, Gw.drew (Gw.st (Gw.st (Gw.st bl5 lown (p := ⟨g1, k * 3, none⟩) (.int .u16 y.i)) lown (p := ⟨g1, k * 3 + 1, none⟩) (.int .u8 y.s)) lown (p := ⟨g1, k * 3 + 2, none⟩) (.int .u8 0))⟩
            case measure => simp [intOf]; omega
    · obtain rfl : k = mn := by omega
      have HE : Hid (mix (mergeL l o self) l k = mergeL l o self) := Lib.hid (mix_end (merge_len l o self) (fun j hj => by
        have := HMN.out
        by_cases hjo : o.length ≤ j
        · exact merge_far hjo
        · rw [List.getElem?_eq_none (by rw [merge_len]; omega), List.getElem?_eq_none (by omega)]))
      go_wp2_with fail
      go_ret
      rw [HE.out] at hown
      exact ⟨A1, c1, rfl, hown, hb⟩
set_option maxRecDepth 100000 in
set_option maxHeartbeats 8000000 in
theorem refmerge_any (l o : List Mb) (A B : Option Addr) (ca cb : Nat) (self : Int) (w : World) (hr : Rd memc 3 w.heap.size w A l) (ho : Rd memc 3 w.heap.size w B o) (hlen : l.length ≤ 1000000) (hlo : o.length ≤ 1000000) (hs : 0 ≤ self ∧ self ≤ 255) (hok : ∀ x ∈ o, x.ok) :
    Calls Try.prog 22 #[.slice A l.length ca, .slice B o.length cb, .int .u8 self] w fun e w' => ∃ A' c', e = .returned (.slice A' l.length c') ∧ Own memc 3 27 w.heap.size w' (.slice A' l.length c') (mergeL l o self) ∧ Below w.heap.size w w' := by
  have HOK := Lib.hid hok
  clear hok
  obtain ⟨s0, s1⟩ := hs
  go_enter Try.func22, Try.ntmps22
  go_wp2_with fail
  refine (refown_any l A ca _ hr hlen).mono ?_
  rintro e w1 ⟨A1, c1, rfl, o1, b1⟩
  have oo := o1
  go_wp2_with fail
  go_loopw [7] (fun i wr => ∃ k : Nat, k ≤ l.length ∧ i = .int .i64 k ∧ (k ≤ o.length) ∧ Own memc 3 27 w.heap.size wr (.slice A1 l.length c1) (mix (mergeL l o self) l k) ∧ Below w.heap.size w wr) (fun i _ => l.length - (intOf i).toNat)
  case atStart => exact ⟨0, Nat.zero_le _, rfl, Nat.zero_le _, by rw [mix_zero]; exact o1, b1⟩
  case round =>
    obtain ⟨k, hk, rfl, hko, hown, hb⟩ := hrel
    by_cases hlt : k < l.length ∧ k < o.length
    · obtain ⟨x, hx⟩ : ∃ x, l[k]? = some x := ⟨_, List.getElem?_eq_getElem (by omega)⟩
      obtain ⟨y, hy⟩ : ∃ y, o[k]? = some y := ⟨_, List.getElem?_eq_getElem (by omega)⟩
      obtain ⟨hlt, hlt2⟩ := hlt
      have yok := HOK.out y (List.mem_of_getElem? hy)
      have yi0 := yok.1.1
      have hkl : k < l.length := by omega
      have kl : (k : Int) < (l.length : Int) := by omega
      have ko : (k : Int) < (o.length : Int) := by omega
      have HML := Lib.hid (merge_len l o self)
      have hmx := mix_at HML.out (k := k) hkl
      rw [hx] at hmx
      have HMX := Lib.hid hmx
      clear hmx
      have HMA := Lib.hid (merge_at (o := o) (self := self) hx)
      obtain ⟨g1, rfl⟩ : ∃ g1, A1 = some ⟨g1, 0, none⟩ := by
        rcases hown.2 with ⟨_, h0⟩ | ⟨g1, _, _, hv, _⟩
        · rw [mix_len HML.out (by omega)] at h0; omega
        · injection hv with hA _ _; exact ⟨g1, hA⟩
      have lown := (Own.row hown).2.1
      have ghi : g1 < wr.heap.size := Own.hi hown g1 rfl
      have e0 := Own.at_ memc_len hown HMX.out (j := 0) rfl
      rw [Nat.add_zero] at e0
      have e1 := Own.at_ memc_len hown HMX.out (j := 1) rfl
      have e2 := Own.at_ memc_len hown HMX.out (j := 2) rfl
      have hb2 := ghi
      obtain ⟨b3, o3, rfl, hb3, f0, f1, f2⟩ := (ho.up hb).mem3 hy
      have HY := Lib.hid hy
      have HLX := Lib.hid hx
      clear hx hy hr ho
      have ff := fun j => Own.free hown j
      by_cases hself : (k : Int) = self
      · have t1 : ((k : Int) != self) = false := by simpa using hself
        have STP : Hid ((mergeL l o self)[k]? = l[k]?) := Lib.hid (by rw [HMA.out, (show l[k]? = some x from HLX.out)]; unfold mrg1; rw [HY.out]; simp only [hself]; simp)
        clear hself
        go_upto_region 5 with fail
        have HWR : IntKind.i64.wrap self = self := IntWalk.i64_in _ (by omega)
        go_quiet (fail)
        clear e0 e1 e2 f0 f1 f2 ff HWR
        go_wp2_with fail
        go_roundw
        case rel => exact ⟨k + 1, hlt, by go_num, hlt2, by rw [mix_same HML.out STP.out]; exact hown.below (Gw.drewN (Below.refl wr.heap.size wr) nq), Gw.drewN hb nq⟩
        case measure => simp [intOf]; omega
      · have t1 : ((k : Int) != self) = true := by rw [bne_iff_ne]; exact hself
        cases hq : newerM y x
        · have HM : Hid (∀ W, Calls Try.prog 17 #[.agg #[.int .u16 y.i, .int .u8 y.s, .int .u8 y.q], .agg #[.int .u16 x.i, .int .u8 x.s, .int .u8 x.q]] W fun e w' => e = .returned (.bool false) ∧ Below W.heap.size W w') := Lib.hid (fun W => hq ▸ refnewerm_any y x yi0 W)
          have STP : Hid ((mergeL l o self)[k]? = l[k]?) := Lib.hid (by rw [HMA.out, (show l[k]? = some x from HLX.out)]; unfold mrg1; rw [HY.out]; simp only [hq]; simp)
          clear hself hq
          go_upto_region 5 with fail
          have b := Below.refl wr.heap.size wr
          have HB : Hid (∀ W, Below wr.heap.size wr W → (fun W => W.cell? ⟨g1, k * 3, none⟩ = some (.int .u16 x.i) ∧ W.cell? ⟨g1, k * 3 + 1, none⟩ = some (.int .u8 x.s) ∧ W.cell? ⟨g1, k * 3 + 2, none⟩ = some (.int .u8 x.q) ∧ W.cell? ⟨b3, o3 + k * 3, none⟩ = some (.int .u16 y.i) ∧ W.cell? ⟨b3, o3 + k * 3 + 1, none⟩ = some (.int .u8 y.s) ∧ W.cell? ⟨b3, o3 + k * 3 + 2, none⟩ = some (.int .u8 y.q)) W) := Lib.hid fun W hb => ⟨(hb.cell (p := ⟨g1, k * 3, none⟩) hb2).trans e0, (hb.cell (p := ⟨g1, k * 3 + 1, none⟩) hb2).trans e1, (hb.cell (p := ⟨g1, k * 3 + 2, none⟩) hb2).trans e2, (hb.cell (p := ⟨b3, o3 + k * 3, none⟩) hb3).trans f0, (hb.cell (p := ⟨b3, o3 + k * 3 + 1, none⟩) hb3).trans f1, (hb.cell (p := ⟨b3, o3 + k * 3 + 2, none⟩) hb3).trans f2⟩
          have HWR : IntKind.i64.wrap self = self := IntWalk.i64_in _ (by omega)
          clear ff
          go_region_held3 (fun W => W.cell? ⟨g1, k * 3, none⟩ = some (.int .u16 x.i) ∧ W.cell? ⟨g1, k * 3 + 1, none⟩ = some (.int .u8 x.s) ∧ W.cell? ⟨g1, k * 3 + 2, none⟩ = some (.int .u8 x.q) ∧ W.cell? ⟨b3, o3 + k * 3, none⟩ = some (.int .u16 y.i) ∧ W.cell? ⟨b3, o3 + k * 3 + 1, none⟩ = some (.int .u8 y.s) ∧ W.cell? ⟨b3, o3 + k * 3 + 2, none⟩ = some (.int .u8 y.q)) (first | exact HB.out _ b | exact HB.out _ (Below.drew b)) (first
            | ((with_reducible show Calls _ _ _ _ _); go_at_call 17; (with_reducible refine (HM.out _).mono ?_); rintro e w5 ⟨rfl, hb5⟩; replace b := (by first | exact Gw.call b hb5 | exact Gw.call (Below.drew b) hb5); clear hb5)
            | fail)
          obtain ⟨e0', e1', e2', f0', f1', f2'⟩ := HB.out _ b
          clear e0 e1 e2 f0 f1 f2 HWR HB
          have own5 := hown.below b
          have bl5 := Gw.call hb b
          clear b hown hb HM
          go_wp2_with fail
          go_roundw
          case rel => exact ⟨k + 1, hlt, by go_num, hlt2, by rw [mix_same HML.out STP.out]; exact own5, bl5⟩
          case measure => simp [intOf]; omega
        · have HM : Hid (∀ W, Calls Try.prog 17 #[.agg #[.int .u16 y.i, .int .u8 y.s, .int .u8 y.q], .agg #[.int .u16 x.i, .int .u8 x.s, .int .u8 x.q]] W fun e w' => e = .returned (.bool true) ∧ Below W.heap.size W w') := Lib.hid (fun W => hq ▸ refnewerm_any y x yi0 W)
          have STP : Hid ((mergeL l o self)[k]? = some ⟨y.i, y.s, 0⟩) := Lib.hid (by rw [HMA.out]; unfold mrg1; rw [HY.out]; simp only [hq]; rw [if_pos ⟨hself, trivial⟩])
          clear hself hq
          go_upto_region 5 with fail
          have b := Below.refl wr.heap.size wr
          have HB : Hid (∀ W, Below wr.heap.size wr W → (fun W => W.cell? ⟨g1, k * 3, none⟩ = some (.int .u16 x.i) ∧ W.cell? ⟨g1, k * 3 + 1, none⟩ = some (.int .u8 x.s) ∧ W.cell? ⟨g1, k * 3 + 2, none⟩ = some (.int .u8 x.q) ∧ W.cell? ⟨b3, o3 + k * 3, none⟩ = some (.int .u16 y.i) ∧ W.cell? ⟨b3, o3 + k * 3 + 1, none⟩ = some (.int .u8 y.s) ∧ W.cell? ⟨b3, o3 + k * 3 + 2, none⟩ = some (.int .u8 y.q)) W) := Lib.hid fun W hb => ⟨(hb.cell (p := ⟨g1, k * 3, none⟩) hb2).trans e0, (hb.cell (p := ⟨g1, k * 3 + 1, none⟩) hb2).trans e1, (hb.cell (p := ⟨g1, k * 3 + 2, none⟩) hb2).trans e2, (hb.cell (p := ⟨b3, o3 + k * 3, none⟩) hb3).trans f0, (hb.cell (p := ⟨b3, o3 + k * 3 + 1, none⟩) hb3).trans f1, (hb.cell (p := ⟨b3, o3 + k * 3 + 2, none⟩) hb3).trans f2⟩
          have HWR : IntKind.i64.wrap self = self := IntWalk.i64_in _ (by omega)
          clear ff
          go_region_held3 (fun W => W.cell? ⟨g1, k * 3, none⟩ = some (.int .u16 x.i) ∧ W.cell? ⟨g1, k * 3 + 1, none⟩ = some (.int .u8 x.s) ∧ W.cell? ⟨g1, k * 3 + 2, none⟩ = some (.int .u8 x.q) ∧ W.cell? ⟨b3, o3 + k * 3, none⟩ = some (.int .u16 y.i) ∧ W.cell? ⟨b3, o3 + k * 3 + 1, none⟩ = some (.int .u8 y.s) ∧ W.cell? ⟨b3, o3 + k * 3 + 2, none⟩ = some (.int .u8 y.q)) (first | exact HB.out _ b | exact HB.out _ (Below.drew b)) (first
            | ((with_reducible show Calls _ _ _ _ _); go_at_call 17; (with_reducible refine (HM.out _).mono ?_); rintro e w5 ⟨rfl, hb5⟩; replace b := (by first | exact Gw.call b hb5 | exact Gw.call (Below.drew b) hb5); clear hb5)
            | fail)
          obtain ⟨e0', e1', e2', f0', f1', f2'⟩ := HB.out _ b
          clear e0 e1 e2 f0 f1 f2 HWR HB
          have own5 := hown.below b
          have bl5 := Gw.call hb b
          clear b hown hb HM
          have ff := fun j => Own.free own5 j
          go_wp2_with fail
          go_region
          all_goals
            go_wp2_with fail
            have p0 := Own.put1 memc_len own5 HMX.out (j := 0) (by omega) ⟨y.i, x.s, x.q⟩ (.int .u16 y.i) rfl
            rw [Nat.add_zero] at p0
            have p1 := Own.put1 memc_len p0 (k := k) (x := ⟨y.i, x.s, x.q⟩) (by rw [List.getElem?_set_self (by rw [mix_len HML.out (by omega)]; omega)]) (j := 1) (by omega) ⟨y.i, y.s, x.q⟩ (.int .u8 y.s) rfl
            have p2 := Own.put1 memc_len p1 (k := k) (x := ⟨y.i, y.s, x.q⟩) (by rw [List.getElem?_set_self (by rw [List.length_set, mix_len HML.out (by omega)]; omega)]) (j := 2) (by omega) ⟨y.i, y.s, 0⟩ (.int .u8 0) rfl
            simp only [List.set_set] at p2
            rw [mix_set HML.out STP.out] at p2
            go_roundw
            case rel => exact ⟨k + 1, hlt, by go_num, hlt2, Own.drew p2, Gw.drew (Gw.st (Gw.st (Gw.st bl5 lown (p := ⟨g1, k * 3, none⟩) (.int .u16 y.i)) lown (p := ⟨g1, k * 3 + 1, none⟩) (.int .u8 y.s)) lown (p := ⟨g1, k * 3 + 2, none⟩) (.int .u8 0))⟩
            case measure => simp [intOf]; omega
    · have HE : Hid (mix (mergeL l o self) l k = mergeL l o self) := Lib.hid (mix_end (merge_len l o self) (fun j hj => by
        by_cases hjo : o.length ≤ j
        · exact merge_far hjo
        · rw [List.getElem?_eq_none (by rw [merge_len]; omega), List.getElem?_eq_none (by omega)]))
      rw [HE.out] at hown
      by_cases h1 : k < l.length
      · have t1 : decide ((k : Int) < (l.length : Int)) = true := by simp; omega
        have t2 : decide ((k : Int) < (o.length : Int)) = false := by simp; omega
        have t3 : ¬ k < o.length := by omega
        clear hlt
        go_wp2_with fail
        go_ret
        exact ⟨A1, c1, rfl, hown, hb⟩
      · have t1 : decide ((k : Int) < (l.length : Int)) = false := by simp; omega
        clear hlt
        go_wp2_with fail
        go_ret
        exact ⟨A1, c1, rfl, hown, hb⟩
end Go.Proofs.Ytgkdljfhmflmjaa
