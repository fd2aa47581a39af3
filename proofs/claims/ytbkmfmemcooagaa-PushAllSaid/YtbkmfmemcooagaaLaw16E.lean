/-
  PushAll: the walk.
-/
import Derived.Test.YtbkmfmemcooagaaAwake16
import Derived.Test.YtbkmfmemcooagaaLaw16B
import Derived.Test.YtbkmfmemcooagaaCounted
import Derived.Test.YtbkmfmemcooagaaTurned
import Derived.Test.YtbkmfmemcooagaaArrEq
import Derived.Test.YtbkmfmemcooagaaRows1
namespace Go.Proofs.Ytbkmfmemcooagaa
open Go.RowKit
theorem Try.infoU32e : (Try.prog.info? 33).map (fun i => (i.zero, i.size, i.bytes)) = some (some (.int .u32 0), 1, 4) := by kernel_rfl
theorem get_mid {A B : List Int} {x : Int} {k : Nat} (h : A.length = k) : ((A ++ x :: B).map (Value.int .u32))[k]? = some (.int .u32 x) := by subst h; simp
theorem set_mid {A B : List Int} {x y : Int} {k : Nat} (h : A.length = k) : ((A ++ x :: B).map (Value.int .u32)).set k (.int .u32 y) = (A ++ y :: B).map (Value.int .u32) := by
  subst h
  simp [List.set_append]
theorem cntA_perm {a b : List Int} (h : List.Perm a b) : cntA a = cntA b := by
  unfold cntA
  congr 1
  apply List.map_congr_left
  intro x _
  rw [h.count_eq]
theorem tv_split (ds : List Int) (R r n k : Nat) (hk : k < n) : (List.range (k + 1)).map (tv ds R r) ++ List.replicate (n - (k + 1)) 0 = (List.range k).map (tv ds R r) ++ ((if k < ds.length then ds.getD k 0 % R else 0) + ((r * R : Nat) : Int)) :: List.replicate (n - (k + 1)) 0 := by
  rw [List.range_succ, List.map_append, List.append_assoc]; rfl
set_option maxRecDepth 100000 in
set_option maxHeartbeats 4000000 in
theorem all_yes (l ds bs : List Int) (m q : Int) (A D B : Option Addr) (cap dcap bcap : Nat) (w : World) (hr : Rd (fun z : Int => [Value.int .u8 z]) 1 w.heap.size w A l) (rd : Rd (fun z : Int => [Value.int .u32 z]) 1 w.heap.size w D ds) (rb : Rd (fun z : Int => [Value.int .u32 z]) 1 w.heap.size w B bs)
    (hl : u8L l) (hds : ∀ x ∈ ds, 0 ≤ x ∧ x ≤ 4294967295) (hbs : ∀ x ∈ bs, 0 ≤ x ∧ x ≤ 4294967295) (hm : 0 ≤ m ∧ m ≤ 255) (hq : 0 ≤ q ∧ q ≤ 255) (h1 : l.length ≤ 12) (h2 : ds.length ≤ 100) (h3 : bs.length ≤ 100) :
    Calls Try.prog 5 #[.slice A l.length cap, .int .u8 m, .slice D ds.length dcap, .slice B bs.length bcap, .int .u8 q] w fun e w' => e = .returned (.bool true) ∧ Below w.heap.size w w' := by
    obtain ⟨j0, hj0, hy0, hy1, hy2⟩ := info_parts Try.infoU32e
    have t1 : decide ((12 : Int) < (l.length : Int)) = false := decide_eq_false (by omega)
    have t2 : decide ((100 : Int) < (ds.length : Int)) = false := decide_eq_false (by omega)
    have t3 : decide ((100 : Int) < (bs.length : Int)) = false := decide_eq_false (by omega)
    obtain ⟨r, hr4⟩ : ∃ r : Nat, q % 4 = r := ⟨(q % 4).toNat, by omega⟩
    have hr3 : r ≤ 3 := by omega
    obtain ⟨PA, hPA⟩ : ∃ L, pickL l.length l ds = L := ⟨_, rfl⟩
    have uA : u8L PA := by rw [← hPA]; exact pickL_mem hl
    have nA : PA.length = l.length := by rw [← hPA, pickL_len]; omega
    obtain ⟨N, hN⟩ : ∃ N : Int, (l.length : Int) + m = N := ⟨_, rfl⟩
    have PK1 : Hid (∀ W A D, Rd (fun z : Int => [Value.int .u8 z]) 1 W.heap.size W A l → Rd (fun z : Int => [Value.int .u32 z]) 1 W.heap.size W D ds → Calls Try.prog 12 #[.slice A l.length cap, .int .i64 N, .slice D ds.length dcap] W fun e w' => ∃ A' c', e = .returned (.slice A' l.length c') ∧ Own (fun z : Int => [Value.int .u8 z]) 1 5 W.heap.size w' (.slice A' l.length c') PA ∧ Below W.heap.size W w') := Lib.hid (fun W A D h3 h4 => by
      have := pick_any l ds N A D cap dcap W h3 h4 (by omega) (by omega) (by omega) hds
      rw [pickL_more (n := N.toNat) (by omega), hPA, nA] at this
      exact this)
    have hC : cntA PA = cntA l := cntA_perm (by rw [← hPA]; exact pickL_perm _ _ _ (Nat.le_refl _))
    have CN1 : Hid (∀ W A c, Rd (fun z : Int => [Value.int .u8 z]) 1 W.heap.size W A PA → Calls Try.prog 14 #[.slice A l.length c] W fun e w' => e = .returned (.agg (cntA l)) ∧ Below W.heap.size W w') := Lib.hid (fun W A c h => by
      have := counted_any PA A c W h uA (by omega)
      rwa [nA, hC] at this)
    clear hC
    obtain ⟨R, hR⟩ : ∃ R, fac l.length = R := ⟨_, rfl⟩
    have hR1 : 1 ≤ R := by rw [← hR]; exact fac_pos _
    have hR2 : R ≤ 479001600 := by rw [← hR]; exact fac_le h1
    have HFR := Lib.hid hR
    have PT := Lib.hid (show pickL l.length l ((List.range l.length).map (tv ds R r) ++ bs) = PA by rw [← hR, ← hPA]; exact pick_turned l ds bs (fun x hx => (hds x hx).1) r)
    have HDS := Lib.hid hds
    have HBS := Lib.hid hbs
    have UA := Lib.hid uA
    have UL := Lib.hid hl
    have NA := Lib.hid nA
    have HL1 := Lib.hid h1
    have hq0 : ∀ W : World, (Op.equalIn 10000 30 (.agg (cntA l)) (.agg (cntA l))).run Try.prog W = .ok true W := fun W => run_equalIn_same W 9998 Try.underlying30 Try.underlying3 (by kernel_rfl) (cntA l) (fun i hi => ⟨_, cntA_at l hi⟩)
    have hq1 : Try.prog.eqGuardType Try.prog.depth 30 = false := by kernel_rfl
    have RD0 := Lib.hid rd
    have RB0 := Lib.hid rb
    have HR0 := Lib.hid hr
    clear hPA uA nA hR hds hbs hl
    go_enter Try.func5, Try.ntmps5
    go_wp2_with fail
    refine (PK1.out _ _ _ hr rd).mono ?_
    rintro e w1 ⟨A1, k1, rfl, o1, b1⟩
    go_wp2_with fail
    refine (CN1.out _ _ _ (o1.rd (int_len .u8))).mono ?_
    rintro e w2 ⟨rfl, hb⟩
    replace o1 := Own.below o1 hb
    have b2 := Gw.call b1 hb
    clear hb
    go_wp2_with fail
    refine (counted_any l A cap _ (hr.up b2) UL.out (by omega)).mono ?_
    rintro e w3 ⟨rfl, hb⟩
    replace o1 := Own.below o1 hb
    have b3 := Gw.call b2 hb
    clear hb
    go_wp2_with fail
    go_loopw [12, 47] (fun p i wr => ∃ k : Nat, k ≤ l.length ∧ p = .int .u32 (fac k) ∧ i = .int .i64 k ∧ Below w.heap.size w wr ∧ Own (fun z : Int => [Value.int .u8 z]) 1 5 w.heap.size wr (.slice A1 l.length k1) PA) (fun _ i _ => l.length - (intOf i).toNat)
    case atStart => exact ⟨0, Nat.zero_le _, rfl, rfl, b3, o1⟩
    case round =>
      clear o1
      obtain ⟨k, hk, rfl, rfl, hw, o1⟩ := hrel
      by_cases hlt : k < l.length
      · obtain ⟨c, hc⟩ : ∃ c : Nat, fac k = c := ⟨_, rfl⟩
        obtain ⟨c2, hc2⟩ : ∃ c : Nat, fac (k + 1) = c := ⟨_, rfl⟩
        have hc3 : c2 ≤ 479001600 := by rw [← hc2]; exact fac_le (by omega)
        have hc4 : (c : Int) * ((k : Int) + 1) = (c2 : Int) := by rw [← hc, ← hc2]; show _ = ((fac k * (k + 1) : Nat) : Int); simp
        have hc5 : c ≤ 479001600 := by rw [← hc]; exact fac_le (by omega)
        have HC2 := Lib.hid hc2
        rw [hc]
        clear hc hc2
        go_wp2_with fail
        go_roundw
        case rel => exact ⟨k + 1, by omega, by rw [HC2.out], by go_num, hw, o1⟩
        case measure => simp [intOf]; omega
      · obtain rfl : k = l.length := by omega
        rw [HFR.out]
        obtain ⟨G, hG⟩ : ∃ G, G = wr.heap.size := ⟨_, rfl⟩
        have lo1 : ∀ j, (Value.slice A1 l.length k1).ownBlock = some j → j < G := by rw [hG]; exact fun j hj => Own.hi o1 j hj
        have hGw : w.heap.size ≤ G := by rw [hG]; exact Gw.sub hw
        go_wp2_with (refine wpList_make_full _ rfl _ _ 23 rfl wr.heap.size 33 j0 _ 1 Try.underlying23 hj0 hy0 hy1 _ _ _ _ l.length rfl rfl rfl rfl (by rw [hy2]; omega) (by unfold maxLen; omega) (Nat.le_refl _) ?_; intro w4 hown1 hg1)
        rw [made_one _ rfl] at hown1
        have row : Row1 G 33 w4 G ((([] : List Nat).map (tv ds R r) ++ List.replicate l.length 0).map (Value.int .u32)) := by
          rw [hG]; unfold Row1; simpa using hown1
        have b4 := Gw.call hw (Gw.none_ hg1)
        replace o1 := Own.below o1 (Gw.none_ hg1)
        rw [← hG]
        clear hown1 hg1 hG hw
        go_loopw [61] (fun i wr => ∃ k : Nat, k ≤ l.length ∧ i = .int .i64 k ∧ Below w.heap.size w wr ∧ Row1 G 33 wr G (((List.range k).map (tv ds R r) ++ List.replicate (l.length - k) 0).map (Value.int .u32)) ∧ Own (fun z : Int => [Value.int .u8 z]) 1 5 w.heap.size wr (.slice A1 l.length k1) PA) (fun i _ => l.length - (intOf i).toNat)
        case atStart => exact ⟨0, Nat.zero_le _, rfl, b4, by simpa using row, o1⟩
        case round =>
          clear row o1 b4
          obtain ⟨k, hk, rfl, hw, row, o1⟩ := hrel
          by_cases hlt : k < l.length
          · have hrep : List.replicate (l.length - k) (0 : Int) = 0 :: List.replicate (l.length - (k + 1)) 0 := by
              rw [show l.length - k = (l.length - (k + 1)) + 1 by omega, List.replicate_succ]
            rw [hrep] at row
            obtain ⟨pre, hpre⟩ : ∃ L, (List.range k).map (tv ds R r) = L := ⟨_, rfl⟩
            obtain ⟨post, hpost⟩ : ∃ L, List.replicate (l.length - (k + 1)) (0 : Int) = L := ⟨_, rfl⟩
            have HPL := Lib.hid (show pre.length = k by rw [← hpre]; simp)
            have hsp := tv_split ds R r l.length k hlt
            rw [hpre, hpost] at row
            rw [hpre, hpost] at hsp
            have HPO := Lib.hid hpost
            by_cases hkd : k < ds.length
            · obtain ⟨d, hd⟩ : ∃ d, ds[k]? = some d := ⟨_, List.getElem?_eq_getElem hkd⟩
              have hdg : ds.getD k 0 = d := by rw [List.getD_eq_getElem?_getD, hd]; rfl
              have hd1 := HDS.out d (List.mem_of_getElem? hd)
              obtain ⟨bd, od, rfl, _, ed⟩ := (RD0.out.up hw).int1 hd
              obtain ⟨x0, hx0⟩ : ∃ x, d % (R : Int) = x := ⟨_, rfl⟩
              have hx1 : 0 ≤ x0 := by rw [← hx0]; exact Int.emod_nonneg _ (by omega)
              have hx2 : x0 < R := by rw [← hx0]; exact Int.emod_lt_of_pos _ (by omega)
              rw [if_pos hkd, hdg, hx0] at hsp
              have HNX := Lib.hid hsp
              have e1 := Row1.cell row (get_mid (x := 0) HPL.out)
              have f1 := fun i => Row1.free row i
              have RW := Lib.hid (Row1.set row k (.int .u32 x0))
              have HD := Lib.hid hd
              clear hsp hpre hpost hdg hd hrep row rd
              go_wp2_with fail
              have row := RW.out
              rw [set_mid (x := 0) (y := x0) HPL.out] at row
              have hw2 := Gw.st hw (p := ⟨G, k, none⟩) (by show w.heap.size ≤ G; omega) (.int .u32 x0)
              have o2 := Own.far (p := ⟨G, k, none⟩) o1 (fun j hj => by have := lo1 j hj; show j ≠ G; omega) (.int .u32 x0)
              clear e1 f1 ed
              go_loopw [79] (fun i wr => ∃ j : Nat, j ≤ r ∧ i = .int .u8 j ∧ Below w.heap.size w wr ∧ Row1 G 33 wr G ((pre ++ (x0 + ((j * R : Nat) : Int)) :: post).map (Value.int .u32)) ∧ Own (fun z : Int => [Value.int .u8 z]) 1 5 w.heap.size wr (.slice A1 l.length k1) PA) (fun i _ => r - (intOf i).toNat)
              case atStart => exact ⟨0, Nat.zero_le _, rfl, hw2, by simpa using row, o2⟩
              case round =>
                clear hw row o1 o2 hw2 RW
                obtain ⟨j, hj, rfl, hw, row, o1⟩ := hrel
                by_cases hlj : j < r
                · obtain ⟨y, hy⟩ : ∃ y : Int, x0 + ((j * R : Nat) : Int) = y := ⟨_, rfl⟩
                  obtain ⟨y2, hy2⟩ : ∃ y : Int, x0 + (((j + 1) * R : Nat) : Int) = y := ⟨_, rfl⟩
                  have hyR : y + (R : Int) = y2 := by rw [← hy, ← hy2, Nat.add_mul]; omega
                  have hy0 : 0 ≤ y := by rw [← hy]; omega
                  have hy3 : y2 ≤ 4294967295 := by
                    rw [← hy2]
                    have : (j + 1) * R ≤ 3 * R := Nat.mul_le_mul_right _ (by omega)
                    omega
                  rw [hy] at row
                  have e1 := Row1.cell row (get_mid (x := y) HPL.out)
                  have f1 := fun i => Row1.free row i
                  have HR := Lib.hid (fun u => Row1.set row k u)
                  have HY2 := Lib.hid hy2
                  clear hy hy2 row
                  go_wp2_with fail
                  go_roundw
                  case rel => exact ⟨j + 1, by omega, by go_num, Gw.st hw (p := ⟨G, k, none⟩) (by show w.heap.size ≤ G; omega) _, by rw [HY2.out, ← set_mid (x := y) HPL.out]; exact HR.out _, Own.far (p := ⟨G, k, none⟩) o1 (fun j hj => by have := lo1 j hj; show j ≠ G; omega) _⟩
                  case measure => simp [intOf]; omega
                · obtain rfl : j = r := by omega
                  go_wp2_with fail
                  go_roundw
                  case rel => exact ⟨k + 1, by omega, by go_num, hw, by rw [HPO.out, HNX.out]; exact row, o1⟩
                  case measure => simp [intOf]; omega
            · obtain ⟨x0, hx0⟩ : ∃ x, (0 : Int) = x := ⟨_, rfl⟩
              have hx1 : 0 ≤ x0 := by omega
              have hx2 : x0 < R := by omega
              rw [if_neg hkd, hx0] at hsp
              rw [hx0] at row
              have HNX := Lib.hid hsp
              have HX0 := Lib.hid hx0
              clear hsp hpre hpost hrep hx0
              go_wp2_with fail
              go_loopw [79] (fun i wr => ∃ j : Nat, j ≤ r ∧ i = .int .u8 j ∧ Below w.heap.size w wr ∧ Row1 G 33 wr G ((pre ++ (x0 + ((j * R : Nat) : Int)) :: post).map (Value.int .u32)) ∧ Own (fun z : Int => [Value.int .u8 z]) 1 5 w.heap.size wr (.slice A1 l.length k1) PA) (fun i _ => r - (intOf i).toNat)
              case atStart => exact ⟨0, Nat.zero_le _, rfl, hw, by simpa using row, o1⟩
              case round =>
                clear hw row o1
                obtain ⟨j, hj, rfl, hw, row, o1⟩ := hrel
                by_cases hlj : j < r
                · obtain ⟨y, hy⟩ : ∃ y : Int, x0 + ((j * R : Nat) : Int) = y := ⟨_, rfl⟩
                  obtain ⟨y2, hy2⟩ : ∃ y : Int, x0 + (((j + 1) * R : Nat) : Int) = y := ⟨_, rfl⟩
                  have hyR : y + (R : Int) = y2 := by rw [← hy, ← hy2, Nat.add_mul]; omega
                  have hy0 : 0 ≤ y := by rw [← hy]; omega
                  have hy3 : y2 ≤ 4294967295 := by
                    rw [← hy2]
                    have : (j + 1) * R ≤ 3 * R := Nat.mul_le_mul_right _ (by omega)
                    omega
                  rw [hy] at row
                  have e1 := Row1.cell row (get_mid (x := y) HPL.out)
                  have f1 := fun i => Row1.free row i
                  have HR := Lib.hid (fun u => Row1.set row k u)
                  have HY2 := Lib.hid hy2
                  clear hy hy2 row
                  go_wp2_with fail
                  go_roundw
                  case rel => exact ⟨j + 1, by omega, by go_num, Gw.st hw (p := ⟨G, k, none⟩) (by show w.heap.size ≤ G; omega) _, by rw [HY2.out, ← set_mid (x := y) HPL.out]; exact HR.out _, Own.far (p := ⟨G, k, none⟩) o1 (fun j hj => by have := lo1 j hj; show j ≠ G; omega) _⟩
                  case measure => simp [intOf]; omega
                · obtain rfl : j = r := by omega
                  go_wp2_with fail
                  go_roundw
                  case rel => exact ⟨k + 1, by omega, by go_num, hw, by rw [HPO.out, HNX.out]; exact row, o1⟩
                  case measure => simp [intOf]; omega
          · obtain rfl : k = l.length := by omega
            rw [Nat.sub_self, List.replicate_zero, List.append_nil] at row
            obtain ⟨T, hT⟩ : ∃ T, (List.range l.length).map (tv ds R r) = T := ⟨_, rfl⟩
            have nT : T.length = l.length := by rw [← hT]; simp
            have hTk : ∀ k, k < l.length → T[k]? = some (tv ds R r k) := fun k hk => by rw [← hT]; simp [hk]
            have hTb : ∀ x ∈ T, 0 ≤ x ∧ x ≤ 4294967295 := fun x hx => by
              rw [← hT] at hx
              obtain ⟨j, _, rfl⟩ := List.mem_map.1 hx
              have := tv_bound (ds := ds) (R := R) (r := r) (j := j) hR1
              have h9 : (r + 1) * R ≤ 4 * R := Nat.mul_le_mul_right _ (by omega)
              omega
            rw [hT] at row
            have hPT := PT.out
            rw [hT] at hPT
            have hTl : (T ++ bs).length = l.length + bs.length := by simp [nT]
            have PK2 : Hid (∀ W A9 c9, Below w.heap.size w W → Rd (fun z : Int => [Value.int .u32 z]) 1 W.heap.size W A9 (T ++ bs) → Calls Try.prog 12 #[.slice A l.length cap, .int .i64 l.length, .slice A9 (l.length + bs.length) c9] W fun e w' => ∃ A' c', e = .returned (.slice A' l.length c') ∧ Own (fun z : Int => [Value.int .u8 z]) 1 5 W.heap.size w' (.slice A' l.length c') PA ∧ Below W.heap.size W w') := Lib.hid (fun W A9 c9 hb h => by
              have := pick_any l (T ++ bs) (l.length : Int) A A9 cap c9 W (HR0.out.up hb) h (by have := HL1.out; omega) (by rw [hTl]; have := HL1.out; omega) (by have := HL1.out; omega) (fun x hx => by
                rcases List.mem_append.1 hx with h | h
                · exact hTb x h
                · exact HBS.out x h)
              rw [Int.toNat_natCast, hPT, NA.out, hTl] at this
              exact this)
            have HTK := Lib.hid hTk
            have NT := Lib.hid nT
            clear hT hTb hPT hTl hTk nT
            go_wp2_with fail
            go_loopw [92] (fun i wr => ∃ k : Nat, k ≤ l.length ∧ i = .int .i64 k ∧ Below w.heap.size w wr ∧ Row1 G 33 wr G (T.map (Value.int .u32)) ∧ Own (fun z : Int => [Value.int .u8 z]) 1 5 w.heap.size wr (.slice A1 l.length k1) PA) (fun i _ => l.length - (intOf i).toNat)
            case atStart => exact ⟨0, Nat.zero_le _, rfl, hw, row, o1⟩
            case round =>
              clear row o1 hw
              obtain ⟨k, hk, rfl, hw, row, o1⟩ := hrel
              by_cases hlt : k < l.length
              · obtain ⟨v, hv⟩ : ∃ v, tv ds R r k = v := ⟨_, rfl⟩
                have hvb := tv_bound (ds := ds) (R := R) (r := r) (j := k) hR1
                rw [hv] at hvb
                have h9 : (r + 1) * R ≤ 4 * R := Nat.mul_le_mul_right _ (by omega)
                have hv0 : 0 ≤ v := by omega
                have hv1 : v ≤ 4294967295 := by omega
                obtain ⟨d, hd⟩ : ∃ d, v / (R : Int) = d := ⟨_, rfl⟩
                have hd0 : 0 ≤ d := by rw [← hd]; exact Int.ediv_nonneg hv0 (by omega)
                have hd1 : d < 4 := by rw [← hd]; exact Int.ediv_lt_of_lt_mul (by omega) (by omega)
                have e1 := Row1.cell row (j := k) (v := .int .u32 v) (by rw [List.getElem?_map, HTK.out k hlt, hv]; rfl)
                have f1 := fun i => Row1.free row i
                clear hv hvb h9
                go_wp2_with fail
                go_roundw
                case rel => exact ⟨k + 1, by omega, by go_num, hw, row, o1⟩
                case measure => simp [intOf]; omega
              · obtain rfl : k = l.length := by omega
                have oT : Own (fun z : Int => [Value.int .u32 z]) 1 33 G wr (.slice (some ⟨G, 0, none⟩) l.length l.length) T := by
                  have := row
                  unfold Row1 at this
                  rw [List.length_map, NT.out] at this
                  unfold Own
                  rw [NT.out, ← List.map_eq_flatMap]
                  exact this
                have hGl := (Row1.lt row).2
                have rB := RB0.out.up hw
                go_wp2_with (first | (at_builtin; refine wpList_app _ rfl (.tmp 106) (.tmp 107) _ rfl G 33 j0 _ 4 Try.underlying23 hj0 hy0 hy1 hy2 rfl (by omega) (int_len .u32) (int_one .u32) (.slice (some ⟨G, 0, none⟩) l.length l.length) T rfl oT l.length NT.out.symm _ _ _ _ bs rfl rfl rB (by omega) (by omega) (by omega) ?_; intro A9 c9 w9 o9 hg9) | fail)
                have b9 := Gw.gr hw hg9 (fun k hk => by have := own_blk hk; simp at this; omega)
                replace o1 := Own.keep o1 hg9 (by
                  rcases hv : (Value.slice A1 l.length k1).ownBlock with _ | j
                  · exact .inl rfl
                  · refine .inr (fun e => ?_)
                    have h1 := lo1 j hv
                    have h2 : some j = some G := e
                    injection h2 with h2
                    omega)
                refine (PK2.out _ _ _ b9 (o9.rd (int_len .u32))).mono ?_
                rintro e w10 ⟨A10, k10, rfl, o10, hb⟩
                replace o1 := Own.below o1 hb
                have b10 := Gw.call b9 hb
                clear hb hg9
                go_wp2_with fail
                refine (same01_any PA PA A1 A10 l.length l.length k1 k10 _ (o1.rd (int_len .u8)) (o10.rd (int_len .u8)) NA.out.symm NA.out.symm UA.out UA.out).mono ?_
                rintro e w11 ⟨rfl, rfl⟩
                rw [decide_eq_true rfl]
                go_wp2_with fail
                refine (awake_any _).mono ?_
                rintro e w12 ⟨rfl, hb⟩
                have b12 := Gw.call b10 hb
                clear hb
                go_wp2_with fail
                go_ret
                exact ⟨rfl, b12⟩
set_option maxHeartbeats 1000000 in
theorem all_any (l ds bs : List Int) (m q : Int) (A D B : Option Addr) (cap dcap bcap : Nat) (w : World) (hr : Rd (fun z : Int => [Value.int .u8 z]) 1 w.heap.size w A l) (rd : Rd (fun z : Int => [Value.int .u32 z]) 1 w.heap.size w D ds) (rb : Rd (fun z : Int => [Value.int .u32 z]) 1 w.heap.size w B bs)
    (hl : u8L l) (hds : ∀ x ∈ ds, 0 ≤ x ∧ x ≤ 4294967295) (hbs : ∀ x ∈ bs, 0 ≤ x ∧ x ≤ 4294967295) (hm : 0 ≤ m ∧ m ≤ 255) (hq : 0 ≤ q ∧ q ≤ 255) :
    Calls Try.prog 5 #[.slice A l.length cap, .int .u8 m, .slice D ds.length dcap, .slice B bs.length bcap, .int .u8 q] w fun e w' => e = .returned (.bool true) ∧ Below w.heap.size w w' := by
  by_cases h1 : 12 < l.length
  · have t1 : decide ((12 : Int) < (l.length : Int)) = true := decide_eq_true (by omega)
    go_enter Try.func5, Try.ntmps5
    go_wp2_with fail
    refine (awake_any _).mono ?_
    rintro e w1 ⟨rfl, hb⟩
    go_wp2_with fail
    go_ret
    exact ⟨rfl, hb⟩
  · have t1 : decide ((12 : Int) < (l.length : Int)) = false := decide_eq_false (by omega)
    by_cases h2 : 100 < ds.length
    · have t2 : decide ((100 : Int) < (ds.length : Int)) = true := decide_eq_true (by omega)
      go_enter Try.func5, Try.ntmps5
      go_wp2_with fail
      refine (awake_any _).mono ?_
      rintro e w1 ⟨rfl, hb⟩
      go_wp2_with fail
      go_ret
      exact ⟨rfl, hb⟩
    · have t2 : decide ((100 : Int) < (ds.length : Int)) = false := decide_eq_false (by omega)
      by_cases h3 : 100 < bs.length
      · have t3 : decide ((100 : Int) < (bs.length : Int)) = true := decide_eq_true (by omega)
        go_enter Try.func5, Try.ntmps5
        go_wp2_with fail
        refine (awake_any _).mono ?_
        rintro e w1 ⟨rfl, hb⟩
        go_wp2_with fail
        go_ret
        exact ⟨rfl, hb⟩
      · exact all_yes l ds bs m q A D B cap dcap bcap w hr rd rb hl hds hbs hm hq (by omega) (by omega) (by omega)
end Go.Proofs.Ytbkmfmemcooagaa
