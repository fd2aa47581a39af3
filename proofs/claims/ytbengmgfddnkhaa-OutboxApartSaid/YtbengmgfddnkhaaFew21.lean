/-
  Few: what its yes says (21).
-/
import Derived.Test.YtbengmgfddnkhaaBox
namespace Go.Proofs.Ytbengmgfddnkhaa
open Go.RowKit
set_option maxRecDepth 100000 in
set_option maxHeartbeats 2000000 in
theorem few15_any (e : Id) (VA DA : Option Addr) (n m vc dc g : Nat) (w : World) (hE : Ob w g #[.int .u8 e.n, .int .u16 e.i, .int .u32 e.s, .slice VA n vc, .slice DA m dc] 34) :
    Calls Try.prog 17 #[.slice (some ⟨g, 0, none⟩) 1 1, .int .i64 1] w fun e w' => ∃ r : Bool, e = .returned (.bool r) ∧ (r = true → n ≤ 8 ∧ m ≤ 70) ∧ Below w.heap.size w w' := by
  have d0 := hE.blk.2.1 0 _ rfl
  have d1 := hE.blk.2.1 1 _ rfl
  have d2 := hE.blk.2.1 2 _ rfl
  have d3 := hE.blk.2.1 3 _ rfl
  have d4 := hE.blk.2.1 4 _ rfl
  have b1 := Gw.al (Below.refl w.heap.size w) (.cells #[.int .u8 e.n, .int .u16 e.i, .int .u32 e.s, .slice VA n vc, .slice DA m dc] 34)
  clear hE
  go_enter Try.func17, Try.ntmps17
  go_wp2_with fail
  go_loopw [9] (fun i wr => (i = .int .i64 0 ∧ wr = w ∨ i = .int .i64 1 ∧ Hid (n ≤ 8 ∧ m ≤ 70) ∧ Below w.heap.size w wr)) (fun i _ => 1 - (intOf i).toNat)
  case atStart => exact .inl ⟨rfl, rfl⟩
  case round =>
    rcases hrel with ⟨rfl, rfl⟩ | ⟨rfl, HB, bl⟩
    · by_cases h1 : 8 < n
      · have t1 : decide ((8 : Int) < (n : Int)) = true := by simp; omega
        have t1n : decide (8 < n) = true := by simp; omega
        clear h1
        go_wp2_with fail
        go_ret
        exact ⟨false, rfl, (fun h => by cases h), b1⟩
      · have t1 : decide ((8 : Int) < (n : Int)) = false := by simp; omega
        have t1n : decide (8 < n) = false := by simp; omega
        by_cases h2 : 70 < m
        · have t2 : decide ((70 : Int) < (m : Int)) = true := by simp; omega
          have t2n : decide (70 < m) = true := by simp; omega
          clear h1 h2
          go_wp2_with fail
          go_ret
          exact ⟨false, rfl, (fun h => by cases h), b1⟩
        · have t2 : decide ((70 : Int) < (m : Int)) = false := by simp; omega
          have t2n : decide (70 < m) = false := by simp; omega
          have HB : Hid (n ≤ 8 ∧ m ≤ 70) := Lib.hid ⟨by omega, by omega⟩
          clear h1 h2
          go_wp2_with fail
          go_roundw
          case rel => exact .inr ⟨rfl, HB, b1⟩
          case measure => simp [intOf]
    · go_wp2_with fail
      go_ret
      exact ⟨true, rfl, fun _ => HB.out, bl⟩
/-- fewer still: one thing more in each list leaves few -/
structure MsV.fewer (x : MsV) : Prop where
  few : x.few
  L : x.L.length ≤ 900
  T : x.T.length ≤ 900
  V : x.V.length ≤ 900
  D : x.D.length ≤ 900
  M : x.M.length ≤ 900
  I : x.I.length ≤ 900
set_option maxRecDepth 100000 in
set_option maxHeartbeats 4000000 in
theorem fewMs_any (l : List MsV) (A : Option Addr) (ca : Nat) (most : Int) (w : World) (hr : OutR w.heap.size w A l) (hlen : l.length ≤ 9223372036854775807) (hll : ∀ m ∈ l, m.L.length ≤ 9223372036854775807) :
    Calls Try.prog 7 #[.slice A l.length ca, .int .i64 most] w fun e w' => ∃ r : Bool, e = .returned (.bool r) ∧ (r = true → (l.length : Int) ≤ most ∧ ∀ m ∈ l, m.fewer) ∧ Below w.heap.size w w' := by
  have HR := Lib.hid hr.row
  have HL := Lib.hid hll
  have hro := hr.out
  clear hr hll
  go_enter Try.func7, Try.ntmps7
  go_wp2_with fail
  go_loopw [11] (fun i wr => ∃ k : Nat, k ≤ l.length ∧ i = .int .i64 k ∧ Hid (∀ j x, j < k → l[j]? = some x → x.fewer) ∧ Below w.heap.size w wr) (fun i _ => l.length - (intOf i).toNat)
  case atStart => exact ⟨0, Nat.zero_le _, rfl, Lib.hid (fun j x h => absurd h (Nat.not_lt_zero _)), Below.refl _ _⟩
  case round =>
    obtain ⟨k, hk, rfl, HP, bl⟩ := hrel
    by_cases hlt : k < l.length
    · obtain ⟨x, hx⟩ : ∃ x, l[k]? = some x := ⟨_, List.getElem?_eq_getElem hlt⟩
      obtain ⟨b, o, rfl, hb, hc⟩ := (hro.below bl).at_ hx
      have hxr := HR.out x (List.mem_of_getElem? hx)
      have hxl := HL.out x (List.mem_of_getElem? hx)
      have HX := Lib.hid hx
      have ki : (k : Int) < (l.length : Int) := by omega
      have bx := Gw.al bl (.cells (msA x) 39)
      have X := Ob.new wr (msA x) 39
      clear hx
      go_upto_region 4 with (first | (with_reducible refine ldM x b (o + k * 17) hc rfl _ rfl rfl ?_) | (with_reducible refine stM_new x _ rfl _ _ rfl rfl rfl rfl ?_) | fail)
      generalize wr.alloc (.cells (msA x) 39) = w2 at *
      generalize wr.heap.size = gx at *
      have x4 : w2.cell? ⟨gx, 4, none⟩ = some (.slice x.LA x.L.length x.Lc) := X.blk.2.1 4 _ rfl
      have x5 : w2.cell? ⟨gx, 5, none⟩ = some (.slice x.TA x.T.length x.Tc) := X.blk.2.1 5 _ rfl
      have x6 : w2.cell? ⟨gx, 6, none⟩ = some (.int .u8 x.e.n) := X.blk.2.1 6 _ rfl
      have x7 : w2.cell? ⟨gx, 7, none⟩ = some (.int .u16 x.e.i) := X.blk.2.1 7 _ rfl
      have x8 : w2.cell? ⟨gx, 8, none⟩ = some (.int .u32 x.e.s) := X.blk.2.1 8 _ rfl
      have x9 : w2.cell? ⟨gx, 9, none⟩ = some (.slice x.VA x.V.length x.Vc) := X.blk.2.1 9 _ rfl
      have x10 : w2.cell? ⟨gx, 10, none⟩ = some (.slice x.DA x.D.length x.Dc) := X.blk.2.1 10 _ rfl
      have x15 : w2.cell? ⟨gx, 15, none⟩ = some (.slice x.MA x.M.length x.Mc) := X.blk.2.1 15 _ rfl
      have x16 : w2.cell? ⟨gx, 16, none⟩ = some (.slice x.IA x.I.length x.Ic) := X.blk.2.1 16 _ rfl
      by_cases h1 : 30 < x.L.length
      · have t1 : decide ((30 : Int) < (x.L.length : Int)) = true := by simp; omega
        have t1n : decide (30 < x.L.length) = true := by simp; omega
        clear h1
        go_wp2_with fail
        go_ret
        exact ⟨false, rfl, (fun h => by cases h), bx⟩
      have t1 : decide ((30 : Int) < (x.L.length : Int)) = false := by simp; omega
      have t1n : decide (30 < x.L.length) = false := by simp; omega
      by_cases h2 : 30 < x.T.length
      · have t2 : decide ((30 : Int) < (x.T.length : Int)) = true := by simp; omega
        have t2n : decide (30 < x.T.length) = true := by simp; omega
        clear h1 h2
        go_wp2_with fail
        go_ret
        exact ⟨false, rfl, (fun h => by cases h), bx⟩
      have t2 : decide ((30 : Int) < (x.T.length : Int)) = false := by simp; omega
      have t2n : decide (30 < x.T.length) = false := by simp; omega
      by_cases h3 : 30 < x.M.length
      · have t3 : decide ((30 : Int) < (x.M.length : Int)) = true := by simp; omega
        have t3n : decide (30 < x.M.length) = true := by simp; omega
        clear h1 h2 h3
        go_wp2_with fail
        go_ret
        exact ⟨false, rfl, (fun h => by cases h), bx⟩
      have t3 : decide ((30 : Int) < (x.M.length : Int)) = false := by simp; omega
      have t3n : decide (30 < x.M.length) = false := by simp; omega
      by_cases h4 : 60 < x.I.length
      · have t4 : decide ((60 : Int) < (x.I.length : Int)) = true := by simp; omega
        have t4n : decide (60 < x.I.length) = true := by simp; omega
        clear h1 h2 h3 h4
        go_wp2_with fail
        go_ret
        exact ⟨false, rfl, (fun h => by cases h), bx⟩
      have t4 : decide ((60 : Int) < (x.I.length : Int)) = false := by simp; omega
      have t4n : decide (60 < x.I.length) = false := by simp; omega
      have HF4 : Hid (x.L.length ≤ 30 ∧ x.T.length ≤ 30 ∧ x.M.length ≤ 30 ∧ x.I.length ≤ 60) := Lib.hid ⟨by omega, by omega, by omega, by omega⟩
      clear h1 h2 h3 h4
      have E := Ob.new w2 #[.int .u8 x.e.n, .int .u16 x.e.i, .int .u32 x.e.s, .slice x.VA x.V.length x.Vc, .slice x.DA x.D.length x.Dc] 34
      have X2 := X.alloc (.cells #[.int .u8 x.e.n, .int .u16 x.e.i, .int .u32 x.e.s, .slice x.VA x.V.length x.Vc, .slice x.DA x.D.length x.Dc] 34)
      have bx2 := Gw.al bx (.cells #[.int .u8 x.e.n, .int .u16 x.e.i, .int .u32 x.e.s, .slice x.VA x.V.length x.Vc, .slice x.DA x.D.length x.Dc] 34)
      go_wp2_with fail
      refine (few15_any x.e x.VA x.DA x.V.length x.D.length x.Vc x.Dc w2.heap.size _ E).mono ?_
      rintro e w3 ⟨r, rfl, hrr, hb⟩
      have b3 := Gw.call bx2 hb
      have X3 := X2.call hb
      have HRR := Lib.hid hrr
      clear hb bx2 bx X2 E x4 x5 x6 x7 x8 x9 x10 x15 x16 hrr
      cases r
      · go_wp2_with fail
        go_ret
        exact ⟨false, rfl, (fun h => by cases h), b3⟩
      have HR5 := Lib.hid (HRR.out rfl)
      have y4 : w3.cell? ⟨gx, 4, none⟩ = some (.slice x.LA x.L.length x.Lc) := X3.blk.2.1 4 _ rfl
      clear HRR
      go_wp2_with fail
      go_loopw [47] (fun i wr => ∃ q : Nat, q ≤ x.L.length ∧ i = .int .i64 q ∧ Hid (∀ j d, j < q → x.L[j]? = some d → d.l.length ≤ 8) ∧ Below w.heap.size w wr) (fun i _ => x.L.length - (intOf i).toNat)
      case atStart => exact ⟨0, Nat.zero_le _, rfl, Lib.hid (fun j x h => absurd h (Nat.not_lt_zero _)), b3⟩
      case round =>
        clear b3 y4 bl
        obtain ⟨q, hq, rfl, HQ, bl⟩ := hrel
        by_cases hql : q < x.L.length
        · obtain ⟨d, hd⟩ : ∃ d, x.L[q]? = some d := ⟨_, List.getElem?_eq_getElem hql⟩
          obtain ⟨b2, o2, hA2, hb2, hc2⟩ := (hxr.L.below bl).at_ hd
          have HD := Lib.hid hd
          have d0 : wr.cell? ⟨b2, o2 + q * 4, none⟩ = some (.int .u8 d.n) := hc2 0 _ rfl
          have d1 : wr.cell? ⟨b2, o2 + q * 4 + 1, none⟩ = some (.int .u16 d.i) := hc2 1 _ rfl
          have d2 : wr.cell? ⟨b2, o2 + q * 4 + 2, none⟩ = some (.int .u8 d.a) := hc2 2 _ rfl
          have d3 : wr.cell? ⟨b2, o2 + q * 4 + 3, none⟩ = some (.slice d.A d.l.length d.c) := hc2 3 _ rfl
          have qi : (q : Int) < (x.L.length : Int) := by omega
          have by_ := Gw.al bl (.cells #[.int .u8 d.n, .int .u16 d.i, .int .u8 d.a, .slice d.A d.l.length d.c] 55)
          have HA2 := Lib.hid hA2
          clear hd hc2
          rw [hA2]
          clear hA2
          by_cases h8 : 8 < d.l.length
          · have t8 : decide ((8 : Int) < (d.l.length : Int)) = true := by simp; omega
            have t8n : decide (8 < d.l.length) = true := by simp; omega
            clear h8
            go_wp2_with fail
            go_ret
            exact ⟨false, rfl, (fun h => by cases h), by_⟩
          · have t8 : decide ((8 : Int) < (d.l.length : Int)) = false := by simp; omega
            have t8n : decide (8 < d.l.length) = false := by simp; omega
            have HQ2 : Hid (∀ j d, j < q + 1 → x.L[j]? = some d → d.l.length ≤ 8) := Lib.hid fun j d' hj hd' => by
              rcases Nat.lt_succ_iff_lt_or_eq.1 hj with h | h
              · exact HQ.out j d' h hd'
              · subst h
                obtain rfl := Option.some.inj (HD.out.symm.trans hd')
                omega
            clear h8
            go_wp2_with fail
            go_roundw
            case rel => exact ⟨q + 1, hql, by go_num, HQ2, by_⟩
            case measure => simp [intOf]; omega
        · obtain hqe : q = x.L.length := by omega
          have HP2 : Hid (∀ j x, j < k + 1 → l[j]? = some x → x.fewer) := Lib.hid fun j y hj hy => by
            rcases Nat.lt_succ_iff_lt_or_eq.1 hj with h | h
            · exact HP.out j y h hy
            · subst h
              obtain rfl := Option.some.inj (HX.out.symm.trans hy)
              have h4 := HF4.out
              have h5 := HR5.out
              refine ⟨⟨by omega, fun d hd => ?_, by omega, by omega, by omega, by omega, by omega⟩, by omega, by omega, by omega, by omega, by omega, by omega⟩
              obtain ⟨j', hj', e'⟩ := List.getElem_of_mem hd
              have := HQ.out j' d (by omega) (by rw [List.getElem?_eq_getElem hj', e'])
              omega
          subst hqe
          go_wp2_with fail
          go_roundw
          case rel => exact ⟨k + 1, hlt, by go_num, HP2, bl⟩
          case measure => simp [intOf]; omega
    · obtain rfl : k = l.length := by omega
      have HA : Hid (∀ m ∈ l, m.fewer) := Lib.hid fun m hm => by
        obtain ⟨j, hj, e⟩ := List.getElem_of_mem hm
        exact HP.out j m hj (by rw [List.getElem?_eq_getElem hj, e])
      go_wp2_with fail
      go_ret
      exact ⟨_, rfl, fun h => ⟨of_decide_eq_true h, HA.out⟩, bl⟩
theorem fewM_any (l : List MsV) (A : Option Addr) (ca : Nat) (most : Int) (w : World) (hr : OutR w.heap.size w A l) (hlen : l.length ≤ 9223372036854775807) (hll : ∀ m ∈ l, m.L.length ≤ 9223372036854775807) :
    Calls Try.prog 7 #[.slice A l.length ca, .int .i64 most] w fun e w' => ∃ r : Bool, e = .returned (.bool r) ∧ (r = true → (l.length : Int) ≤ most ∧ ∀ m ∈ l, m.few) ∧ Below w.heap.size w w' := by
  refine (fewMs_any l A ca most w hr hlen hll).mono ?_
  rintro e w' ⟨r, rfl, h, hb⟩
  exact ⟨r, rfl, fun h1 => ⟨(h h1).1, fun m hm => ((h h1).2 m hm).few⟩, hb⟩
end Go.Proofs.Ytbengmgfddnkhaa
