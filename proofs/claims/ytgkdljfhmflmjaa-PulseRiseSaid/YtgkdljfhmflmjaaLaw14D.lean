/-
  PulseRise (14): begun.
-/
import Derived.Test.YtgkdljfhmflmjaaAwake14
import Derived.Test.YtgkdljfhmflmjaaRise14
import Derived.Test.YtgkdljfhmflmjaaOpenOp
namespace Go.Proofs.Ytgkdljfhmflmjaa
open Go.RowKit
theorem table_good2 {l : List Mb} (h : ∀ x ∈ l, x.ok) : Good (tableL l) := fun x hx => by
  obtain ⟨y, hy, rfl⟩ := List.mem_map.1 hx
  obtain ⟨h1, h2, h3⟩ := h y hy
  unfold tab1
  split
  · exact ⟨⟨by simp, by simp, by simp⟩, fun _ => ⟨rfl, rfl⟩, fun hn => absurd rfl hn⟩
  · rename_i hz
    refine ⟨⟨h1, by show 0 ≤ 1 + y.s % 3 ∧ 1 + y.s % 3 ≤ 255; omega, h3⟩, fun h0 => absurd h0 hz, fun _ => ?_⟩
    show 1 ≤ 1 + y.s % 3 ∧ 1 + y.s % 3 ≤ 3
    omega
set_option maxRecDepth 100000 in
set_option maxHeartbeats 8000000 in
theorem prise_any (l : List Mb) (A : Option Addr) (ca : Nat) (ops : List OpV) (B : Option Addr) (cb : Nat) (self : Int) (w : World) (hr : Rd memc 3 w.heap.size w A l) (hlc : l.length ≤ ca) (hcm : ca ≤ maxLen) (hok : ∀ x ∈ l, x.ok) (ho : Rd opc 5 w.heap.size w B ops) (holc : ops.length ≤ cb) (hom : cb ≤ maxLen) (hoo : ∀ x ∈ ops, x.ok w) (hs : 0 ≤ self ∧ self ≤ 255) :
    Calls Try.prog 6 #[.slice A l.length ca, .slice B ops.length cb, .int .u8 self] w fun e w' => e = .returned (.bool true) ∧ Below w.heap.size w w' := by
  unfold maxLen at hcm hom
  obtain ⟨mn, hmn⟩ : ∃ mn : Nat, mn = min l.length 20 := ⟨_, rfl⟩
  obtain ⟨on, hon⟩ : ∃ on : Nat, on = min ops.length 40 := ⟨_, rfl⟩
  have hmi : (if (20 : Int) < (l.length : Int) then (20 : Int) else (l.length : Int)) = (mn : Int) := by split <;> omega
  have hoi : (if (40 : Int) < (ops.length : Int) then (40 : Int) else (ops.length : Int)) = (on : Int) := by split <;> omega
  have mnl : mn ≤ l.length := by omega
  have mn20 : mn ≤ 20 := by omega
  have mc : (mn : Int) ≤ (ca : Int) := by omega
  have onl : on ≤ ops.length := by omega
  have on40 : on ≤ 40 := by omega
  have oc : (on : Int) ≤ (cb : Int) := by omega
  have htl : (l.take mn).length = mn := by simp; omega
  have tok : ∀ x ∈ l.take mn, x.ok := fun x hx => hok x (List.mem_of_mem_take hx)
  have HT := Lib.hid (fun W h => table_any (l.take mn) A ca W h (by omega) tok)
  rw [htl] at HT
  obtain ⟨T, hT⟩ : ∃ T, T = tableL (l.take mn) := ⟨_, rfl⟩
  have HTL : Hid (T.length = mn) := Lib.hid (by rw [hT, table_len, htl])
  have TG : Hid (Good T) := Lib.hid (by rw [hT]; exact table_good2 tok)
  rw [← hT] at HT
  obtain ⟨s0, s1⟩ := hs
  have HOO := Lib.hid hoo
  clear hT tok htl hmn hon hok hoo
  go_enter Try.func6, Try.ntmps6
  go_wp2_with fail
  refine (HT.out _ (hr.take mn)).mono ?_
  rintro e w1 ⟨A1, c1, rfl, o1, bl⟩
  clear HT hr hmi
  go_wp2_with fail
  go_loopw [7, 26] (fun x i wr => ∃ (k : Nat) (X : List Mb) (A' : Option Addr) (c' : Nat), k ≤ on ∧ i = .int .i64 k ∧ x = .slice A' mn c' ∧ Rd memc 3 wr.heap.size wr A' X ∧ Hid (X.length = mn) ∧ Hid (Good X) ∧ Below w.heap.size w wr) (fun _ i _ => on - (intOf i).toNat)
  case atStart => exact ⟨0, T, A1, c1, Nat.zero_le _, rfl, rfl, o1.rd memc_len, HTL, TG, bl⟩
  case round =>
    clear bl o1 TG HTL
    obtain ⟨k, X, A', c', hk, rfl, rfl, rX, HX, GX, bl⟩ := hrel
    by_cases hlt : k < on
    · obtain ⟨x, hx⟩ : ∃ x, ops[k]? = some x := ⟨_, List.getElem?_eq_getElem (by omega)⟩
      obtain ⟨⟨k0, k1⟩, ⟨n0, n1⟩, ⟨i0, i1⟩, ⟨f0, f1⟩, lc, cm, rl, okl⟩ := HOO.out x (List.mem_of_getElem? hx)
      unfold maxLen at cm
      obtain ⟨b, o, rfl, hb, hc⟩ := (ho.below bl).at_ hx
      have d0 : wr.cell? ⟨b, o + k * 5, none⟩ = some (.int .u8 x.k) := hc 0 _ rfl
      have d1 : wr.cell? ⟨b, o + k * 5 + 1, none⟩ = some (.int .u8 x.nd) := hc 1 _ rfl
      have d2 : wr.cell? ⟨b, o + k * 5 + 2, none⟩ = some (.int .u16 x.inc) := hc 2 _ rfl
      have d3 : wr.cell? ⟨b, o + k * 5 + 3, none⟩ = some (.int .i64 x.af) := hc 3 _ rfl
      have d4 : wr.cell? ⟨b, o + k * 5 + 4, none⟩ = some (.slice x.A x.l.length x.cap) := hc 4 _ rfl
      clear hc hx
      have ki : (k : Int) < (on : Int) := by omega
      by_cases q0 : x.k = 0
      · rw [q0] at d0
        clear q0
        have G := Ob.new wr #[.int .u8 0, .int .u8 x.nd, .int .u16 x.inc, .int .i64 x.af, .slice x.A x.l.length x.cap] 40
        have bx := Gw.al bl (.cells #[.int .u8 0, .int .u8 x.nd, .int .u16 x.inc, .int .i64 x.af, .slice x.A x.l.length x.cap] 40)
        have rY := Rd.allocS rX (.cells #[.int .u8 0, .int .u8 x.nd, .int .u16 x.inc, .int .i64 x.af, .slice x.A x.l.length x.cap] 40)
        have HD := Lib.hid (fun (nd inc : Int) (W : World) h hn hi => heard_any X A' c' nd inc W h (by have := HX.out; omega) hn hi)
        rw [HX.out] at HD
        clear k0 k1
        go_wp2_with fail
        refine (HD.out _ _ _ rY ⟨n0, n1⟩ i0).mono ?_
        rintro e w3 ⟨A2, c2, rfl, o2, hb2⟩
        replace bx := Gw.call bx hb2
        replace rY := rY.up hb2
        replace G := G.call hb2
        clear hb2 HD
        obtain ⟨rs, gn⟩ := rises_heard (k := x.nd.toNat) self GX.out i0 i1
        have RS := Lib.hid rs
        have GN := Lib.hid gn
        have LN : Hid ((modL X x.nd.toNat (heardM x.inc)).length = mn) := Lib.hid (rs.1.trans HX.out)
        clear rs gn
        obtain ⟨N, hN⟩ : ∃ N, N = modL X x.nd.toNat (heardM x.inc) := ⟨_, rfl⟩
        rw [← hN] at o2 RS GN LN
        clear hN
        have r2 := o2.rd memc_len
        clear o2 rX rl d0 d1 d2 d3 d4 hb
        go_wp2_with fail
        go_loopw [76] (fun i wi => ∃ j : Nat, j ≤ mn ∧ i = .int .i64 j ∧ Rd memc 3 wi.heap.size wi A' X ∧ Rd memc 3 wi.heap.size wi A2 N ∧ Ob wi wr.heap.size #[.int .u8 0, .int .u8 x.nd, .int .u16 x.inc, .int .i64 x.af, .slice x.A x.l.length x.cap] 40 ∧ Below w.heap.size w wi) (fun i _ => mn - (intOf i).toNat)
        case atStart => exact ⟨0, Nat.zero_le _, rfl, rY, r2, G, bx⟩
        case round =>
          clear rY r2 G bx
          obtain ⟨j, hj, rfl, r1, r2, G, bi⟩ := hrel
          by_cases hjl : j < mn
          · obtain ⟨p, hp⟩ : ∃ p, X[j]? = some p := ⟨_, List.getElem?_eq_getElem (by have := HX.out; omega)⟩
            obtain ⟨y, hy⟩ : ∃ y, N[j]? = some y := ⟨_, List.getElem?_eq_getElem (by have := LN.out; omega)⟩
            obtain ⟨⟨p1, p2, p3, p4⟩, p5⟩ := RS.out.2 j p y hp hy
            obtain ⟨⟨⟨u0, u1⟩, ⟨v0, v1⟩, z0, z1⟩, _, _⟩ := GN.out y (List.mem_of_getElem? hy)
            obtain ⟨⟨⟨u2, u3⟩, ⟨v2, v3⟩, z2, z3⟩, _, _⟩ := GX.out p (List.mem_of_getElem? hp)
            obtain ⟨bm, om, rfl, _, a0, a1, a2⟩ := r1.mem3 hp
            obtain ⟨bn, pn, rfl, _, e0, e1, e2⟩ := r2.mem3 hy
            have c0 := G.blk.2.1 0 _ rfl
            have lG := G.lt
            have ji : (j : Int) < (mn : Int) := by omega
            have t30 : decide (3 < y.s) = false := by simp; omega
            clear hp hy
            by_cases js : (j : Int) = self
            · have t8 : ((j : Int) == self) = true := by rw [beq_iff_eq]; exact js
              subst js
              by_cases s3 : p.s = 3
              · by_cases se : y.i = p.i
                · have ys := p2 s3 se
                  have pz : (p.i == 0) = false := by rw [beq_eq_false_iff_ne]; intro h; have := p4.1 (se.trans h); omega
                  rw [s3] at a1
                  rw [se] at e0
                  rw [ys] at e1 t30
                  clear s3 se ys
                  have Ga := (G.alloc (.cells #[.int .u16 p.i, .int .u8 3, .int .u8 p.q] 27)).alloc (.cells #[.int .u16 p.i, .int .u8 3, .int .u8 y.q] 27)
                  have ra := Rd.allocS (Rd.allocS r1 (.cells #[.int .u16 p.i, .int .u8 3, .int .u8 p.q] 27)) (.cells #[.int .u16 p.i, .int .u8 3, .int .u8 y.q] 27)
                  have rb := Rd.allocS (Rd.allocS r2 (.cells #[.int .u16 p.i, .int .u8 3, .int .u8 p.q] 27)) (.cells #[.int .u16 p.i, .int .u8 3, .int .u8 y.q] 27)
                  have ba := Gw.al (Gw.al bi (.cells #[.int .u16 p.i, .int .u8 3, .int .u8 p.q] 27)) (.cells #[.int .u16 p.i, .int .u8 3, .int .u8 y.q] 27)
                  clear p1 p2 p3 p4 p5 G r1 r2 bi
                  go_wp2_with fail
                  go_roundw
                  case rel => exact ⟨j + 1, hjl, by go_num, ra, rb, Ga, ba⟩
                  case measure => simp [intOf]; omega
                · have te : (y.i == p.i) = false := by rw [beq_eq_false_iff_ne]; exact se
                  have tl : decide (y.i < p.i) = false := by simp; omega
                  have yz : (y.i == 0) = false := by rw [beq_eq_false_iff_ne]; omega
                  have ysz : (y.s == 0) = false := by rw [beq_eq_false_iff_ne]; intro h; have := p4.2 h; omega
                  rw [s3] at a1
                  clear s3 se
                  have Ga := (G.alloc (.cells #[.int .u16 p.i, .int .u8 3, .int .u8 p.q] 27)).alloc (.cells #[.int .u16 y.i, .int .u8 y.s, .int .u8 y.q] 27)
                  have ra := Rd.allocS (Rd.allocS r1 (.cells #[.int .u16 p.i, .int .u8 3, .int .u8 p.q] 27)) (.cells #[.int .u16 y.i, .int .u8 y.s, .int .u8 y.q] 27)
                  have rb := Rd.allocS (Rd.allocS r2 (.cells #[.int .u16 p.i, .int .u8 3, .int .u8 p.q] 27)) (.cells #[.int .u16 y.i, .int .u8 y.s, .int .u8 y.q] 27)
                  have ba := Gw.al (Gw.al bi (.cells #[.int .u16 p.i, .int .u8 3, .int .u8 p.q] 27)) (.cells #[.int .u16 y.i, .int .u8 y.s, .int .u8 y.q] 27)
                  clear p1 p2 p3 p4 p5 G r1 r2 bi
                  go_wp2_with fail
                  go_roundw
                  case rel => exact ⟨j + 1, hjl, by go_num, ra, rb, Ga, ba⟩
                  case measure => simp [intOf]; omega
              · have t3 : (p.s == 3) = false := by rw [beq_eq_false_iff_ne]; exact s3
                by_cases yz0 : y.i = 0
                · have ys0 := p4.1 yz0
                  have tl : decide (0 < p.i) = false := by simp; omega
                  rw [yz0] at e0
                  rw [ys0] at e1 t30
                  clear yz0 ys0 s3
                  have Ga := (G.alloc (.cells #[.int .u16 p.i, .int .u8 p.s, .int .u8 p.q] 27)).alloc (.cells #[.int .u16 0, .int .u8 0, .int .u8 y.q] 27)
                  have ra := Rd.allocS (Rd.allocS r1 (.cells #[.int .u16 p.i, .int .u8 p.s, .int .u8 p.q] 27)) (.cells #[.int .u16 0, .int .u8 0, .int .u8 y.q] 27)
                  have rb := Rd.allocS (Rd.allocS r2 (.cells #[.int .u16 p.i, .int .u8 p.s, .int .u8 p.q] 27)) (.cells #[.int .u16 0, .int .u8 0, .int .u8 y.q] 27)
                  have ba := Gw.al (Gw.al bi (.cells #[.int .u16 p.i, .int .u8 p.s, .int .u8 p.q] 27)) (.cells #[.int .u16 0, .int .u8 0, .int .u8 y.q] 27)
                  clear p1 p2 p3 p4 p5 G r1 r2 bi
                  go_wp2_with fail
                  go_roundw
                  case rel => exact ⟨j + 1, hjl, by go_num, ra, rb, Ga, ba⟩
                  case measure => simp [intOf]; omega
                · have yz : (y.i == 0) = false := by rw [beq_eq_false_iff_ne]; exact yz0
                  have ysz : (y.s == 0) = false := by rw [beq_eq_false_iff_ne]; intro h; exact yz0 (p4.2 h)
                  have tl : decide (y.i < p.i) = false := by simp; omega
                  clear yz0 s3
                  have Ga := (G.alloc (.cells #[.int .u16 p.i, .int .u8 p.s, .int .u8 p.q] 27)).alloc (.cells #[.int .u16 y.i, .int .u8 y.s, .int .u8 y.q] 27)
                  have ra := Rd.allocS (Rd.allocS r1 (.cells #[.int .u16 p.i, .int .u8 p.s, .int .u8 p.q] 27)) (.cells #[.int .u16 y.i, .int .u8 y.s, .int .u8 y.q] 27)
                  have rb := Rd.allocS (Rd.allocS r2 (.cells #[.int .u16 p.i, .int .u8 p.s, .int .u8 p.q] 27)) (.cells #[.int .u16 y.i, .int .u8 y.s, .int .u8 y.q] 27)
                  have ba := Gw.al (Gw.al bi (.cells #[.int .u16 p.i, .int .u8 p.s, .int .u8 p.q] 27)) (.cells #[.int .u16 y.i, .int .u8 y.s, .int .u8 y.q] 27)
                  clear p1 p2 p3 p4 p5 G r1 r2 bi
                  go_wp2_with fail
                  go_roundw
                  case rel => exact ⟨j + 1, hjl, by go_num, ra, rb, Ga, ba⟩
                  case measure => simp [intOf]; omega
            · have t8 : ((j : Int) == self) = false := by rw [beq_eq_false_iff_ne]; exact js
              by_cases s3 : p.s = 3
              · by_cases se : y.i = p.i
                · have ys := p2 s3 se
                  have pz : (p.i == 0) = false := by rw [beq_eq_false_iff_ne]; intro h; have := p4.1 (se.trans h); omega
                  rw [s3] at a1
                  rw [se] at e0
                  rw [ys] at e1 t30
                  clear s3 se ys
                  have Ga := (G.alloc (.cells #[.int .u16 p.i, .int .u8 3, .int .u8 p.q] 27)).alloc (.cells #[.int .u16 p.i, .int .u8 3, .int .u8 y.q] 27)
                  have ra := Rd.allocS (Rd.allocS r1 (.cells #[.int .u16 p.i, .int .u8 3, .int .u8 p.q] 27)) (.cells #[.int .u16 p.i, .int .u8 3, .int .u8 y.q] 27)
                  have rb := Rd.allocS (Rd.allocS r2 (.cells #[.int .u16 p.i, .int .u8 3, .int .u8 p.q] 27)) (.cells #[.int .u16 p.i, .int .u8 3, .int .u8 y.q] 27)
                  have ba := Gw.al (Gw.al bi (.cells #[.int .u16 p.i, .int .u8 3, .int .u8 p.q] 27)) (.cells #[.int .u16 p.i, .int .u8 3, .int .u8 y.q] 27)
                  clear p1 p2 p3 p4 p5 G r1 r2 bi
                  go_wp2_with fail
                  go_roundw
                  case rel => exact ⟨j + 1, hjl, by go_num, ra, rb, Ga, ba⟩
                  case measure => simp [intOf]; omega
                · have te : (y.i == p.i) = false := by rw [beq_eq_false_iff_ne]; exact se
                  have tl : decide (y.i < p.i) = false := by simp; omega
                  have yz : (y.i == 0) = false := by rw [beq_eq_false_iff_ne]; omega
                  have ysz : (y.s == 0) = false := by rw [beq_eq_false_iff_ne]; intro h; have := p4.2 h; omega
                  rw [s3] at a1
                  clear s3 se
                  have Ga := (G.alloc (.cells #[.int .u16 p.i, .int .u8 3, .int .u8 p.q] 27)).alloc (.cells #[.int .u16 y.i, .int .u8 y.s, .int .u8 y.q] 27)
                  have ra := Rd.allocS (Rd.allocS r1 (.cells #[.int .u16 p.i, .int .u8 3, .int .u8 p.q] 27)) (.cells #[.int .u16 y.i, .int .u8 y.s, .int .u8 y.q] 27)
                  have rb := Rd.allocS (Rd.allocS r2 (.cells #[.int .u16 p.i, .int .u8 3, .int .u8 p.q] 27)) (.cells #[.int .u16 y.i, .int .u8 y.s, .int .u8 y.q] 27)
                  have ba := Gw.al (Gw.al bi (.cells #[.int .u16 p.i, .int .u8 3, .int .u8 p.q] 27)) (.cells #[.int .u16 y.i, .int .u8 y.s, .int .u8 y.q] 27)
                  clear p1 p2 p3 p4 p5 G r1 r2 bi
                  go_wp2_with fail
                  go_roundw
                  case rel => exact ⟨j + 1, hjl, by go_num, ra, rb, Ga, ba⟩
                  case measure => simp [intOf]; omega
              · have t3 : (p.s == 3) = false := by rw [beq_eq_false_iff_ne]; exact s3
                by_cases yz0 : y.i = 0
                · have ys0 := p4.1 yz0
                  have tl : decide (0 < p.i) = false := by simp; omega
                  rw [yz0] at e0
                  rw [ys0] at e1 t30
                  clear yz0 ys0 s3
                  have Ga := (G.alloc (.cells #[.int .u16 p.i, .int .u8 p.s, .int .u8 p.q] 27)).alloc (.cells #[.int .u16 0, .int .u8 0, .int .u8 y.q] 27)
                  have ra := Rd.allocS (Rd.allocS r1 (.cells #[.int .u16 p.i, .int .u8 p.s, .int .u8 p.q] 27)) (.cells #[.int .u16 0, .int .u8 0, .int .u8 y.q] 27)
                  have rb := Rd.allocS (Rd.allocS r2 (.cells #[.int .u16 p.i, .int .u8 p.s, .int .u8 p.q] 27)) (.cells #[.int .u16 0, .int .u8 0, .int .u8 y.q] 27)
                  have ba := Gw.al (Gw.al bi (.cells #[.int .u16 p.i, .int .u8 p.s, .int .u8 p.q] 27)) (.cells #[.int .u16 0, .int .u8 0, .int .u8 y.q] 27)
                  clear p1 p2 p3 p4 p5 G r1 r2 bi
                  go_wp2_with fail
                  go_roundw
                  case rel => exact ⟨j + 1, hjl, by go_num, ra, rb, Ga, ba⟩
                  case measure => simp [intOf]; omega
                · have yz : (y.i == 0) = false := by rw [beq_eq_false_iff_ne]; exact yz0
                  have ysz : (y.s == 0) = false := by rw [beq_eq_false_iff_ne]; intro h; exact yz0 (p4.2 h)
                  have tl : decide (y.i < p.i) = false := by simp; omega
                  clear yz0 s3
                  have Ga := (G.alloc (.cells #[.int .u16 p.i, .int .u8 p.s, .int .u8 p.q] 27)).alloc (.cells #[.int .u16 y.i, .int .u8 y.s, .int .u8 y.q] 27)
                  have ra := Rd.allocS (Rd.allocS r1 (.cells #[.int .u16 p.i, .int .u8 p.s, .int .u8 p.q] 27)) (.cells #[.int .u16 y.i, .int .u8 y.s, .int .u8 y.q] 27)
                  have rb := Rd.allocS (Rd.allocS r2 (.cells #[.int .u16 p.i, .int .u8 p.s, .int .u8 p.q] 27)) (.cells #[.int .u16 y.i, .int .u8 y.s, .int .u8 y.q] 27)
                  have ba := Gw.al (Gw.al bi (.cells #[.int .u16 p.i, .int .u8 p.s, .int .u8 p.q] 27)) (.cells #[.int .u16 y.i, .int .u8 y.s, .int .u8 y.q] 27)
                  clear p1 p2 p3 p4 p5 G r1 r2 bi
                  go_wp2_with fail
                  go_roundw
                  case rel => exact ⟨j + 1, hjl, by go_num, ra, rb, Ga, ba⟩
                  case measure => simp [intOf]; omega
          · obtain rfl : j = mn := by omega
            go_wp2_with fail
            go_roundw
            case rel => exact ⟨k + 1, N, A2, c2, hlt, by go_num, rfl, r2, LN, GN, bi⟩
            case measure => simp [intOf]; omega
      by_cases q1 : x.k = 1
      · rw [q1] at d0
        clear q0 q1
        have G := Ob.new wr #[.int .u8 1, .int .u8 x.nd, .int .u16 x.inc, .int .i64 x.af, .slice x.A x.l.length x.cap] 40
        have bx := Gw.al bl (.cells #[.int .u8 1, .int .u8 x.nd, .int .u16 x.inc, .int .i64 x.af, .slice x.A x.l.length x.cap] 40)
        have rY := Rd.allocS rX (.cells #[.int .u8 1, .int .u8 x.nd, .int .u16 x.inc, .int .i64 x.af, .slice x.A x.l.length x.cap] 40)
        have HD := Lib.hid (fun (nd inc : Int) (W : World) h hn hi => left_any X A' c' nd inc W h (by have := HX.out; omega) hn hi)
        rw [HX.out] at HD
        clear k0 k1
        go_wp2_with fail
        refine (HD.out _ _ _ rY ⟨n0, n1⟩ i0).mono ?_
        rintro e w3 ⟨A2, c2, rfl, o2, hb2⟩
        replace bx := Gw.call bx hb2
        replace rY := rY.up hb2
        replace G := G.call hb2
        clear hb2 HD
        obtain ⟨rs, gn⟩ := rises_left (k := x.nd.toNat) self GX.out i0 i1
        have RS := Lib.hid rs
        have GN := Lib.hid gn
        have LN : Hid ((modL X x.nd.toNat (leftM x.inc)).length = mn) := Lib.hid (rs.1.trans HX.out)
        clear rs gn
        obtain ⟨N, hN⟩ : ∃ N, N = modL X x.nd.toNat (leftM x.inc) := ⟨_, rfl⟩
        rw [← hN] at o2 RS GN LN
        clear hN
        have r2 := o2.rd memc_len
        clear o2 rX rl d0 d1 d2 d3 d4 hb
        go_wp2_with fail
        go_loopw [76] (fun i wi => ∃ j : Nat, j ≤ mn ∧ i = .int .i64 j ∧ Rd memc 3 wi.heap.size wi A' X ∧ Rd memc 3 wi.heap.size wi A2 N ∧ Ob wi wr.heap.size #[.int .u8 1, .int .u8 x.nd, .int .u16 x.inc, .int .i64 x.af, .slice x.A x.l.length x.cap] 40 ∧ Below w.heap.size w wi) (fun i _ => mn - (intOf i).toNat)
        case atStart => exact ⟨0, Nat.zero_le _, rfl, rY, r2, G, bx⟩
        case round =>
          clear rY r2 G bx
          obtain ⟨j, hj, rfl, r1, r2, G, bi⟩ := hrel
          by_cases hjl : j < mn
          · obtain ⟨p, hp⟩ : ∃ p, X[j]? = some p := ⟨_, List.getElem?_eq_getElem (by have := HX.out; omega)⟩
            obtain ⟨y, hy⟩ : ∃ y, N[j]? = some y := ⟨_, List.getElem?_eq_getElem (by have := LN.out; omega)⟩
            obtain ⟨⟨p1, p2, p3, p4⟩, p5⟩ := RS.out.2 j p y hp hy
            obtain ⟨⟨⟨u0, u1⟩, ⟨v0, v1⟩, z0, z1⟩, _, _⟩ := GN.out y (List.mem_of_getElem? hy)
            obtain ⟨⟨⟨u2, u3⟩, ⟨v2, v3⟩, z2, z3⟩, _, _⟩ := GX.out p (List.mem_of_getElem? hp)
            obtain ⟨bm, om, rfl, _, a0, a1, a2⟩ := r1.mem3 hp
            obtain ⟨bn, pn, rfl, _, e0, e1, e2⟩ := r2.mem3 hy
            have c0 := G.blk.2.1 0 _ rfl
            have lG := G.lt
            have ji : (j : Int) < (mn : Int) := by omega
            have t30 : decide (3 < y.s) = false := by simp; omega
            clear hp hy
            by_cases js : (j : Int) = self
            · have t8 : ((j : Int) == self) = true := by rw [beq_iff_eq]; exact js
              subst js
              by_cases s3 : p.s = 3
              · by_cases se : y.i = p.i
                · have ys := p2 s3 se
                  have pz : (p.i == 0) = false := by rw [beq_eq_false_iff_ne]; intro h; have := p4.1 (se.trans h); omega
                  rw [s3] at a1
                  rw [se] at e0
                  rw [ys] at e1 t30
                  clear s3 se ys
                  have Ga := (G.alloc (.cells #[.int .u16 p.i, .int .u8 3, .int .u8 p.q] 27)).alloc (.cells #[.int .u16 p.i, .int .u8 3, .int .u8 y.q] 27)
                  have ra := Rd.allocS (Rd.allocS r1 (.cells #[.int .u16 p.i, .int .u8 3, .int .u8 p.q] 27)) (.cells #[.int .u16 p.i, .int .u8 3, .int .u8 y.q] 27)
                  have rb := Rd.allocS (Rd.allocS r2 (.cells #[.int .u16 p.i, .int .u8 3, .int .u8 p.q] 27)) (.cells #[.int .u16 p.i, .int .u8 3, .int .u8 y.q] 27)
                  have ba := Gw.al (Gw.al bi (.cells #[.int .u16 p.i, .int .u8 3, .int .u8 p.q] 27)) (.cells #[.int .u16 p.i, .int .u8 3, .int .u8 y.q] 27)
                  clear p1 p2 p3 p4 p5 G r1 r2 bi
                  go_wp2_with fail
                  go_roundw
                  case rel => exact ⟨j + 1, hjl, by go_num, ra, rb, Ga, ba⟩
                  case measure => simp [intOf]; omega
                · have te : (y.i == p.i) = false := by rw [beq_eq_false_iff_ne]; exact se
                  have tl : decide (y.i < p.i) = false := by simp; omega
                  have yz : (y.i == 0) = false := by rw [beq_eq_false_iff_ne]; omega
                  have ysz : (y.s == 0) = false := by rw [beq_eq_false_iff_ne]; intro h; have := p4.2 h; omega
                  rw [s3] at a1
                  clear s3 se
                  have Ga := (G.alloc (.cells #[.int .u16 p.i, .int .u8 3, .int .u8 p.q] 27)).alloc (.cells #[.int .u16 y.i, .int .u8 y.s, .int .u8 y.q] 27)
                  have ra := Rd.allocS (Rd.allocS r1 (.cells #[.int .u16 p.i, .int .u8 3, .int .u8 p.q] 27)) (.cells #[.int .u16 y.i, .int .u8 y.s, .int .u8 y.q] 27)
                  have rb := Rd.allocS (Rd.allocS r2 (.cells #[.int .u16 p.i, .int .u8 3, .int .u8 p.q] 27)) (.cells #[.int .u16 y.i, .int .u8 y.s, .int .u8 y.q] 27)
                  have ba := Gw.al (Gw.al bi (.cells #[.int .u16 p.i, .int .u8 3, .int .u8 p.q] 27)) (.cells #[.int .u16 y.i, .int .u8 y.s, .int .u8 y.q] 27)
                  clear p1 p2 p3 p4 p5 G r1 r2 bi
                  go_wp2_with fail
                  go_roundw
                  case rel => exact ⟨j + 1, hjl, by go_num, ra, rb, Ga, ba⟩
                  case measure => simp [intOf]; omega
              · have t3 : (p.s == 3) = false := by rw [beq_eq_false_iff_ne]; exact s3
                by_cases yz0 : y.i = 0
                · have ys0 := p4.1 yz0
                  have tl : decide (0 < p.i) = false := by simp; omega
                  rw [yz0] at e0
                  rw [ys0] at e1 t30
                  clear yz0 ys0 s3
                  have Ga := (G.alloc (.cells #[.int .u16 p.i, .int .u8 p.s, .int .u8 p.q] 27)).alloc (.cells #[.int .u16 0, .int .u8 0, .int .u8 y.q] 27)
                  have ra := Rd.allocS (Rd.allocS r1 (.cells #[.int .u16 p.i, .int .u8 p.s, .int .u8 p.q] 27)) (.cells #[.int .u16 0, .int .u8 0, .int .u8 y.q] 27)
                  have rb := Rd.allocS (Rd.allocS r2 (.cells #[.int .u16 p.i, .int .u8 p.s, .int .u8 p.q] 27)) (.cells #[.int .u16 0, .int .u8 0, .int .u8 y.q] 27)
                  have ba := Gw.al (Gw.al bi (.cells #[.int .u16 p.i, .int .u8 p.s, .int .u8 p.q] 27)) (.cells #[.int .u16 0, .int .u8 0, .int .u8 y.q] 27)
                  clear p1 p2 p3 p4 p5 G r1 r2 bi
                  go_wp2_with fail
                  go_roundw
                  case rel => exact ⟨j + 1, hjl, by go_num, ra, rb, Ga, ba⟩
                  case measure => simp [intOf]; omega
                · have yz : (y.i == 0) = false := by rw [beq_eq_false_iff_ne]; exact yz0
                  have ysz : (y.s == 0) = false := by rw [beq_eq_false_iff_ne]; intro h; exact yz0 (p4.2 h)
                  have tl : decide (y.i < p.i) = false := by simp; omega
                  clear yz0 s3
                  have Ga := (G.alloc (.cells #[.int .u16 p.i, .int .u8 p.s, .int .u8 p.q] 27)).alloc (.cells #[.int .u16 y.i, .int .u8 y.s, .int .u8 y.q] 27)
                  have ra := Rd.allocS (Rd.allocS r1 (.cells #[.int .u16 p.i, .int .u8 p.s, .int .u8 p.q] 27)) (.cells #[.int .u16 y.i, .int .u8 y.s, .int .u8 y.q] 27)
                  have rb := Rd.allocS (Rd.allocS r2 (.cells #[.int .u16 p.i, .int .u8 p.s, .int .u8 p.q] 27)) (.cells #[.int .u16 y.i, .int .u8 y.s, .int .u8 y.q] 27)
                  have ba := Gw.al (Gw.al bi (.cells #[.int .u16 p.i, .int .u8 p.s, .int .u8 p.q] 27)) (.cells #[.int .u16 y.i, .int .u8 y.s, .int .u8 y.q] 27)
                  clear p1 p2 p3 p4 p5 G r1 r2 bi
                  go_wp2_with fail
                  go_roundw
                  case rel => exact ⟨j + 1, hjl, by go_num, ra, rb, Ga, ba⟩
                  case measure => simp [intOf]; omega
            · have t8 : ((j : Int) == self) = false := by rw [beq_eq_false_iff_ne]; exact js
              by_cases s3 : p.s = 3
              · by_cases se : y.i = p.i
                · have ys := p2 s3 se
                  have pz : (p.i == 0) = false := by rw [beq_eq_false_iff_ne]; intro h; have := p4.1 (se.trans h); omega
                  rw [s3] at a1
                  rw [se] at e0
                  rw [ys] at e1 t30
                  clear s3 se ys
                  have Ga := (G.alloc (.cells #[.int .u16 p.i, .int .u8 3, .int .u8 p.q] 27)).alloc (.cells #[.int .u16 p.i, .int .u8 3, .int .u8 y.q] 27)
                  have ra := Rd.allocS (Rd.allocS r1 (.cells #[.int .u16 p.i, .int .u8 3, .int .u8 p.q] 27)) (.cells #[.int .u16 p.i, .int .u8 3, .int .u8 y.q] 27)
                  have rb := Rd.allocS (Rd.allocS r2 (.cells #[.int .u16 p.i, .int .u8 3, .int .u8 p.q] 27)) (.cells #[.int .u16 p.i, .int .u8 3, .int .u8 y.q] 27)
                  have ba := Gw.al (Gw.al bi (.cells #[.int .u16 p.i, .int .u8 3, .int .u8 p.q] 27)) (.cells #[.int .u16 p.i, .int .u8 3, .int .u8 y.q] 27)
                  clear p1 p2 p3 p4 p5 G r1 r2 bi
                  go_wp2_with fail
                  go_roundw
                  case rel => exact ⟨j + 1, hjl, by go_num, ra, rb, Ga, ba⟩
                  case measure => simp [intOf]; omega
                · have te : (y.i == p.i) = false := by rw [beq_eq_false_iff_ne]; exact se
                  have tl : decide (y.i < p.i) = false := by simp; omega
                  have yz : (y.i == 0) = false := by rw [beq_eq_false_iff_ne]; omega
                  have ysz : (y.s == 0) = false := by rw [beq_eq_false_iff_ne]; intro h; have := p4.2 h; omega
                  rw [s3] at a1
                  clear s3 se
                  have Ga := (G.alloc (.cells #[.int .u16 p.i, .int .u8 3, .int .u8 p.q] 27)).alloc (.cells #[.int .u16 y.i, .int .u8 y.s, .int .u8 y.q] 27)
                  have ra := Rd.allocS (Rd.allocS r1 (.cells #[.int .u16 p.i, .int .u8 3, .int .u8 p.q] 27)) (.cells #[.int .u16 y.i, .int .u8 y.s, .int .u8 y.q] 27)
                  have rb := Rd.allocS (Rd.allocS r2 (.cells #[.int .u16 p.i, .int .u8 3, .int .u8 p.q] 27)) (.cells #[.int .u16 y.i, .int .u8 y.s, .int .u8 y.q] 27)
                  have ba := Gw.al (Gw.al bi (.cells #[.int .u16 p.i, .int .u8 3, .int .u8 p.q] 27)) (.cells #[.int .u16 y.i, .int .u8 y.s, .int .u8 y.q] 27)
                  clear p1 p2 p3 p4 p5 G r1 r2 bi
                  go_wp2_with fail
                  go_roundw
                  case rel => exact ⟨j + 1, hjl, by go_num, ra, rb, Ga, ba⟩
                  case measure => simp [intOf]; omega
              · have t3 : (p.s == 3) = false := by rw [beq_eq_false_iff_ne]; exact s3
                by_cases yz0 : y.i = 0
                · have ys0 := p4.1 yz0
                  have tl : decide (0 < p.i) = false := by simp; omega
                  rw [yz0] at e0
                  rw [ys0] at e1 t30
                  clear yz0 ys0 s3
                  have Ga := (G.alloc (.cells #[.int .u16 p.i, .int .u8 p.s, .int .u8 p.q] 27)).alloc (.cells #[.int .u16 0, .int .u8 0, .int .u8 y.q] 27)
                  have ra := Rd.allocS (Rd.allocS r1 (.cells #[.int .u16 p.i, .int .u8 p.s, .int .u8 p.q] 27)) (.cells #[.int .u16 0, .int .u8 0, .int .u8 y.q] 27)
                  have rb := Rd.allocS (Rd.allocS r2 (.cells #[.int .u16 p.i, .int .u8 p.s, .int .u8 p.q] 27)) (.cells #[.int .u16 0, .int .u8 0, .int .u8 y.q] 27)
                  have ba := Gw.al (Gw.al bi (.cells #[.int .u16 p.i, .int .u8 p.s, .int .u8 p.q] 27)) (.cells #[.int .u16 0, .int .u8 0, .int .u8 y.q] 27)
                  clear p1 p2 p3 p4 p5 G r1 r2 bi
                  go_wp2_with fail
                  go_roundw
                  case rel => exact ⟨j + 1, hjl, by go_num, ra, rb, Ga, ba⟩
                  case measure => simp [intOf]; omega
                · have yz : (y.i == 0) = false := by rw [beq_eq_false_iff_ne]; exact yz0
                  have ysz : (y.s == 0) = false := by rw [beq_eq_false_iff_ne]; intro h; exact yz0 (p4.2 h)
                  have tl : decide (y.i < p.i) = false := by simp; omega
                  clear yz0 s3
                  have Ga := (G.alloc (.cells #[.int .u16 p.i, .int .u8 p.s, .int .u8 p.q] 27)).alloc (.cells #[.int .u16 y.i, .int .u8 y.s, .int .u8 y.q] 27)
                  have ra := Rd.allocS (Rd.allocS r1 (.cells #[.int .u16 p.i, .int .u8 p.s, .int .u8 p.q] 27)) (.cells #[.int .u16 y.i, .int .u8 y.s, .int .u8 y.q] 27)
                  have rb := Rd.allocS (Rd.allocS r2 (.cells #[.int .u16 p.i, .int .u8 p.s, .int .u8 p.q] 27)) (.cells #[.int .u16 y.i, .int .u8 y.s, .int .u8 y.q] 27)
                  have ba := Gw.al (Gw.al bi (.cells #[.int .u16 p.i, .int .u8 p.s, .int .u8 p.q] 27)) (.cells #[.int .u16 y.i, .int .u8 y.s, .int .u8 y.q] 27)
                  clear p1 p2 p3 p4 p5 G r1 r2 bi
                  go_wp2_with fail
                  go_roundw
                  case rel => exact ⟨j + 1, hjl, by go_num, ra, rb, Ga, ba⟩
                  case measure => simp [intOf]; omega
          · obtain rfl : j = mn := by omega
            go_wp2_with fail
            go_roundw
            case rel => exact ⟨k + 1, N, A2, c2, hlt, by go_num, rfl, r2, LN, GN, bi⟩
            case measure => simp [intOf]; omega
      by_cases q2 : x.k = 2
      · rw [q2] at d0
        clear q0 q1 q2
        have G := Ob.new wr #[.int .u8 2, .int .u8 x.nd, .int .u16 x.inc, .int .i64 x.af, .slice x.A x.l.length x.cap] 40
        have bx := Gw.al bl (.cells #[.int .u8 2, .int .u8 x.nd, .int .u16 x.inc, .int .i64 x.af, .slice x.A x.l.length x.cap] 40)
        have rY := Rd.allocS rX (.cells #[.int .u8 2, .int .u8 x.nd, .int .u16 x.inc, .int .i64 x.af, .slice x.A x.l.length x.cap] 40)
        obtain ⟨m2, hm2⟩ : ∃ m2 : Nat, m2 = min x.l.length 20 := ⟨_, rfl⟩
        have hmi2 : (if (20 : Int) < (x.l.length : Int) then (20 : Int) else (x.l.length : Int)) = (m2 : Int) := by split <;> omega
        have m2l : m2 ≤ x.l.length := by omega
        have m220 : m2 ≤ 20 := by omega
        have m2c : (m2 : Int) ≤ (x.cap : Int) := by omega
        have htl : (x.l.take m2).length = m2 := by simp; omega
        have tok : ∀ v ∈ x.l.take m2, v.ok := fun v hv => okl v (List.mem_of_mem_take hv)
        have H2 := Lib.hid (fun W h => table_any (x.l.take m2) x.A x.cap W h (by omega) tok)
        rw [htl] at H2
        obtain ⟨O, hO⟩ : ∃ O, O = tableL (x.l.take m2) := ⟨_, rfl⟩
        have OL : Hid (O.length = m2) := Lib.hid (by rw [hO, table_len, htl])
        have OG : Hid (Good O) := Lib.hid (by rw [hO]; exact table_good2 tok)
        rw [← hO] at H2
        have rl2 := Rd.allocS ((rl.up bl).take m2) (.cells #[.int .u8 2, .int .u8 x.nd, .int .u16 x.inc, .int .i64 x.af, .slice x.A x.l.length x.cap] 40)
        clear hO tok htl hm2 k0 k1 okl
        go_wp2_with fail
        refine (H2.out _ rl2).mono ?_
        rintro e w2 ⟨A5, c5, rfl, o5, hb2⟩
        replace bx := Gw.call bx hb2
        replace rY := rY.up hb2
        replace G := G.call hb2
        clear hb2 H2 rl2
        have r5 := o5.rd memc_len
        clear o5
        have HD := Lib.hid (fun (W : World) h h2 => merge_any X O A' A5 c' c5 self W h h2 (by have := HX.out; omega) (by have := OL.out; omega) ⟨s0, s1⟩ (fun v hv => (OG.out v hv).1))
        rw [HX.out, OL.out] at HD
        go_wp2_with fail
        refine (HD.out _ rY r5).mono ?_
        rintro e w3 ⟨A2, c2, rfl, o2, hb2⟩
        replace bx := Gw.call bx hb2
        replace rY := rY.up hb2
        replace G := G.call hb2
        clear hb2 HD
        clear r5
        obtain ⟨rs, gn⟩ := rises_merge (self := self) GX.out OG.out
        have RS := Lib.hid rs
        have GN := Lib.hid gn
        have LN : Hid ((mergeL X O self).length = mn) := Lib.hid (rs.1.trans HX.out)
        clear rs gn
        obtain ⟨N, hN⟩ : ∃ N, N = mergeL X O self := ⟨_, rfl⟩
        rw [← hN] at o2 RS GN LN
        clear hN
        have r2 := o2.rd memc_len
        clear o2 rX rl d0 d1 d2 d3 d4 hb
        go_wp2_with fail
        go_loopw [76] (fun i wi => ∃ j : Nat, j ≤ mn ∧ i = .int .i64 j ∧ Rd memc 3 wi.heap.size wi A' X ∧ Rd memc 3 wi.heap.size wi A2 N ∧ Ob wi wr.heap.size #[.int .u8 2, .int .u8 x.nd, .int .u16 x.inc, .int .i64 x.af, .slice x.A x.l.length x.cap] 40 ∧ Below w.heap.size w wi) (fun i _ => mn - (intOf i).toNat)
        case atStart => exact ⟨0, Nat.zero_le _, rfl, rY, r2, G, bx⟩
        case round =>
          clear rY r2 G bx
          obtain ⟨j, hj, rfl, r1, r2, G, bi⟩ := hrel
          by_cases hjl : j < mn
          · obtain ⟨p, hp⟩ : ∃ p, X[j]? = some p := ⟨_, List.getElem?_eq_getElem (by have := HX.out; omega)⟩
            obtain ⟨y, hy⟩ : ∃ y, N[j]? = some y := ⟨_, List.getElem?_eq_getElem (by have := LN.out; omega)⟩
            obtain ⟨⟨p1, p2, p3, p4⟩, p5⟩ := RS.out.2 j p y hp hy
            obtain ⟨⟨⟨u0, u1⟩, ⟨v0, v1⟩, z0, z1⟩, _, _⟩ := GN.out y (List.mem_of_getElem? hy)
            obtain ⟨⟨⟨u2, u3⟩, ⟨v2, v3⟩, z2, z3⟩, _, _⟩ := GX.out p (List.mem_of_getElem? hp)
            obtain ⟨bm, om, rfl, _, a0, a1, a2⟩ := r1.mem3 hp
            obtain ⟨bn, pn, rfl, _, e0, e1, e2⟩ := r2.mem3 hy
            have c0 := G.blk.2.1 0 _ rfl
            have lG := G.lt
            have ji : (j : Int) < (mn : Int) := by omega
            have t30 : decide (3 < y.s) = false := by simp; omega
            clear hp hy
            by_cases js : (j : Int) = self
            · have t8 : ((j : Int) == self) = true := by rw [beq_iff_eq]; exact js
              obtain rfl : p = y := (p5 rfl js).symm
              subst js
              by_cases s3 : p.s = 3
              · have pz : (p.i == 0) = false := by rw [beq_eq_false_iff_ne]; intro h; have := p4.1 h; omega
                rw [s3] at a1 e1 t30
                clear s3
                have Ga := (G.alloc (.cells #[.int .u16 p.i, .int .u8 3, .int .u8 p.q] 27)).alloc (.cells #[.int .u16 p.i, .int .u8 3, .int .u8 p.q] 27)
                have ra := Rd.allocS (Rd.allocS r1 (.cells #[.int .u16 p.i, .int .u8 3, .int .u8 p.q] 27)) (.cells #[.int .u16 p.i, .int .u8 3, .int .u8 p.q] 27)
                have rb := Rd.allocS (Rd.allocS r2 (.cells #[.int .u16 p.i, .int .u8 3, .int .u8 p.q] 27)) (.cells #[.int .u16 p.i, .int .u8 3, .int .u8 p.q] 27)
                have ba := Gw.al (Gw.al bi (.cells #[.int .u16 p.i, .int .u8 3, .int .u8 p.q] 27)) (.cells #[.int .u16 p.i, .int .u8 3, .int .u8 p.q] 27)
                clear p1 p2 p3 p4 p5 G r1 r2 bi
                go_wp2_with fail
                go_roundw
                case rel => exact ⟨j + 1, hjl, by go_num, ra, rb, Ga, ba⟩
                case measure => simp [intOf]; omega
              · have t3 : (p.s == 3) = false := by rw [beq_eq_false_iff_ne]; exact s3
                by_cases yz0 : p.i = 0
                · have ys0 := p4.1 yz0
                  rw [yz0] at a0 e0
                  rw [ys0] at a1 e1 t30
                  clear yz0 ys0 s3 t3
                  have Ga := (G.alloc (.cells #[.int .u16 0, .int .u8 0, .int .u8 p.q] 27)).alloc (.cells #[.int .u16 0, .int .u8 0, .int .u8 p.q] 27)
                  have ra := Rd.allocS (Rd.allocS r1 (.cells #[.int .u16 0, .int .u8 0, .int .u8 p.q] 27)) (.cells #[.int .u16 0, .int .u8 0, .int .u8 p.q] 27)
                  have rb := Rd.allocS (Rd.allocS r2 (.cells #[.int .u16 0, .int .u8 0, .int .u8 p.q] 27)) (.cells #[.int .u16 0, .int .u8 0, .int .u8 p.q] 27)
                  have ba := Gw.al (Gw.al bi (.cells #[.int .u16 0, .int .u8 0, .int .u8 p.q] 27)) (.cells #[.int .u16 0, .int .u8 0, .int .u8 p.q] 27)
                  clear p1 p2 p3 p4 p5 G r1 r2 bi
                  go_wp2_with fail
                  go_roundw
                  case rel => exact ⟨j + 1, hjl, by go_num, ra, rb, Ga, ba⟩
                  case measure => simp [intOf]; omega
                · have yz : (p.i == 0) = false := by rw [beq_eq_false_iff_ne]; exact yz0
                  have ysz : (p.s == 0) = false := by rw [beq_eq_false_iff_ne]; intro h; exact yz0 (p4.2 h)
                  clear yz0 s3
                  have Ga := (G.alloc (.cells #[.int .u16 p.i, .int .u8 p.s, .int .u8 p.q] 27)).alloc (.cells #[.int .u16 p.i, .int .u8 p.s, .int .u8 p.q] 27)
                  have ra := Rd.allocS (Rd.allocS r1 (.cells #[.int .u16 p.i, .int .u8 p.s, .int .u8 p.q] 27)) (.cells #[.int .u16 p.i, .int .u8 p.s, .int .u8 p.q] 27)
                  have rb := Rd.allocS (Rd.allocS r2 (.cells #[.int .u16 p.i, .int .u8 p.s, .int .u8 p.q] 27)) (.cells #[.int .u16 p.i, .int .u8 p.s, .int .u8 p.q] 27)
                  have ba := Gw.al (Gw.al bi (.cells #[.int .u16 p.i, .int .u8 p.s, .int .u8 p.q] 27)) (.cells #[.int .u16 p.i, .int .u8 p.s, .int .u8 p.q] 27)
                  clear p1 p2 p3 p4 p5 G r1 r2 bi
                  go_wp2_with fail
                  go_roundw
                  case rel => exact ⟨j + 1, hjl, by go_num, ra, rb, Ga, ba⟩
                  case measure => simp [intOf]; omega
            · have t8 : ((j : Int) == self) = false := by rw [beq_eq_false_iff_ne]; exact js
              by_cases s3 : p.s = 3
              · by_cases se : y.i = p.i
                · have ys := p2 s3 se
                  have pz : (p.i == 0) = false := by rw [beq_eq_false_iff_ne]; intro h; have := p4.1 (se.trans h); omega
                  rw [s3] at a1
                  rw [se] at e0
                  rw [ys] at e1 t30
                  clear s3 se ys
                  have Ga := (G.alloc (.cells #[.int .u16 p.i, .int .u8 3, .int .u8 p.q] 27)).alloc (.cells #[.int .u16 p.i, .int .u8 3, .int .u8 y.q] 27)
                  have ra := Rd.allocS (Rd.allocS r1 (.cells #[.int .u16 p.i, .int .u8 3, .int .u8 p.q] 27)) (.cells #[.int .u16 p.i, .int .u8 3, .int .u8 y.q] 27)
                  have rb := Rd.allocS (Rd.allocS r2 (.cells #[.int .u16 p.i, .int .u8 3, .int .u8 p.q] 27)) (.cells #[.int .u16 p.i, .int .u8 3, .int .u8 y.q] 27)
                  have ba := Gw.al (Gw.al bi (.cells #[.int .u16 p.i, .int .u8 3, .int .u8 p.q] 27)) (.cells #[.int .u16 p.i, .int .u8 3, .int .u8 y.q] 27)
                  clear p1 p2 p3 p4 p5 G r1 r2 bi
                  go_wp2_with fail
                  go_roundw
                  case rel => exact ⟨j + 1, hjl, by go_num, ra, rb, Ga, ba⟩
                  case measure => simp [intOf]; omega
                · have te : (y.i == p.i) = false := by rw [beq_eq_false_iff_ne]; exact se
                  have tl : decide (y.i < p.i) = false := by simp; omega
                  have yz : (y.i == 0) = false := by rw [beq_eq_false_iff_ne]; omega
                  have ysz : (y.s == 0) = false := by rw [beq_eq_false_iff_ne]; intro h; have := p4.2 h; omega
                  rw [s3] at a1
                  clear s3 se
                  have Ga := (G.alloc (.cells #[.int .u16 p.i, .int .u8 3, .int .u8 p.q] 27)).alloc (.cells #[.int .u16 y.i, .int .u8 y.s, .int .u8 y.q] 27)
                  have ra := Rd.allocS (Rd.allocS r1 (.cells #[.int .u16 p.i, .int .u8 3, .int .u8 p.q] 27)) (.cells #[.int .u16 y.i, .int .u8 y.s, .int .u8 y.q] 27)
                  have rb := Rd.allocS (Rd.allocS r2 (.cells #[.int .u16 p.i, .int .u8 3, .int .u8 p.q] 27)) (.cells #[.int .u16 y.i, .int .u8 y.s, .int .u8 y.q] 27)
                  have ba := Gw.al (Gw.al bi (.cells #[.int .u16 p.i, .int .u8 3, .int .u8 p.q] 27)) (.cells #[.int .u16 y.i, .int .u8 y.s, .int .u8 y.q] 27)
                  clear p1 p2 p3 p4 p5 G r1 r2 bi
                  go_wp2_with fail
                  go_roundw
                  case rel => exact ⟨j + 1, hjl, by go_num, ra, rb, Ga, ba⟩
                  case measure => simp [intOf]; omega
              · have t3 : (p.s == 3) = false := by rw [beq_eq_false_iff_ne]; exact s3
                by_cases yz0 : y.i = 0
                · have ys0 := p4.1 yz0
                  have tl : decide (0 < p.i) = false := by simp; omega
                  rw [yz0] at e0
                  rw [ys0] at e1 t30
                  clear yz0 ys0 s3
                  have Ga := (G.alloc (.cells #[.int .u16 p.i, .int .u8 p.s, .int .u8 p.q] 27)).alloc (.cells #[.int .u16 0, .int .u8 0, .int .u8 y.q] 27)
                  have ra := Rd.allocS (Rd.allocS r1 (.cells #[.int .u16 p.i, .int .u8 p.s, .int .u8 p.q] 27)) (.cells #[.int .u16 0, .int .u8 0, .int .u8 y.q] 27)
                  have rb := Rd.allocS (Rd.allocS r2 (.cells #[.int .u16 p.i, .int .u8 p.s, .int .u8 p.q] 27)) (.cells #[.int .u16 0, .int .u8 0, .int .u8 y.q] 27)
                  have ba := Gw.al (Gw.al bi (.cells #[.int .u16 p.i, .int .u8 p.s, .int .u8 p.q] 27)) (.cells #[.int .u16 0, .int .u8 0, .int .u8 y.q] 27)
                  clear p1 p2 p3 p4 p5 G r1 r2 bi
                  go_wp2_with fail
                  go_roundw
                  case rel => exact ⟨j + 1, hjl, by go_num, ra, rb, Ga, ba⟩
                  case measure => simp [intOf]; omega
                · have yz : (y.i == 0) = false := by rw [beq_eq_false_iff_ne]; exact yz0
                  have ysz : (y.s == 0) = false := by rw [beq_eq_false_iff_ne]; intro h; exact yz0 (p4.2 h)
                  have tl : decide (y.i < p.i) = false := by simp; omega
                  clear yz0 s3
                  have Ga := (G.alloc (.cells #[.int .u16 p.i, .int .u8 p.s, .int .u8 p.q] 27)).alloc (.cells #[.int .u16 y.i, .int .u8 y.s, .int .u8 y.q] 27)
                  have ra := Rd.allocS (Rd.allocS r1 (.cells #[.int .u16 p.i, .int .u8 p.s, .int .u8 p.q] 27)) (.cells #[.int .u16 y.i, .int .u8 y.s, .int .u8 y.q] 27)
                  have rb := Rd.allocS (Rd.allocS r2 (.cells #[.int .u16 p.i, .int .u8 p.s, .int .u8 p.q] 27)) (.cells #[.int .u16 y.i, .int .u8 y.s, .int .u8 y.q] 27)
                  have ba := Gw.al (Gw.al bi (.cells #[.int .u16 p.i, .int .u8 p.s, .int .u8 p.q] 27)) (.cells #[.int .u16 y.i, .int .u8 y.s, .int .u8 y.q] 27)
                  clear p1 p2 p3 p4 p5 G r1 r2 bi
                  go_wp2_with fail
                  go_roundw
                  case rel => exact ⟨j + 1, hjl, by go_num, ra, rb, Ga, ba⟩
                  case measure => simp [intOf]; omega
          · obtain rfl : j = mn := by omega
            go_wp2_with fail
            go_roundw
            case rel => exact ⟨k + 1, N, A2, c2, hlt, by go_num, rfl, r2, LN, GN, bi⟩
            case measure => simp [intOf]; omega
      · have t20 : (x.k == 0) = false := by rw [beq_eq_false_iff_ne]; exact q0
        have t21 : (x.k == 1) = false := by rw [beq_eq_false_iff_ne]; exact q1
        have t22 : (x.k == 2) = false := by rw [beq_eq_false_iff_ne]; exact q2
        have t23 : decide (1 < x.k) = true := by simp; omega
        have G := Ob.new wr #[.int .u8 x.k, .int .u8 x.nd, .int .u16 x.inc, .int .i64 x.af, .slice x.A x.l.length x.cap] 40
        have bx := Gw.al bl (.cells #[.int .u8 x.k, .int .u8 x.nd, .int .u16 x.inc, .int .i64 x.af, .slice x.A x.l.length x.cap] 40)
        have rY := Rd.allocS rX (.cells #[.int .u8 x.k, .int .u8 x.nd, .int .u16 x.inc, .int .i64 x.af, .slice x.A x.l.length x.cap] 40)
        have HD := Lib.hid (fun (af : Int) (W : World) h => tick_any X A' c' self af W h (by have := HX.out; omega) ⟨s0, s1⟩ (fun v hv => (GX.out v hv).1))
        rw [HX.out] at HD
        clear q0 q1 q2
        go_wp2_with fail
        refine (HD.out x.af _ rY).mono ?_
        rintro e w3 ⟨A2, c2, A7, c7, rfl, o2, o7, hb2⟩
        replace bx := Gw.call bx hb2
        replace rY := rY.up hb2
        replace G := G.call hb2
        clear hb2 HD
        clear o7
        generalize (goneL X self x.af).length = gl
        obtain ⟨rs, gn⟩ := rises_tick (self := self) (after := x.af) GX.out
        have RS := Lib.hid rs
        have GN := Lib.hid gn
        have LN : Hid ((tickL X self x.af).length = mn) := Lib.hid (rs.1.trans HX.out)
        clear rs gn
        obtain ⟨N, hN⟩ : ∃ N, N = tickL X self x.af := ⟨_, rfl⟩
        rw [← hN] at o2 RS GN LN
        clear hN
        have r2 := o2.rd memc_len
        clear o2 rX rl d0 d1 d2 d3 d4 hb
        go_wp2_with fail
        go_loopw [76] (fun i wi => ∃ j : Nat, j ≤ mn ∧ i = .int .i64 j ∧ Rd memc 3 wi.heap.size wi A' X ∧ Rd memc 3 wi.heap.size wi A2 N ∧ Ob wi wr.heap.size #[.int .u8 x.k, .int .u8 x.nd, .int .u16 x.inc, .int .i64 x.af, .slice x.A x.l.length x.cap] 40 ∧ Below w.heap.size w wi) (fun i _ => mn - (intOf i).toNat)
        case atStart => exact ⟨0, Nat.zero_le _, rfl, rY, r2, G, bx⟩
        case round =>
          clear rY r2 G bx
          obtain ⟨j, hj, rfl, r1, r2, G, bi⟩ := hrel
          by_cases hjl : j < mn
          · obtain ⟨p, hp⟩ : ∃ p, X[j]? = some p := ⟨_, List.getElem?_eq_getElem (by have := HX.out; omega)⟩
            obtain ⟨y, hy⟩ : ∃ y, N[j]? = some y := ⟨_, List.getElem?_eq_getElem (by have := LN.out; omega)⟩
            obtain ⟨⟨p1, p2, p3, p4⟩, p5⟩ := RS.out.2 j p y hp hy
            obtain ⟨⟨⟨u0, u1⟩, ⟨v0, v1⟩, z0, z1⟩, _, _⟩ := GN.out y (List.mem_of_getElem? hy)
            obtain ⟨⟨⟨u2, u3⟩, ⟨v2, v3⟩, z2, z3⟩, _, _⟩ := GX.out p (List.mem_of_getElem? hp)
            obtain ⟨bm, om, rfl, _, a0, a1, a2⟩ := r1.mem3 hp
            obtain ⟨bn, pn, rfl, _, e0, e1, e2⟩ := r2.mem3 hy
            have c0 := G.blk.2.1 0 _ rfl
            have lG := G.lt
            have ji : (j : Int) < (mn : Int) := by omega
            have t30 : decide (3 < y.s) = false := by simp; omega
            clear hp hy
            by_cases js : (j : Int) = self
            · have t8 : ((j : Int) == self) = true := by rw [beq_iff_eq]; exact js
              obtain rfl : p = y := (p5 rfl js).symm
              subst js
              by_cases s3 : p.s = 3
              · have pz : (p.i == 0) = false := by rw [beq_eq_false_iff_ne]; intro h; have := p4.1 h; omega
                rw [s3] at a1 e1 t30
                clear s3
                have Ga := (G.alloc (.cells #[.int .u16 p.i, .int .u8 3, .int .u8 p.q] 27)).alloc (.cells #[.int .u16 p.i, .int .u8 3, .int .u8 p.q] 27)
                have ra := Rd.allocS (Rd.allocS r1 (.cells #[.int .u16 p.i, .int .u8 3, .int .u8 p.q] 27)) (.cells #[.int .u16 p.i, .int .u8 3, .int .u8 p.q] 27)
                have rb := Rd.allocS (Rd.allocS r2 (.cells #[.int .u16 p.i, .int .u8 3, .int .u8 p.q] 27)) (.cells #[.int .u16 p.i, .int .u8 3, .int .u8 p.q] 27)
                have ba := Gw.al (Gw.al bi (.cells #[.int .u16 p.i, .int .u8 3, .int .u8 p.q] 27)) (.cells #[.int .u16 p.i, .int .u8 3, .int .u8 p.q] 27)
                clear p1 p2 p3 p4 p5 G r1 r2 bi
                go_wp2_with fail
                go_roundw
                case rel => exact ⟨j + 1, hjl, by go_num, ra, rb, Ga, ba⟩
                case measure => simp [intOf]; omega
              · have t3 : (p.s == 3) = false := by rw [beq_eq_false_iff_ne]; exact s3
                by_cases yz0 : p.i = 0
                · have ys0 := p4.1 yz0
                  rw [yz0] at a0 e0
                  rw [ys0] at a1 e1 t30
                  clear yz0 ys0 s3 t3
                  have Ga := (G.alloc (.cells #[.int .u16 0, .int .u8 0, .int .u8 p.q] 27)).alloc (.cells #[.int .u16 0, .int .u8 0, .int .u8 p.q] 27)
                  have ra := Rd.allocS (Rd.allocS r1 (.cells #[.int .u16 0, .int .u8 0, .int .u8 p.q] 27)) (.cells #[.int .u16 0, .int .u8 0, .int .u8 p.q] 27)
                  have rb := Rd.allocS (Rd.allocS r2 (.cells #[.int .u16 0, .int .u8 0, .int .u8 p.q] 27)) (.cells #[.int .u16 0, .int .u8 0, .int .u8 p.q] 27)
                  have ba := Gw.al (Gw.al bi (.cells #[.int .u16 0, .int .u8 0, .int .u8 p.q] 27)) (.cells #[.int .u16 0, .int .u8 0, .int .u8 p.q] 27)
                  clear p1 p2 p3 p4 p5 G r1 r2 bi
                  go_wp2_with fail
                  go_roundw
                  case rel => exact ⟨j + 1, hjl, by go_num, ra, rb, Ga, ba⟩
                  case measure => simp [intOf]; omega
                · have yz : (p.i == 0) = false := by rw [beq_eq_false_iff_ne]; exact yz0
                  have ysz : (p.s == 0) = false := by rw [beq_eq_false_iff_ne]; intro h; exact yz0 (p4.2 h)
                  clear yz0 s3
                  have Ga := (G.alloc (.cells #[.int .u16 p.i, .int .u8 p.s, .int .u8 p.q] 27)).alloc (.cells #[.int .u16 p.i, .int .u8 p.s, .int .u8 p.q] 27)
                  have ra := Rd.allocS (Rd.allocS r1 (.cells #[.int .u16 p.i, .int .u8 p.s, .int .u8 p.q] 27)) (.cells #[.int .u16 p.i, .int .u8 p.s, .int .u8 p.q] 27)
                  have rb := Rd.allocS (Rd.allocS r2 (.cells #[.int .u16 p.i, .int .u8 p.s, .int .u8 p.q] 27)) (.cells #[.int .u16 p.i, .int .u8 p.s, .int .u8 p.q] 27)
                  have ba := Gw.al (Gw.al bi (.cells #[.int .u16 p.i, .int .u8 p.s, .int .u8 p.q] 27)) (.cells #[.int .u16 p.i, .int .u8 p.s, .int .u8 p.q] 27)
                  clear p1 p2 p3 p4 p5 G r1 r2 bi
                  go_wp2_with fail
                  go_roundw
                  case rel => exact ⟨j + 1, hjl, by go_num, ra, rb, Ga, ba⟩
                  case measure => simp [intOf]; omega
            · have t8 : ((j : Int) == self) = false := by rw [beq_eq_false_iff_ne]; exact js
              by_cases s3 : p.s = 3
              · by_cases se : y.i = p.i
                · have ys := p2 s3 se
                  have pz : (p.i == 0) = false := by rw [beq_eq_false_iff_ne]; intro h; have := p4.1 (se.trans h); omega
                  rw [s3] at a1
                  rw [se] at e0
                  rw [ys] at e1 t30
                  clear s3 se ys
                  have Ga := (G.alloc (.cells #[.int .u16 p.i, .int .u8 3, .int .u8 p.q] 27)).alloc (.cells #[.int .u16 p.i, .int .u8 3, .int .u8 y.q] 27)
                  have ra := Rd.allocS (Rd.allocS r1 (.cells #[.int .u16 p.i, .int .u8 3, .int .u8 p.q] 27)) (.cells #[.int .u16 p.i, .int .u8 3, .int .u8 y.q] 27)
                  have rb := Rd.allocS (Rd.allocS r2 (.cells #[.int .u16 p.i, .int .u8 3, .int .u8 p.q] 27)) (.cells #[.int .u16 p.i, .int .u8 3, .int .u8 y.q] 27)
                  have ba := Gw.al (Gw.al bi (.cells #[.int .u16 p.i, .int .u8 3, .int .u8 p.q] 27)) (.cells #[.int .u16 p.i, .int .u8 3, .int .u8 y.q] 27)
                  clear p1 p2 p3 p4 p5 G r1 r2 bi
                  go_wp2_with fail
                  go_roundw
                  case rel => exact ⟨j + 1, hjl, by go_num, ra, rb, Ga, ba⟩
                  case measure => simp [intOf]; omega
                · have te : (y.i == p.i) = false := by rw [beq_eq_false_iff_ne]; exact se
                  have tl : decide (y.i < p.i) = false := by simp; omega
                  have yz : (y.i == 0) = false := by rw [beq_eq_false_iff_ne]; omega
                  have ysz : (y.s == 0) = false := by rw [beq_eq_false_iff_ne]; intro h; have := p4.2 h; omega
                  rw [s3] at a1
                  clear s3 se
                  have Ga := (G.alloc (.cells #[.int .u16 p.i, .int .u8 3, .int .u8 p.q] 27)).alloc (.cells #[.int .u16 y.i, .int .u8 y.s, .int .u8 y.q] 27)
                  have ra := Rd.allocS (Rd.allocS r1 (.cells #[.int .u16 p.i, .int .u8 3, .int .u8 p.q] 27)) (.cells #[.int .u16 y.i, .int .u8 y.s, .int .u8 y.q] 27)
                  have rb := Rd.allocS (Rd.allocS r2 (.cells #[.int .u16 p.i, .int .u8 3, .int .u8 p.q] 27)) (.cells #[.int .u16 y.i, .int .u8 y.s, .int .u8 y.q] 27)
                  have ba := Gw.al (Gw.al bi (.cells #[.int .u16 p.i, .int .u8 3, .int .u8 p.q] 27)) (.cells #[.int .u16 y.i, .int .u8 y.s, .int .u8 y.q] 27)
                  clear p1 p2 p3 p4 p5 G r1 r2 bi
                  go_wp2_with fail
                  go_roundw
                  case rel => exact ⟨j + 1, hjl, by go_num, ra, rb, Ga, ba⟩
                  case measure => simp [intOf]; omega
              · have t3 : (p.s == 3) = false := by rw [beq_eq_false_iff_ne]; exact s3
                by_cases yz0 : y.i = 0
                · have ys0 := p4.1 yz0
                  have tl : decide (0 < p.i) = false := by simp; omega
                  rw [yz0] at e0
                  rw [ys0] at e1 t30
                  clear yz0 ys0 s3
                  have Ga := (G.alloc (.cells #[.int .u16 p.i, .int .u8 p.s, .int .u8 p.q] 27)).alloc (.cells #[.int .u16 0, .int .u8 0, .int .u8 y.q] 27)
                  have ra := Rd.allocS (Rd.allocS r1 (.cells #[.int .u16 p.i, .int .u8 p.s, .int .u8 p.q] 27)) (.cells #[.int .u16 0, .int .u8 0, .int .u8 y.q] 27)
                  have rb := Rd.allocS (Rd.allocS r2 (.cells #[.int .u16 p.i, .int .u8 p.s, .int .u8 p.q] 27)) (.cells #[.int .u16 0, .int .u8 0, .int .u8 y.q] 27)
                  have ba := Gw.al (Gw.al bi (.cells #[.int .u16 p.i, .int .u8 p.s, .int .u8 p.q] 27)) (.cells #[.int .u16 0, .int .u8 0, .int .u8 y.q] 27)
                  clear p1 p2 p3 p4 p5 G r1 r2 bi
                  go_wp2_with fail
                  go_roundw
                  case rel => exact ⟨j + 1, hjl, by go_num, ra, rb, Ga, ba⟩
                  case measure => simp [intOf]; omega
                · have yz : (y.i == 0) = false := by rw [beq_eq_false_iff_ne]; exact yz0
                  have ysz : (y.s == 0) = false := by rw [beq_eq_false_iff_ne]; intro h; exact yz0 (p4.2 h)
                  have tl : decide (y.i < p.i) = false := by simp; omega
                  clear yz0 s3
                  have Ga := (G.alloc (.cells #[.int .u16 p.i, .int .u8 p.s, .int .u8 p.q] 27)).alloc (.cells #[.int .u16 y.i, .int .u8 y.s, .int .u8 y.q] 27)
                  have ra := Rd.allocS (Rd.allocS r1 (.cells #[.int .u16 p.i, .int .u8 p.s, .int .u8 p.q] 27)) (.cells #[.int .u16 y.i, .int .u8 y.s, .int .u8 y.q] 27)
                  have rb := Rd.allocS (Rd.allocS r2 (.cells #[.int .u16 p.i, .int .u8 p.s, .int .u8 p.q] 27)) (.cells #[.int .u16 y.i, .int .u8 y.s, .int .u8 y.q] 27)
                  have ba := Gw.al (Gw.al bi (.cells #[.int .u16 p.i, .int .u8 p.s, .int .u8 p.q] 27)) (.cells #[.int .u16 y.i, .int .u8 y.s, .int .u8 y.q] 27)
                  clear p1 p2 p3 p4 p5 G r1 r2 bi
                  go_wp2_with fail
                  go_roundw
                  case rel => exact ⟨j + 1, hjl, by go_num, ra, rb, Ga, ba⟩
                  case measure => simp [intOf]; omega
          · obtain rfl : j = mn := by omega
            go_wp2_with fail
            go_roundw
            case rel => exact ⟨k + 1, N, A2, c2, hlt, by go_num, rfl, r2, LN, GN, bi⟩
            case measure => simp [intOf]; omega
    · obtain rfl : k = on := by omega
      go_wp2_with fail
      refine (awake_any _).mono ?_
      rintro e w9 ⟨rfl, hb⟩
      replace bl := Gw.call bl hb
      clear hb
      go_wp2_with fail
      go_ret
      exact ⟨rfl, bl⟩
end Go.Proofs.Ytgkdljfhmflmjaa
