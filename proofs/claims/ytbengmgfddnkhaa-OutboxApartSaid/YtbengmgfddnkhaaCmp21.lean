/-
  Descs, Event: of those that tell the same (21).
-/
import Derived.Test.YtbengmgfddnkhaaBox
import Derived.Test.YtbengmgfddnkhaaBytes
import Derived.Test.YtbengmgfddnkhaaIdSame
import Derived.Test.YtbengmgfddnkhaaMarksSame
import Derived.Deep.QuietTactic
import Derived.BigQuiet
namespace Go.Proofs.Ytbengmgfddnkhaa
open Go.RowKit
theorem eql_mk21 (x y : Id) (w : World) : (binOp .eql 35 (idv x) (idv y)).run Try.prog w = .ok (.bool (decide (x = y))) w := by
  go_simp
  by_cases h0 : x.n = y.n <;> by_cases h1 : x.i = y.i <;> by_cases h2 : x.s = y.s <;> simp [id_ext, h0, h1, h2]
theorem ds_abs {a b : DsV} (h : a.abs = b.abs) : b.n = a.n ∧ b.i = a.i ∧ b.a = a.a ∧ b.l = a.l := by
  unfold DsV.abs at h
  injection h with h1 h2 h3 h4
  exact ⟨h1.symm, h2.symm, h3.symm, h4.symm⟩
set_option maxRecDepth 100000 in
set_option maxHeartbeats 4000000 in
theorem descs_yes (a b : List DsV) (A B : Option Addr) (ca cb n : Nat) (w : World) (ha : Rd dsc 4 w.heap.size w A a) (hb : Rd dsc 4 w.heap.size w B b) (hra : ∀ d ∈ a, d.rd w.heap.size w) (hrb : ∀ d ∈ b, d.rd w.heap.size w) (hab : a.map DsV.abs = b.map DsV.abs) (hn : a.length = n) (hlen : n ≤ 1000000) (hll : ∀ d ∈ a, d.l.length ≤ 1000000) :
    Calls Try.prog 21 #[.slice A n ca, .slice B n cb] w fun e w' => e = .returned (.bool true) ∧ Below w.heap.size w w' := by
  have HAB := Lib.hid hab
  have HRA := Lib.hid hra
  have HRB := Lib.hid hrb
  have HLL := Lib.hid hll
  have HN := Lib.hid hn
  have tnn : ((n : Int) != (n : Int)) = false := by simp
  clear hab hra hrb hll hn
  go_enter Try.func21, Try.ntmps21
  go_wp2_with fail
  go_loopw [14] (fun i wr => ∃ k : Nat, k ≤ n ∧ i = .int .i64 k ∧ Below w.heap.size w wr) (fun i _ => n - (intOf i).toNat)
  case atStart => exact ⟨0, Nat.zero_le _, rfl, Below.refl _ _⟩
  case round =>
    obtain ⟨k, hk, rfl, bl⟩ := hrel
    by_cases hlt : k < n
    · obtain ⟨x, hx⟩ : ∃ x, a[k]? = some x := ⟨_, List.getElem?_eq_getElem (by rw [HN.out]; exact hlt)⟩
      obtain ⟨y, hy, hxy⟩ : ∃ y, b[k]? = some y ∧ x.abs = y.abs := by
        have := congrArg (fun l => l[k]?) HAB.out
        simp only [List.getElem?_map, hx, Option.map_some] at this
        cases hy : b[k]? with
        | none => rw [hy] at this; cases this
        | some y => rw [hy] at this; exact ⟨y, rfl, by injection this⟩
      obtain ⟨yn, yi, ya, yl⟩ := ds_abs hxy
      obtain ⟨b1, o1, rfl, hb1, hc1⟩ := ha.at_ hx
      obtain ⟨b2, o2, rfl, hb2, hc2⟩ := hb.at_ hy
      have hxr := HRA.out x (List.mem_of_getElem? hx)
      have hyr := HRB.out y (List.mem_of_getElem? hy)
      have hxl := HLL.out x (List.mem_of_getElem? hx)
      have d0 : w.cell? ⟨b1, o1 + k * 4, none⟩ = some (.int .u8 x.n) := hc1 0 _ rfl
      have d1 : w.cell? ⟨b1, o1 + k * 4 + 1, none⟩ = some (.int .u16 x.i) := hc1 1 _ rfl
      have d2 : w.cell? ⟨b1, o1 + k * 4 + 2, none⟩ = some (.int .u8 x.a) := hc1 2 _ rfl
      have d3 : w.cell? ⟨b1, o1 + k * 4 + 3, none⟩ = some (.slice x.A x.l.length x.c) := hc1 3 _ rfl
      have e0 : w.cell? ⟨b2, o2 + k * 4, none⟩ = some (.int .u8 x.n) := by rw [← yn]; exact hc2 0 _ rfl
      have e1 : w.cell? ⟨b2, o2 + k * 4 + 1, none⟩ = some (.int .u16 x.i) := by rw [← yi]; exact hc2 1 _ rfl
      have e2 : w.cell? ⟨b2, o2 + k * 4 + 2, none⟩ = some (.int .u8 x.a) := by rw [← ya]; exact hc2 2 _ rfl
      have e3 : w.cell? ⟨b2, o2 + k * 4 + 3, none⟩ = some (.slice y.A x.l.length y.c) := by rw [← yl]; exact hc2 3 _ rfl
      have D0 := Lib.hid (And.intro d3 e3)
      rw [← (bl.cell (p := ⟨b1, o1 + k * 4, none⟩) hb1)] at d0
      rw [← (bl.cell (p := ⟨b1, o1 + k * 4 + 1, none⟩) hb1)] at d1
      rw [← (bl.cell (p := ⟨b1, o1 + k * 4 + 2, none⟩) hb1)] at d2
      rw [← (bl.cell (p := ⟨b1, o1 + k * 4 + 3, none⟩) hb1)] at d3
      rw [← (bl.cell (p := ⟨b2, o2 + k * 4, none⟩) hb2)] at e0
      rw [← (bl.cell (p := ⟨b2, o2 + k * 4 + 1, none⟩) hb2)] at e1
      rw [← (bl.cell (p := ⟨b2, o2 + k * 4 + 2, none⟩) hb2)] at e2
      rw [← (bl.cell (p := ⟨b2, o2 + k * 4 + 3, none⟩) hb2)] at e3
      have ki : (k : Int) < (n : Int) := by omega
      have t0 : (x.n != x.n) = false := by simp
      have t1 : (x.i != x.i) = false := by simp
      have t2 : (x.a != x.a) = false := by simp
      have t3 : ((x.l.length : Int) != (x.l.length : Int)) = false := by simp
      have hyr2 : Rd spc 2 w.heap.size w y.A x.l := yl ▸ hyr
      have hxr2 : Rd spc 2 w.heap.size w x.A x.l := hxr
      clear hc1 hc2 hx hy hxy yn yi ya yl hxr hyr
      go_upto_region 6 with fail
      (try simp only [List.append_eq, List.cons_append, List.nil_append])
      go_quiet (fail)
      go_wp2_with fail
      go_loopw [75] (fun i wr => ∃ q : Nat, q ≤ x.l.length ∧ i = .int .i64 q ∧ Below w.heap.size w wr) (fun i _ => x.l.length - (intOf i).toNat)
      case atStart => exact ⟨0, Nat.zero_le _, rfl, Gw.drewN bl _⟩
      case round =>
        clear bl d0 d1 d2 d3 e0 e1 e2 e3
        obtain ⟨q, hq, rfl, bl⟩ := hrel
        have d3 : wr.cell? ⟨b1, o1 + k * 4 + 3, none⟩ = some (.slice x.A x.l.length x.c) := (bl.cell (p := ⟨b1, o1 + k * 4 + 3, none⟩) hb1).trans D0.out.1
        have e3 : wr.cell? ⟨b2, o2 + k * 4 + 3, none⟩ = some (.slice y.A x.l.length y.c) := (bl.cell (p := ⟨b2, o2 + k * 4 + 3, none⟩) hb2).trans D0.out.2
        by_cases hql : q < x.l.length
        · obtain ⟨s, hs⟩ : ∃ s, x.l[q]? = some s := ⟨_, List.getElem?_eq_getElem hql⟩
          obtain ⟨b3, o3, hA3, hb3, hc3⟩ := (hxr2.below bl).at_ hs
          obtain ⟨b4, o4, hA4, hb4, hc4⟩ := (hyr2.below bl).at_ hs
          rw [hA3] at d3
          rw [hA4] at e3
          have f0 : wr.cell? ⟨b3, o3 + q * 2, none⟩ = some (.int .i32 s.f) := hc3 0 _ rfl
          have f1 : wr.cell? ⟨b3, o3 + q * 2 + 1, none⟩ = some (.int .i32 s.t) := hc3 1 _ rfl
          have g0 : wr.cell? ⟨b4, o4 + q * 2, none⟩ = some (.int .i32 s.f) := hc4 0 _ rfl
          have g1 : wr.cell? ⟨b4, o4 + q * 2 + 1, none⟩ = some (.int .i32 s.t) := hc4 1 _ rfl
          have qi : (q : Int) < (x.l.length : Int) := by omega
          have HA3 := Lib.hid hA3
          have HA4 := Lib.hid hA4
          clear hs hc3 hc4 hA3 hA4
          go_wp2_with fail
          go_quiet (fail)
          go_wp2
          go_roundw
          case rel => exact ⟨q + 1, hql, by go_num, Gw.drewN bl _⟩
          case measure => simp [intOf]; omega
        · obtain rfl : q = x.l.length := by omega
          go_wp2_with fail
          go_roundw
          case rel => exact ⟨k + 1, hlt, by go_num, bl⟩
          case measure => simp [intOf]; omega
    · obtain rfl : k = n := by omega
      go_wp2_with fail
      go_ret
      exact ⟨rfl, bl⟩
abbrev eva (e : Id) (A : Option Addr) (n c : Nat) (B : Option Addr) (m d : Nat) : Value := .agg #[.int .u8 e.n, .int .u16 e.i, .int .u32 e.s, .slice A n c, .slice B m d]
set_option maxRecDepth 100000 in
set_option maxHeartbeats 4000000 in
theorem event_yes (e : Id) (V D : List Int) (VA VB DA DB : Option Addr) (n m va vb da db : Nat) (w : World) (h1 : Rd i32c 1 w.heap.size w VA V) (h2 : Rd i32c 1 w.heap.size w VB V) (h3 : Rd u8c 1 w.heap.size w DA D) (h4 : Rd u8c 1 w.heap.size w DB D) (hn : n = V.length) (hm : m = D.length) (hl : n ≤ 1000000) :
    Calls Try.prog 22 #[.agg #[.int .u8 e.n, .int .u16 e.i, .int .u32 e.s, .slice VA n va, .slice DA m da], .agg #[.int .u8 e.n, .int .u16 e.i, .int .u32 e.s, .slice VB n vb, .slice DB m db]] w fun e w' => e = .returned (.bool true) ∧ Below w.heap.size w w' := by
  have b0 := Gw.al (Gw.al (Below.refl w.heap.size w) (.cells #[.int .u8 e.n, .int .u16 e.i, .int .u32 e.s, .slice VA n va, .slice DA m da] 34)) (.cells #[.int .u8 e.n, .int .u16 e.i, .int .u32 e.s, .slice VB n vb, .slice DB m db] 34)
  have G := (Ob.new w #[.int .u8 e.n, .int .u16 e.i, .int .u32 e.s, .slice VA n va, .slice DA m da] 34).alloc (.cells #[.int .u8 e.n, .int .u16 e.i, .int .u32 e.s, .slice VB n vb, .slice DB m db] 34)
  have H := Ob.new (w.alloc (.cells #[.int .u8 e.n, .int .u16 e.i, .int .u32 e.s, .slice VA n va, .slice DA m da] 34)) #[.int .u8 e.n, .int .u16 e.i, .int .u32 e.s, .slice VB n vb, .slice DB m db] 34
  rw [World.size_alloc] at H
  have c1 := conv_rd Try.underlying32 Try.underlying5 Try.underlying9 (h3.up b0) m da hm
  have c2 := conv_rd Try.underlying32 Try.underlying5 Try.underlying9 (h4.up b0) m db hm
  have hne := neq_id e e
  rw [show decide (e ≠ e) = false by simp] at hne
  have tnn : ((n : Int) != (n : Int)) = false := by simp
  have HN := Lib.hid hn
  clear hn hm
  go_enter Try.func22, Try.ntmps22
  go_wp2_with fail
  generalize (w.alloc (.cells #[.int .u8 e.n, .int .u16 e.i, .int .u32 e.s, .slice VA n va, .slice DA m da] 34)).alloc (.cells #[.int .u8 e.n, .int .u16 e.i, .int .u32 e.s, .slice VB n vb, .slice DB m db] 34) = w1 at *
  clear c1 c2
  go_loopw [5] (fun i wr => ∃ k : Nat, k ≤ n ∧ i = .int .i64 k ∧ Below w1.heap.size w1 wr) (fun i _ => n - (intOf i).toNat)
  case atStart => exact ⟨0, Nat.zero_le _, rfl, Below.refl _ _⟩
  case round =>
    obtain ⟨k, hk, rfl, bl⟩ := hrel
    have g3 := (G.call bl).blk.2.1 3 _ rfl
    have k3 := (H.call bl).blk.2.1 3 _ rfl
    by_cases hlt : k < n
    · obtain ⟨x, hx⟩ : ∃ x, V[k]? = some x := ⟨_, List.getElem?_eq_getElem (by have := HN.out; omega)⟩
      obtain ⟨b1, o1, rfl, _, d0⟩ := (h1.up (Gw.call b0 bl)).int1 hx
      obtain ⟨b2, o2, rfl, _, e0⟩ := (h2.up (Gw.call b0 bl)).int1 hx
      have ki : (k : Int) < (n : Int) := by omega
      have txx : (x != x) = false := by simp
      clear hx
      go_wp2_with fail
      go_quiet (fail)
      go_wp2
      go_roundw
      case rel => exact ⟨k + 1, hlt, by go_num, Gw.drewN bl _⟩
      case measure => simp [intOf]; omega
    · obtain rfl : k = n := by omega
      go_wp2_with fail
      go_ret
      exact ⟨rfl, Gw.call b0 bl⟩
end Go.Proofs.Ytbengmgfddnkhaa
