/-
  Messages: values, what they tell, read and owned (21).
-/
import Derived.Test.YtbengmgfddnkhaaIds
import Derived.Test.YtbengmgfddnkhaaFlatId
import Derived.Test.YtbengmgfddnkhaaObj
import Derived.Test.YtbengmgfddnkhaaOwnPut
import Derived.Test.YtbengmgfddnkhaaMem
import Derived.Test.YtbengmgfddnkhaaInts
namespace Go.Proofs.Ytbengmgfddnkhaa
open Go.RowKit
instance : Inhabited Id := ⟨⟨0, 0, 0⟩⟩
/-- a span -/
structure Sp where
  f : Int
  t : Int
deriving DecidableEq
instance : Inhabited Sp := ⟨⟨0, 0⟩⟩
def spc (x : Sp) : List Value := [.int .i32 x.f, .int .i32 x.t]
abbrev spv (x : Sp) : Value := .agg #[.int .i32 x.f, .int .i32 x.t]
theorem spc_len (x : Sp) : (spc x).length = 2 := rfl
theorem spc_one (x : Sp) : ∀ u ∈ spc x, u.oneCell' = true := by intro u hu; simp [spc] at hu; rcases hu with rfl | rfl <;> rfl
theorem sp_ext {x y : Sp} : x = y ↔ x.f = y.f ∧ x.t = y.t := by cases x; cases y; simp
theorem neq_sp (x y : Sp) (w : World) : (binOp .neq 51 (spv x) (spv y)).run Try.prog w = .ok (.bool (decide (x ≠ y))) w := by
  go_simp
  by_cases h0 : x.f = y.f <;> by_cases h1 : x.t = y.t <;> simp [sp_ext, h0, h1]
/-- a descriptor -/
structure DsV where
  n : Int
  i : Int
  a : Int
  A : Option Addr
  l : List Sp
  c : Nat
instance : Inhabited DsV := ⟨⟨0, 0, 0, none, [], 0⟩⟩
def dsc (x : DsV) : List Value := [.int .u8 x.n, .int .u16 x.i, .int .u8 x.a, .slice x.A x.l.length x.c]
abbrev dsv (x : DsV) : Value := .agg #[.int .u8 x.n, .int .u16 x.i, .int .u8 x.a, .slice x.A x.l.length x.c]
theorem dsc_len (x : DsV) : (dsc x).length = 4 := rfl
theorem dsc_one (x : DsV) : ∀ u ∈ dsc x, u.oneCell' = true := by intro u hu; simp [dsc] at hu; rcases hu with rfl | rfl | rfl | rfl <;> rfl
structure Ds where
  n : Int
  i : Int
  a : Int
  l : List Sp
deriving DecidableEq
def DsV.abs (x : DsV) : Ds := ⟨x.n, x.i, x.a, x.l⟩
def DsV.own (base : Nat) (W : World) (x : DsV) : Prop := Own spc 2 51 base W (.slice x.A x.l.length x.c) x.l
def DsV.rd (B : Nat) (W : World) (x : DsV) : Prop := Rd spc 2 B W x.A x.l
/-- a message -/
structure MsV where
  k : Int
  f : Int
  i : Int
  t : Int
  LA : Option Addr
  L : List DsV
  Lc : Nat
  TA : Option Addr
  T : List Mb
  Tc : Nat
  e : Id
  VA : Option Addr
  V : List Int
  Vc : Nat
  DA : Option Addr
  D : List Int
  Dc : Nat
  h : Int
  o : Id
  MA : Option Addr
  M : List Id
  Mc : Nat
  IA : Option Addr
  I : List Id
  Ic : Nat
abbrev i32c : Int → List Value := fun z : Int => [Value.int .i32 z]
abbrev u8c : Int → List Value := fun z : Int => [Value.int .u8 z]
def msA (x : MsV) : Array Value := #[.int .u8 x.k, .int .u8 x.f, .int .u16 x.i, .int .u8 x.t, .slice x.LA x.L.length x.Lc, .slice x.TA x.T.length x.Tc, .int .u8 x.e.n, .int .u16 x.e.i, .int .u32 x.e.s, .slice x.VA x.V.length x.Vc, .slice x.DA x.D.length x.Dc, .int .u8 x.h, .int .u8 x.o.n, .int .u16 x.o.i, .int .u32 x.o.s, .slice x.MA x.M.length x.Mc, .slice x.IA x.I.length x.Ic]
abbrev msv (x : MsV) : Value := .agg (msA x)
def msc (x : MsV) : List Value := (msA x).toList
theorem msA_size (x : MsV) : (msA x).size = 17 := rfl
theorem msc_len (x : MsV) : (msc x).length = 17 := rfl
theorem msc_one (x : MsV) : ∀ u ∈ msc x, u.oneCell' = true := by
  intro u hu
  simp [msc, msA] at hu
  rcases hu with rfl | rfl | rfl | rfl | rfl | rfl | rfl | rfl | rfl | rfl | rfl | rfl | rfl | rfl | rfl | rfl | rfl <;> rfl
def nilM : MsV := ⟨0, 0, 0, 0, none, [], 0, none, [], 0, ⟨0, 0, 0⟩, none, [], 0, none, [], 0, 0, ⟨0, 0, 0⟩, none, [], 0, none, [], 0⟩
instance : Inhabited MsV := ⟨nilM⟩
/-- what a message tells -/
structure Ms where
  k : Int
  f : Int
  i : Int
  t : Int
  L : List Ds
  T : List Mb
  e : Id
  V : List Int
  D : List Int
  h : Int
  o : Id
  M : List Id
  I : List Id
def MsV.abs (x : MsV) : Ms := ⟨x.k, x.f, x.i, x.t, x.L.map DsV.abs, x.T, x.e, x.V, x.D, x.h, x.o, x.M, x.I⟩
structure MsV.own (base : Nat) (W : World) (x : MsV) : Prop where
  L : Own dsc 4 55 base W (.slice x.LA x.L.length x.Lc) x.L
  F : ∀ d ∈ x.L, d.own base W
  T : Own memc 3 57 base W (.slice x.TA x.T.length x.Tc) x.T
  V : Own i32c 1 21 base W (.slice x.VA x.V.length x.Vc) x.V
  D : Own u8c 1 5 base W (.slice x.DA x.D.length x.Dc) x.D
  M : Own idc 3 35 base W (.slice x.MA x.M.length x.Mc) x.M
  I : Own idc 3 30 base W (.slice x.IA x.I.length x.Ic) x.I
structure MsV.rd (B : Nat) (W : World) (x : MsV) : Prop where
  L : Rd dsc 4 B W x.LA x.L
  F : ∀ d ∈ x.L, d.rd B W
  T : Rd memc 3 B W x.TA x.T
  V : Rd i32c 1 B W x.VA x.V
  D : Rd u8c 1 B W x.DA x.D
  M : Rd idc 3 B W x.MA x.M
  I : Rd idc 3 B W x.IA x.I
/-- few things in it -/
structure MsV.few (x : MsV) : Prop where
  L : x.L.length ≤ 1000
  F : ∀ d ∈ x.L, d.l.length ≤ 1000
  T : x.T.length ≤ 1000
  V : x.V.length ≤ 1000
  D : x.D.length ≤ 1000
  M : x.M.length ≤ 1000
  I : x.I.length ≤ 1000
/-- so of what it tells -/
structure Ms.few (x : Ms) : Prop where
  L : x.L.length ≤ 1000
  F : ∀ d ∈ x.L, d.l.length ≤ 1000
  T : x.T.length ≤ 1000
  V : x.V.length ≤ 1000
  D : x.D.length ≤ 1000
  M : x.M.length ≤ 1000
  I : x.I.length ≤ 1000
theorem MsV.few_abs {x : MsV} : x.few ↔ x.abs.few := by
  constructor
  · rintro ⟨h1, h2, h3, h4, h5, h6, h7⟩
    refine ⟨by simpa [MsV.abs] using h1, ?_, h3, h4, h5, h6, h7⟩
    intro d hd
    obtain ⟨e, he, rfl⟩ := List.mem_map.1 hd
    exact h2 e he
  · rintro ⟨h1, h2, h3, h4, h5, h6, h7⟩
    refine ⟨by simpa [MsV.abs] using h1, ?_, h3, h4, h5, h6, h7⟩
    intro d hd
    exact h2 d.abs (List.mem_map.2 ⟨d, hd, rfl⟩)
theorem few_of_abs {x y : MsV} (h : x.abs = y.abs) (hx : x.few) : y.few := MsV.few_abs.2 (h ▸ MsV.few_abs.1 hx)
section
variable {base B B' : Nat} {W W' : World} {x y : MsV} {d : DsV}
theorem DsV.own.below (h : d.own base W) (hb : Below W.heap.size W W') : d.own base W' := Own.below h hb
theorem DsV.own.base_le (h : d.own base W) (hb : B ≤ base) : d.own B W := Own.base_le h hb
theorem DsV.own.rd (h : d.own base W) : d.rd W.heap.size W := Own.rd spc_len h
theorem DsV.rd.up (h : d.rd W.heap.size W) (hb : Below W.heap.size W W') : d.rd W'.heap.size W' := Rd.up h hb
theorem DsV.rd.below (h : d.rd B W) (hb : Below B W W') : d.rd B W' := Rd.below h hb
theorem MsV.own.below (h : x.own base W) (hb : Below W.heap.size W W') : x.own base W' :=
  ⟨Own.below h.L hb, fun d hd => (h.F d hd).below hb, Own.below h.T hb, Own.below h.V hb, Own.below h.D hb, Own.below h.M hb, Own.below h.I hb⟩
theorem MsV.own.base_le (h : x.own base W) (hb : B ≤ base) : x.own B W :=
  ⟨h.L.base_le hb, fun d hd => (h.F d hd).base_le hb, h.T.base_le hb, h.V.base_le hb, h.D.base_le hb, h.M.base_le hb, h.I.base_le hb⟩
theorem MsV.own.rd (h : x.own base W) : x.rd W.heap.size W :=
  ⟨h.L.rd dsc_len, fun d hd => (h.F d hd).rd, h.T.rd memc_len, h.V.rd (int_len .i32), h.D.rd (int_len .u8), h.M.rd idc_len, h.I.rd idc_len⟩
theorem MsV.rd.below (h : x.rd B W) (hb : Below B W W') : x.rd B W' :=
  ⟨h.L.below hb, fun d hd => (h.F d hd).below hb, h.T.below hb, h.V.below hb, h.D.below hb, h.M.below hb, h.I.below hb⟩
theorem MsV.rd.up (h : x.rd W.heap.size W) (hb : Below W.heap.size W W') : x.rd W'.heap.size W' :=
  ⟨h.L.up hb, fun d hd => (h.F d hd).up hb, h.T.up hb, h.V.up hb, h.D.up hb, h.M.up hb, h.I.up hb⟩
theorem nilM_own : nilM.own base W := ⟨Own.nil_, (fun d hd => by cases hd), Own.nil_, Own.nil_, Own.nil_, Own.nil_, Own.nil_⟩
theorem nilM_rd : nilM.rd B W := ⟨Rd.nil_, (fun d hd => by cases hd), Rd.nil_, Rd.nil_, Rd.nil_, Rd.nil_, Rd.nil_⟩
/-! Two own slices of unlike element types lie in unlike blocks. -/
theorem own_unlike {α β : Type} {enc : α → List Value} {enc2 : β → List Value} {sz sz2 base base2 : Nat} {E E2 : TypeId} {w : World} {u v : Value} {l : List α} {l2 : List β} (h : Own enc sz E base w u l) (h2 : Own enc2 sz2 E2 base2 w v l2) (hne : E ≠ E2) : Apart u v := fun k hk hv => by
  rcases h.2 with ⟨rfl, _⟩ | ⟨g, cap, cur, rfl, _, hg, _⟩
  · simp [Value.ownBlock] at hk
  · rcases h2.2 with ⟨rfl, _⟩ | ⟨g2, cap2, cur2, rfl, _, hg2, _⟩
    · simp [Value.ownBlock] at hv
    · have e1 := own_blk hk
      have e2 := own_blk hv
      simp only at e1 e2
      rw [← e1] at hg
      rw [← e2] at hg2
      have := hg.symm.trans hg2
      simp at this
      exact hne this.2
/-- a row of descriptors of the call's own, with what they hold -/
structure DsX (base : Nat) (W : World) (v : Value) (ds : List DsV) : Prop where
  out : Own dsc 4 55 base W v ds
  row : ∀ d ∈ ds, d.own base W
theorem DsX.below {v : Value} {ds : List DsV} (h : DsX base W v ds) (hb : Below W.heap.size W W') : DsX base W' v ds := ⟨Own.below h.out hb, fun d hd => (h.row d hd).below hb⟩
theorem DsX.base_le {v : Value} {ds : List DsV} (h : DsX base W v ds) (hb : B ≤ base) : DsX B W v ds := ⟨h.out.base_le hb, fun d hd => (h.row d hd).base_le hb⟩
theorem DsX.snoc {v v' : Value} {ds : List DsV} (h : DsX base W v ds) (hg : W.grownBy W' v.ownBlock) (ho : Own dsc 4 55 base W' v' (ds ++ [d])) (hd : d.own base W) : DsX base W' v' (ds ++ [d]) :=
  ⟨ho, fun y hy => by
    have hy' : y.own base W := by
      rcases List.mem_append.1 hy with hy | hy
      · exact h.row y hy
      · obtain rfl : y = d := by simpa using hy
        exact hd
    exact Apart.keep hy' (own_unlike hy' h.out (by decide)) hg⟩
/-- a message of the call's own, through the growth of a row of messages -/
theorem MsV.own.keep {v : Value} {ms : List MsV} {base2 : Nat} (h : x.own base W) (ho : Own msc 17 39 base2 W v ms) (hg : W.grownBy W' v.ownBlock) : x.own base W' :=
  ⟨Apart.keep h.L (own_unlike h.L ho (by decide)) hg, fun d hd => Apart.keep (h.F d hd) (own_unlike (h.F d hd) ho (by decide)) hg, Apart.keep h.T (own_unlike h.T ho (by decide)) hg, Apart.keep h.V (own_unlike h.V ho (by decide)) hg, Apart.keep h.D (own_unlike h.D ho (by decide)) hg, Apart.keep h.M (own_unlike h.M ho (by decide)) hg, Apart.keep h.I (own_unlike h.I ho (by decide)) hg⟩
/-- a row of messages of the call's own, with what they hold -/
structure OutX (base : Nat) (W : World) (v : Value) (ms : List MsV) : Prop where
  out : Own msc 17 39 base W v ms
  row : ∀ m ∈ ms, m.own base W
theorem OutX.below {v : Value} {ms : List MsV} (h : OutX base W v ms) (hb : Below W.heap.size W W') : OutX base W' v ms := ⟨Own.below h.out hb, fun d hd => (h.row d hd).below hb⟩
theorem OutX.base_le {v : Value} {ms : List MsV} (h : OutX base W v ms) (hb : B ≤ base) : OutX B W v ms := ⟨h.out.base_le hb, fun d hd => (h.row d hd).base_le hb⟩
theorem OutX.snoc {v v' : Value} {ms : List MsV} (h : OutX base W v ms) (hg : W.grownBy W' v.ownBlock) (ho : Own msc 17 39 base W' v' (ms ++ [x])) (hx : x.own base W) : OutX base W' v' (ms ++ [x]) :=
  ⟨ho, fun y hy => by
    have hy' : y.own base W := by
      rcases List.mem_append.1 hy with hy | hy
      · exact h.row y hy
      · obtain rfl : y = x := by simpa using hy
        exact hx
    exact hy'.keep h.out hg⟩
theorem OutX.nil_ : OutX base W (.slice none 0 0) [] := ⟨Own.nil_, (fun m hm => by cases hm)⟩
/-- a row of messages that is read -/
structure OutR (B : Nat) (W : World) (A : Option Addr) (ms : List MsV) : Prop where
  out : Rd msc 17 B W A ms
  row : ∀ m ∈ ms, m.rd B W
theorem OutR.below {A : Option Addr} {ms : List MsV} (h : OutR B W A ms) (hb : Below B W W') : OutR B W' A ms := ⟨h.out.below hb, fun m hm => (h.row m hm).below hb⟩
theorem OutR.up {A : Option Addr} {ms : List MsV} (h : OutR W.heap.size W A ms) (hb : Below W.heap.size W W') : OutR W'.heap.size W' A ms := ⟨h.out.up hb, fun m hm => (h.row m hm).up hb⟩
theorem OutX.rd {A : Option Addr} {n c : Nat} {ms : List MsV} (h : OutX base W (.slice A n c) ms) : OutR W.heap.size W A ms := ⟨h.out.rd msc_len, fun m hm => (h.row m hm).rd⟩
theorem OutR.nil_ : OutR B W none [] := ⟨Rd.nil_, (fun m hm => by cases hm)⟩
end
end Go.Proofs.Ytbengmgfddnkhaa
