/-
  The document's own Stable (19).
-/
import Derived.Test.YtcclnfpegepcnaaRef19B
namespace Go.Proofs.Ytcclnfpegepcnaa
open Go.RowKit
theorem lag_out {k : Nat} {mb : Mb} {self : Int} {r : Rw} {t : List (List Id)} {x : Id} (h : mb.i = 0 ∨ mb.s = 3) : lagB k mb self r t x = false := by unfold lagB; rw [if_pos h]
theorem lag_self {k : Nat} {mb : Mb} {self : Int} {r : Rw} {t : List (List Id)} {x : Id} (h1 : ¬mb.i = 0) (h2 : ¬mb.s = 3) (h : (k : Int) = self) : lagB k mb self r t x = !passedB ⟨x.n, r.i, r.p⟩ x := by
  unfold lagB; rw [if_neg (by rintro (h | h); exact h1 h; exact h2 h), if_pos h]
theorem lag_other {k : Nat} {mb : Mb} {self : Int} {r : Rw} {t : List (List Id)} {x : Id} (h1 : ¬mb.i = 0) (h2 : ¬mb.s = 3) (h : ¬(k : Int) = self) : lagB k mb self r t x = !passedB (ofL t k x.n.toNat) x := by
  unfold lagB; rw [if_neg (by rintro (h | h); exact h1 h; exact h2 h), if_neg h]
set_option maxRecDepth 100000 in
set_option maxHeartbeats 8000000 in
theorem refstable_any (t : List (List Id)) (members : List Mb) (self : Nat) (rows : List Rw) (a : Nat) (xi xs : Int) (A C B : Option Addr) (ca cc cb n mn rn : Nat) (w : World) (hln : t.length = n) (hml : members.length = mn) (hrl : rows.length = rn) (rt : Rep w.heap.size w A t) (rm : Rd memc 3 w.heap.size w C members) (rr : Rd rowc 3 w.heap.size w B rows) (hself : self ≤ 255) (ha : a ≤ 255) (hm : mn ≤ 255) (hrb : rn ≤ 1000000) :
    Calls Try.prog 23 #[.slice A n ca, .slice C mn cc, .int .u8 (self : Int), .slice B rn cb, .agg #[.int .u8 (a : Int), .int .u16 xi, .int .u32 xs]] w fun e w' => e = .returned (.bool (stableB t members (self : Int) rows ⟨(a : Int), xi, xs⟩)) ∧ Below w.heap.size w w' := by
  have wa : IntKind.i64.wrap (a : Int) = (a : Int) := IntWalk.i64_in _ (by omega)
  have wself : IntKind.i64.wrap (self : Int) = (self : Int) := IntWalk.i64_in _ (by omega)
  have oX := Ob.new w #[.int .u8 (a : Int), .int .u16 xi, .int .u32 xs] 28
  have b0 := Gw.al (Below.refl w.heap.size w) (.cells #[.int .u8 (a : Int), .int .u16 xi, .int .u32 xs] 28)
  have x0 := oX.blk.2.1 0 _ rfl
  have HLN := Lib.hid hln
  have HML := Lib.hid hml
  have HRL := Lib.hid hrl
  clear hln hml hrl
  by_cases hax : a < rn
  · obtain ⟨r, hr⟩ : ∃ r, rows[a]? = some r := ⟨_, List.getElem?_eq_getElem (by rw [HRL.out]; exact hax)⟩
    have HR : Hid (rows[(⟨(a : Int), xi, xs⟩ : Id).n.toNat]? = some r) := Lib.hid hr
    have HR2 := Lib.hid hr
    clear hr
    have t1 : decide ((rn : Int) ≤ (a : Int)) = false := by simp; omega
    have t1n : decide (rn ≤ a) = false := by simp; omega
    have ani : (a : Int) < (rn : Int) := by omega
    go_enter Try.func23, Try.ntmps23
    go_wp2_with fail
    generalize hw1 : w.alloc (.cells #[.int .u8 (a : Int), .int .u16 xi, .int .u32 xs] 28) = w1 at *
    clear hw1 x0
    go_loopw [11] (fun i wr => ∃ k : Nat, k ≤ mn ∧ i = .int .i64 k ∧ Hid (∀ (j : Nat) (mb : Mb), j < k → members[j]? = some mb → lagB j mb (self : Int) r t ⟨(a : Int), xi, xs⟩ = false) ∧ Below w1.heap.size w1 wr) (fun i _ => mn - (intOf i).toNat)
    case atStart => exact ⟨0, Nat.zero_le _, rfl, Lib.hid (fun j mb h => absurd h (Nat.not_lt_zero _)), Below.refl _ _⟩
    case round =>
      obtain ⟨k, hk, rfl, HP, bl⟩ := hrel
      by_cases hkl : k < mn
      · obtain ⟨mb, hmb⟩ : ∃ mb, members[k]? = some mb := ⟨_, List.getElem?_eq_getElem (by rw [HML.out]; exact hkl)⟩
        obtain ⟨bm, om, rfl, hbm, hc⟩ := (rm.below (Gw.call b0 bl)).at_ hmb
        have d0 : wr.cell? ⟨bm, om + k * 3, none⟩ = some (.int .u16 mb.i) := hc 0 _ rfl
        have d1 : wr.cell? ⟨bm, om + k * 3 + 1, none⟩ = some (.int .u8 mb.s) := hc 1 _ rfl
        have d2 : wr.cell? ⟨bm, om + k * 3 + 2, none⟩ = some (.int .u8 mb.q) := hc 2 _ rfl
        have HMB := Lib.hid hmb
        have ki : (k : Int) < (mn : Int) := by omega
        have k256 : (k : Int) < 256 := by omega
        have wk : IntKind.u8.wrap (k : Int) = (k : Int) := IntWalk.u8_in _ (by omega)
        have oX1 := oX.call bl
        have x0 := oX1.blk.2.1 0 _ rfl
        have x1 := oX1.blk.2.1 1 _ rfl
        have x2 := oX1.blk.2.1 2 _ rfl
        have STEP : Hid (lagB k mb (self : Int) r t ⟨(a : Int), xi, xs⟩ = false → ∀ (j : Nat) (mb : Mb), j < k + 1 → members[j]? = some mb → lagB j mb (self : Int) r t ⟨(a : Int), xi, xs⟩ = false) := Lib.hid fun hl j mb' hj hm' => by
          rcases Nat.lt_succ_iff_lt_or_eq.1 hj with h | h
          · exact HP.out j mb' h hm'
          · subst h
            obtain rfl := Option.some.inj (HMB.out.symm.trans hm')
            exact hl
        have STOP : Hid (lagB k mb (self : Int) r t ⟨(a : Int), xi, xs⟩ = true → stableB t members (self : Int) rows ⟨(a : Int), xi, xs⟩ = false) := Lib.hid fun hl => stable_lag HR.out HMB.out hl
        clear hc hmb
        by_cases h1 : mb.i = 0
        · have z1 : (mb.i == 0) = true := by simp [h1]
          have HL := Lib.hid (STEP.out (lag_out (.inl h1)))
          clear h1 STEP STOP
          go_wp2_with fail
          go_roundw
          case rel => exact ⟨k + 1, hkl, by go_num, HL, bl⟩
          case measure => simp [intOf]; omega
        have z1 : (mb.i == 0) = false := by rw [beq_eq_false_iff_ne]; exact h1
        by_cases h2 : mb.s = 3
        · have z2 : (mb.s == 3) = true := by simp [h2]
          have HL := Lib.hid (STEP.out (lag_out (.inr h2)))
          clear h1 h2 STEP STOP
          go_wp2_with fail
          go_roundw
          case rel => exact ⟨k + 1, hkl, by go_num, HL, bl⟩
          case measure => simp [intOf]; omega
        have z2 : (mb.s == 3) = false := by rw [beq_eq_false_iff_ne]; exact h2
        by_cases h3 : k = self
        · have z3 : ((k : Int) == (self : Int)) = true := by rw [beq_iff_eq]; omega
          have HL := Lib.hid (lag_self (t := t) (r := r) (x := ⟨(a : Int), xi, xs⟩) h1 h2 (show (k : Int) = (self : Int) by omega))
          obtain ⟨b2, o2, rfl, hb2, hd⟩ := (rr.below (Gw.call b0 bl)).at_ HR2.out
          have r0 : wr.cell? ⟨b2, o2 + a * 3, none⟩ = some (.int .u16 r.i) := hd 0 _ rfl
          have r1 : wr.cell? ⟨b2, o2 + a * 3 + 1, none⟩ = some (.int .u32 r.p) := hd 1 _ rfl
          have bx := Gw.al bl (.cells #[.int .u8 (a : Int), .int .u16 r.i, .int .u32 r.p] 40)
          have xx0 := fun o => World.cell?_alloc_old x0 o
          have xx1 := fun o => World.cell?_alloc_old x1 o
          have xx2 := fun o => World.cell?_alloc_old x2 o
          have rr0 := fun o => World.cell?_alloc_old r0 o
          have rr1 := fun o => World.cell?_alloc_old r1 o
          clear h1 h2 h3 hd
          have CP := Lib.hid (refpassed_any ⟨(a : Int), r.i, r.p⟩ ⟨(a : Int), xi, xs⟩)
          go_wp2_with fail
          refine (CP.out _).mono ?_
          rintro e w6 ⟨rfl, hb⟩
          have b6 := Gw.call bx hb
          clear hb
          cases hp : passedB ⟨(a : Int), r.i, r.p⟩ ⟨(a : Int), xi, xs⟩
          · have HS := Lib.hid (STOP.out (by rw [HL.out, hp]; rfl))
            go_wp2_with fail
            go_ret
            exact ⟨by rw [HS.out]; rfl, Gw.call b0 b6⟩
          · have HS := Lib.hid (STEP.out (by rw [HL.out, hp]; rfl))
            clear STEP STOP hp
            go_wp2_with fail
            go_roundw
            case rel => exact ⟨k + 1, hkl, by go_num, HS, b6⟩
            case measure => simp [intOf]; omega
        · have z3 : ((k : Int) == (self : Int)) = false := by rw [beq_eq_false_iff_ne]; omega
          have HL : Hid (lagB k mb (self : Int) r t ⟨(a : Int), xi, xs⟩ = !passedB (ofL t k a) ⟨(a : Int), xi, xs⟩) := Lib.hid (lag_other (t := t) (r := r) (x := ⟨(a : Int), xi, xs⟩) h1 h2 (show ¬(k : Int) = (self : Int) by omega))
          clear h1 h2 h3
          have M := Ob.new wr #[.int .u8 (a : Int), .int .u16 0, .int .u32 0] 40
          have oX2 := oX1.alloc (.cells #[.int .u8 (a : Int), .int .u16 0, .int .u32 0] 40)
          have bx := Gw.al bl (.cells #[.int .u8 (a : Int), .int .u16 0, .int .u32 0] 40)
          have hgm : w1.heap.size ≤ wr.heap.size := bl.size
          have xx0 := oX2.blk.2.1 0 _ rfl
          have CO := Lib.hid (fun W h => refof_any t A ca n k a W HLN.out h (by omega) ha)
          go_wp2_with fail
          refine (CO.out _ (rt.up (Gw.call b0 bx))).mono ?_
          rintro e w6 ⟨rfl, hb⟩
          replace M := M.call hb
          replace oX2 := oX2.call hb
          replace bx := Gw.call bx hb
          clear hb x0 x1 x2 d0 d1 d2 oX1 xx0
          obtain ⟨o, ho⟩ : ∃ o, o = ofL t k a := ⟨_, rfl⟩
          rw [← ho] at HL ⊢
          clear ho
          have y0 := M.blk.2.1 0 _ rfl
          have y1 := M.blk.2.1 1 _ rfl
          have y2 := M.blk.2.1 2 _ rfl
          have yf := M.blk.2.2
          have hgx : w.heap.size ≠ wr.heap.size := fun e => by have := oX.lt; omega
          have oX3 := ((oX2.far (p := wr.heap.size) (j := 0) hgx (.int .u8 o.n)).far (p := wr.heap.size) (j := 1) hgx (.int .u16 o.i)).far (p := wr.heap.size) (j := 2) hgx (.int .u32 o.s)
          have bz := Gw.st (Gw.st (Gw.st bx (p := ⟨wr.heap.size, 0, none⟩) hgm (.int .u8 o.n)) (p := ⟨wr.heap.size, 1, none⟩) hgm (.int .u16 o.i)) (p := ⟨wr.heap.size, 2, none⟩) hgm (.int .u32 o.s)
          have q0 := oX3.blk.2.1 0 _ rfl
          have q1 := oX3.blk.2.1 1 _ rfl
          have q2 := oX3.blk.2.1 2 _ rfl
          have CP := Lib.hid (refpassed_any o ⟨(a : Int), xi, xs⟩)
          go_wp2_with fail
          refine (CP.out _).mono ?_
          rintro e w7 ⟨rfl, hb⟩
          have b6 := Gw.call bz hb
          clear hb q0 q1 q2 y0 y1 y2 yf
          cases hp : passedB o ⟨(a : Int), xi, xs⟩
          · have HS := Lib.hid (STOP.out (by rw [HL.out, hp]; rfl))
            go_wp2_with fail
            go_ret
            exact ⟨by rw [HS.out]; rfl, Gw.call b0 b6⟩
          · have HS := Lib.hid (STEP.out (by rw [HL.out, hp]; rfl))
            clear STEP STOP hp
            go_wp2_with fail
            go_roundw
            case rel => exact ⟨k + 1, hkl, by go_num, HS, b6⟩
            case measure => simp [intOf]; omega
      · obtain rfl : k = mn := by omega
        have hs : Hid (stableB t members (self : Int) rows ⟨(a : Int), xi, xs⟩ = true) := Lib.hid (stable_yes HR.out (fun j mb h => HP.out j mb (by have := (List.getElem?_eq_some_iff.1 h).1; have := HML.out; omega) h))
        go_wp2_with fail
        go_ret
        exact ⟨by rw [hs.out]; rfl, Gw.call b0 bl⟩
  · have t1 : decide ((rn : Int) ≤ (a : Int)) = true := by simp; omega
    have t1n : decide (rn ≤ a) = true := by simp; omega
    rw [stable_no (by rw [HRL.out]; show rn ≤ (a : Int).toNat; omega)]
    go_enter Try.func23, Try.ntmps23
    go_wp2_with fail
    go_ret
    exact ⟨rfl, b0⟩
end Go.Proofs.Ytcclnfpegepcnaa
