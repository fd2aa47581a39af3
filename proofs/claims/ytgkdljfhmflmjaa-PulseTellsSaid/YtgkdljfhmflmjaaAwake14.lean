/-
  The chapter's examples (14).
-/
import Derived.Test.YtgkdljfhmflmjaaRef14
import Derived.Test.YtgkdljfhmflmjaaBytes
namespace Go.Proofs.Ytgkdljfhmflmjaa
open Go.RowKit
theorem one_str : strOfNums [1] = ⟨#[1]⟩ := by rfl
theorem is_b (l : List Mb) (A : Option Addr) (c k : Nat) (x : Mb) (w : World) (hr : Rd memc 3 w.heap.size w A l) (hl : l.length = 3) (hx : l[k]? = some x) :
    Calls Try.prog 31 #[.slice A 3 c, .int .i64 k, .int .u16 x.i, .int .u8 x.s] w fun e w' => e = .returned (.bool true) ∧ Below w.heap.size w w' :=
  (is_any l A c k x w hr hl hx).mono fun e w' ⟨h1, h2⟩ => ⟨h1, h2 ▸ Below.refl _ _⟩
set_option maxRecDepth 100000 in
set_option maxHeartbeats 4000000 in
theorem awake_any (w : World) : Calls Try.prog 13 #[] w fun e w' => e = .returned (.bool true) ∧ Below w.heap.size w w' := by
  go_enter Try.func13, Try.ntmps13
  go_wp2_with fail
  have bb := (Below.refl w.heap.size w)
  refine (new_any 3 _ (by omega) (by omega)).mono ?_
  rintro e w1 ⟨A0, c0, rfl, o0, hb⟩
  have b1 := Gw.call bb hb
  have O0 := o0
  clear hb bb
  have hl : List.replicate 3 zeroM = [⟨0, 0, 0⟩, ⟨0, 0, 0⟩, ⟨0, 0, 0⟩] := by decide
  rw [hl] at O0
  clear hl o0
  go_wp2_with fail
  have bb := b1
  refine (heard_any [⟨0, 0, 0⟩, ⟨0, 0, 0⟩, ⟨0, 0, 0⟩] A0 c0 1 4 _ (O0.rd memc_len) (by simp) (by omega) (by omega)).mono ?_
  rintro e w2 ⟨A1, c1, rfl, o, hb⟩
  have b2 := Gw.call bb hb
  clear O0
  have O1 := o
  clear hb bb b1
  have hl : modL [⟨0, 0, 0⟩, ⟨0, 0, 0⟩, ⟨0, 0, 0⟩] (1 : Int).toNat (heardM 4) = [⟨0, 0, 0⟩, ⟨4, 1, 0⟩, ⟨0, 0, 0⟩] := by decide
  rw [hl] at O1
  clear hl o
  go_wp2_with fail
  have bb := b2
  refine (tick_any [⟨0, 0, 0⟩, ⟨4, 1, 0⟩, ⟨0, 0, 0⟩] A1 c1 0 2 _ (O1.rd memc_len) (by simp) (by omega) (by decide)).mono ?_
  rintro e w3 ⟨A2, c2, B2, d2, rfl, o, q, hb⟩
  have b3 := Gw.call bb hb
  replace O1 := Own.below O1 hb
  have O2 := o
  have G2 := q
  clear hb bb b2
  have hl : tickL [⟨0, 0, 0⟩, ⟨4, 1, 0⟩, ⟨0, 0, 0⟩] 0 2 = [⟨0, 0, 0⟩, ⟨4, 1, 1⟩, ⟨0, 0, 0⟩] := by decide
  have hg : goneL [⟨0, 0, 0⟩, ⟨4, 1, 0⟩, ⟨0, 0, 0⟩] 0 2 = ([] : List Int) := by decide
  rw [hl] at O2
  rw [hg] at G2 ⊢
  clear hl hg o q
  go_wp2_with fail
  have bb := b3
  refine (tick_any [⟨0, 0, 0⟩, ⟨4, 1, 1⟩, ⟨0, 0, 0⟩] A2 c2 0 2 _ (O2.rd memc_len) (by simp) (by omega) (by decide)).mono ?_
  rintro e w4 ⟨A3, c3, B3, d3, rfl, o, q, hb⟩
  have b4 := Gw.call bb hb
  replace O1 := Own.below O1 hb
  clear O2
  clear G2
  have O3 := o
  have G3 := q
  clear hb bb b3
  have hl : tickL [⟨0, 0, 0⟩, ⟨4, 1, 1⟩, ⟨0, 0, 0⟩] 0 2 = [⟨0, 0, 0⟩, ⟨4, 2, 2⟩, ⟨0, 0, 0⟩] := by decide
  have hg : goneL [⟨0, 0, 0⟩, ⟨4, 1, 1⟩, ⟨0, 0, 0⟩] 0 2 = [1] := by decide
  rw [hl] at O3
  rw [hg] at G3 ⊢
  clear hl hg o q
  go_wp2_with fail
  have bb := b4
  refine (heard_any [⟨0, 0, 0⟩, ⟨4, 2, 2⟩, ⟨0, 0, 0⟩] A3 c3 1 4 _ (O3.rd memc_len) (by simp) (by omega) (by omega)).mono ?_
  rintro e w5 ⟨A4, c4, rfl, o, hb⟩
  have b5 := Gw.call bb hb
  replace O1 := Own.below O1 hb
  replace O3 := Own.below O3 hb
  replace G3 := Own.below G3 hb
  have O4 := o
  clear hb bb b4
  have hl : modL [⟨0, 0, 0⟩, ⟨4, 2, 2⟩, ⟨0, 0, 0⟩] (1 : Int).toNat (heardM 4) = [⟨0, 0, 0⟩, ⟨4, 1, 0⟩, ⟨0, 0, 0⟩] := by decide
  rw [hl] at O4
  clear hl o
  go_wp2_with fail
  have bb := b5
  refine (heard_any [⟨0, 0, 0⟩, ⟨4, 1, 0⟩, ⟨0, 0, 0⟩] A4 c4 1 3 _ (O4.rd memc_len) (by simp) (by omega) (by omega)).mono ?_
  rintro e w6 ⟨A5, c5, rfl, o, hb⟩
  have b6 := Gw.call bb hb
  replace O1 := Own.below O1 hb
  replace O3 := Own.below O3 hb
  replace G3 := Own.below G3 hb
  replace O4 := Own.below O4 hb
  have O5 := o
  clear hb bb b5
  have hl : modL [⟨0, 0, 0⟩, ⟨4, 1, 0⟩, ⟨0, 0, 0⟩] (1 : Int).toNat (heardM 3) = [⟨0, 0, 0⟩, ⟨4, 1, 0⟩, ⟨0, 0, 0⟩] := by decide
  rw [hl] at O5
  clear hl o
  go_wp2_with fail
  have bb := b6
  refine (left_any [⟨0, 0, 0⟩, ⟨4, 1, 0⟩, ⟨0, 0, 0⟩] A5 c5 1 4 _ (O5.rd memc_len) (by simp) (by omega) (by omega)).mono ?_
  rintro e w7 ⟨A6, c6, rfl, o, hb⟩
  have b7 := Gw.call bb hb
  replace O1 := Own.below O1 hb
  replace O3 := Own.below O3 hb
  replace G3 := Own.below G3 hb
  replace O4 := Own.below O4 hb
  clear O5
  have O6 := o
  clear hb bb b6
  have hl : modL [⟨0, 0, 0⟩, ⟨4, 1, 0⟩, ⟨0, 0, 0⟩] (1 : Int).toNat (leftM 4) = [⟨0, 0, 0⟩, ⟨4, 3, 0⟩, ⟨0, 0, 0⟩] := by decide
  rw [hl] at O6
  clear hl o
  go_wp2_with fail
  have bb := b7
  refine (is_b [⟨0, 0, 0⟩, ⟨4, 1, 0⟩, ⟨0, 0, 0⟩] A1 c1 1 ⟨4, 1, 0⟩ _ (O1.rd memc_len) rfl rfl).mono ?_
  rintro e w8 ⟨rfl, hb⟩
  have b8 := Gw.call bb hb
  replace O1 := Own.below O1 hb
  replace O3 := Own.below O3 hb
  replace G3 := Own.below G3 hb
  replace O4 := Own.below O4 hb
  replace O6 := Own.below O6 hb
  clear hb bb b7
  have cv := conv_rd Try.underlying28 Try.underlying5 Try.underlying9 (G3.rd (int_len .u8)) 1 d3 rfl
  rw [one_str] at cv
  go_wp2_with fail
  have bb := b8
  refine (is_b [⟨0, 0, 0⟩, ⟨4, 2, 2⟩, ⟨0, 0, 0⟩] A3 c3 1 ⟨4, 2, 2⟩ _ (O3.rd memc_len) rfl rfl).mono ?_
  rintro e w9 ⟨rfl, hb⟩
  have b9 := Gw.call bb hb
  replace O1 := Own.below O1 hb
  clear O3
  clear G3
  replace O4 := Own.below O4 hb
  replace O6 := Own.below O6 hb
  clear hb bb b8
  clear cv
  go_wp2_with fail
  have bb := b9
  refine (is_b [⟨0, 0, 0⟩, ⟨4, 1, 0⟩, ⟨0, 0, 0⟩] A4 c4 1 ⟨4, 1, 0⟩ _ (O4.rd memc_len) rfl rfl).mono ?_
  rintro e w10 ⟨rfl, hb⟩
  have b10 := Gw.call bb hb
  replace O1 := Own.below O1 hb
  clear O4
  replace O6 := Own.below O6 hb
  clear hb bb b9
  go_wp2_with fail
  have bb := b10
  refine (is_b [⟨0, 0, 0⟩, ⟨4, 3, 0⟩, ⟨0, 0, 0⟩] A6 c6 1 ⟨4, 3, 0⟩ _ (O6.rd memc_len) rfl rfl).mono ?_
  rintro e w11 ⟨rfl, hb⟩
  have b11 := Gw.call bb hb
  replace O1 := Own.below O1 hb
  replace O6 := Own.below O6 hb
  clear hb bb b10
  go_wp2_with fail
  have bb := b11
  refine (heard_any [⟨0, 0, 0⟩, ⟨4, 3, 0⟩, ⟨0, 0, 0⟩] A6 c6 1 4 _ (O6.rd memc_len) (by simp) (by omega) (by omega)).mono ?_
  rintro e w12 ⟨A7, c7, rfl, o, hb⟩
  have b12 := Gw.call bb hb
  replace O1 := Own.below O1 hb
  replace O6 := Own.below O6 hb
  have O7 := o
  clear hb bb b11
  have hl : modL [⟨0, 0, 0⟩, ⟨4, 3, 0⟩, ⟨0, 0, 0⟩] (1 : Int).toNat (heardM 4) = [⟨0, 0, 0⟩, ⟨4, 3, 0⟩, ⟨0, 0, 0⟩] := by decide
  rw [hl] at O7
  clear hl o
  go_wp2_with fail
  have bb := b12
  refine (is_b [⟨0, 0, 0⟩, ⟨4, 3, 0⟩, ⟨0, 0, 0⟩] A7 c7 1 ⟨4, 3, 0⟩ _ (O7.rd memc_len) rfl rfl).mono ?_
  rintro e w13 ⟨rfl, hb⟩
  have b13 := Gw.call bb hb
  replace O1 := Own.below O1 hb
  replace O6 := Own.below O6 hb
  clear O7
  clear hb bb b12
  go_wp2_with fail
  have bb := b13
  refine (heard_any [⟨0, 0, 0⟩, ⟨4, 3, 0⟩, ⟨0, 0, 0⟩] A6 c6 1 5 _ (O6.rd memc_len) (by simp) (by omega) (by omega)).mono ?_
  rintro e w14 ⟨A8, c8, rfl, o, hb⟩
  have b14 := Gw.call bb hb
  replace O1 := Own.below O1 hb
  replace O6 := Own.below O6 hb
  have O8 := o
  clear hb bb b13
  have hl : modL [⟨0, 0, 0⟩, ⟨4, 3, 0⟩, ⟨0, 0, 0⟩] (1 : Int).toNat (heardM 5) = [⟨0, 0, 0⟩, ⟨5, 1, 0⟩, ⟨0, 0, 0⟩] := by decide
  rw [hl] at O8
  clear hl o
  go_wp2_with fail
  have bb := b14
  refine (is_b [⟨0, 0, 0⟩, ⟨5, 1, 0⟩, ⟨0, 0, 0⟩] A8 c8 1 ⟨5, 1, 0⟩ _ (O8.rd memc_len) rfl rfl).mono ?_
  rintro e w15 ⟨rfl, hb⟩
  have b15 := Gw.call bb hb
  replace O1 := Own.below O1 hb
  clear O6
  clear O8
  clear hb bb b14
  go_wp2_with fail
  have bb := b15
  refine (up_any [⟨0, 0, 0⟩, ⟨4, 1, 0⟩, ⟨0, 0, 0⟩] A1 c1 _ (O1.rd memc_len) (by simp)).mono ?_
  rintro e w16 ⟨A9, c9, rfl, o, hb⟩
  have b16 := Gw.call bb hb
  clear O1
  have O9 := o
  clear hb bb b15
  have hl : upL [⟨0, 0, 0⟩, ⟨4, 1, 0⟩, ⟨0, 0, 0⟩] = [1] := by decide
  rw [hl] at O9 ⊢
  clear hl o
  have cv := conv_rd Try.underlying28 Try.underlying5 Try.underlying9 (O9.rd (int_len .u8)) 1 c9 rfl
  rw [one_str] at cv
  go_wp2_with fail
  go_ret
  exact ⟨rfl, b16⟩
end Go.Proofs.Ytgkdljfhmflmjaa
