/-
  The small functions of the chapter's examples (19).
-/
import Derived.Test.YtcclnfpegepcnaaStable
namespace Go.Proofs.Ytcclnfpegepcnaa
open Go.RowKit
theorem id19_any (inc seq : Int) (w : World) : Calls Try.prog 25 #[.int .u16 inc, .int .u32 seq] w fun e w' => e = .returned (idv ⟨2, inc, seq⟩) ∧ Below w.heap.size w w' := by
  have M := Ob.new w #[.int .u8 2, .int .u16 inc, .int .u32 seq] 28
  have m0 := M.blk.2.1 0 _ rfl
  have m1 := M.blk.2.1 1 _ rfl
  have m2 := M.blk.2.1 2 _ rfl
  have b0 := Gw.al (Below.refl w.heap.size w) (.cells #[.int .u8 2, .int .u16 inc, .int .u32 seq] 28)
  go_enter Try.func25, Try.ntmps25
  go_wp2_with fail
  refine bodyPost_ret (v := idv ⟨2, inc, seq⟩) (by simp [results, Try.results25, go_sem, m0, m1, m2]) rfl ⟨rfl, b0⟩
theorem mark19_any (inc seq : Int) (w : World) : Calls Try.prog 26 #[.int .u16 inc, .int .u32 seq] w fun e w' => ∃ A, e = .returned (.slice A 1 1) ∧ Rd idc 3 w'.heap.size w' A [⟨2, inc, seq⟩] ∧ Below w.heap.size w w' := by
  have L : Rd idc 3 (w.alloc (.cells #[.int .u8 2, .int .u16 inc, .int .u32 seq] 40)).heap.size (w.alloc (.cells #[.int .u8 2, .int .u16 inc, .int .u32 seq] 40)) (some ⟨w.heap.size, 0, none⟩) [⟨2, inc, seq⟩] := by rw [World.size_alloc]; exact Rd.lit idc_len w _ rfl _ _ _ rfl
  have b0 := Gw.al (Below.refl w.heap.size w) (.cells #[.int .u8 2, .int .u16 inc, .int .u32 seq] 40)
  go_enter Try.func26, Try.ntmps26
  go_wp2_with fail
  go_ret
  exact ⟨_, rfl, L, b0⟩
theorem Ob.rd {α : Type} {enc : α → List Value} {sz g : Nat} {W : World} {cs : Array Value} {T : TypeId} {l : List α} (hs : ∀ x, (enc x).length = sz) (h : Ob W g cs T) (hc : cs.toList = l.flatMap enc) : Rd enc sz W.heap.size W (some ⟨g, 0, none⟩) l := fun _ => by
  refine ⟨g, 0, rfl, h.lt, fun k x hx j c hj => ?_⟩
  have hj' : j < sz := by rw [← hs x]; exact (List.getElem?_eq_some_iff.1 hj).1
  have := flat_at hs l k x hx j hj'
  rw [← hc, hj] at this
  rw [show 0 + k * sz + j = k * sz + j by omega]
  exact h.blk.2.1 _ _ this
theorem Rd.farBlock {α : Type} {enc : α → List Value} {sz B g : Nat} {W : World} {A : Option Addr} {l : List α} (h : Rd enc sz B W A l) (hA : ∀ b o, A = some ⟨b, o, none⟩ → b ≠ g) (j : Nat) (u : Value) : Rd enc sz B (W.setCell ⟨g, j, none⟩ u) A l := fun hl => by
  obtain ⟨b, o, hA', hb, hc⟩ := h hl
  exact ⟨b, o, hA', hb, fun k x hx i c hi => (World.cell?_setCell_far W ⟨g, j, none⟩ ⟨b, _, none⟩ u (Ne.symm (hA b o hA'))).trans (hc k x hx i c hi)⟩
def rowsA : List Rw := [⟨0, 0, 0⟩, ⟨0, 0, 0⟩, ⟨1, 5, 0⟩]
theorem stab3 (t : List (List Id)) (a b c : Mb) (seq : Int) : stableB t [a, b, c] 0 rowsA ⟨2, 1, seq⟩ = (!lagB 0 a 0 ⟨1, 5, 0⟩ t ⟨2, 1, seq⟩ && !lagB 1 b 0 ⟨1, 5, 0⟩ t ⟨2, 1, seq⟩ && !lagB 2 c 0 ⟨1, 5, 0⟩ t ⟨2, 1, seq⟩) := by
  have hr : rowsA[(⟨2, 1, seq⟩ : Id).n.toNat]? = some ⟨1, 5, 0⟩ := rfl
  cases h0 : lagB 0 a 0 ⟨1, 5, 0⟩ t ⟨2, 1, seq⟩
  · cases h1 : lagB 1 b 0 ⟨1, 5, 0⟩ t ⟨2, 1, seq⟩
    · cases h2 : lagB 2 c 0 ⟨1, 5, 0⟩ t ⟨2, 1, seq⟩
      · rw [stable_yes hr]; · rfl
        intro j mb hm
        match j, hm with
        | 0, hm => obtain rfl : a = mb := by simpa using hm
                   exact h0
        | 1, hm => obtain rfl : b = mb := by simpa using hm
                   exact h1
        | 2, hm => obtain rfl : c = mb := by simpa using hm
                   exact h2
        | j + 3, hm => simp at hm
      · rw [stable_lag hr (k := 2) (mb := c) rfl h2]; rfl
    · rw [stable_lag hr (k := 1) (mb := b) rfl h1]; rfl
  · rw [stable_lag hr (k := 0) (mb := a) rfl h0]; rfl
set_option maxHeartbeats 4000000 in
theorem is19_any (t : List (List Id)) (ms : List Mb) (A M R : Option Addr) (ca cm cr n gm gr : Nat) (seq : Int) (w : World) (hln : t.length = n) (hml : ms.length = 3) (rt : Rep w.heap.size w A t) (rm : Rd memc 3 w.heap.size w M ms) (rr : Rd rowc 3 w.heap.size w R rowsA) (hs : 0 ≤ seq ∧ seq ≤ 4294967295)
    (c1 : w.cell? ⟨gm, 0, none⟩ = some (.slice M 3 cm)) (c2 : w.cell? ⟨gr, 0, none⟩ = some (.slice R 3 cr)) :
    Calls Try.prog 24 #[.slice A n ca, .int .u32 seq, .pointer (some ⟨gm, 0, none⟩), .pointer (some ⟨gr, 0, none⟩)] w fun e w' => e = .returned (.bool (stableB t ms 0 rowsA ⟨2, 1, seq⟩)) ∧ Below w.heap.size w w' := by
  have CS := Lib.hid (fun W h1 h2 h3 => stable_any t ms 0 rowsA ⟨2, 1, seq⟩ A M R ca cm cr n 3 3 W hln hml rfl h1 h2 h3 (by omega) ⟨by simp, by simp, by simpa using hs⟩ (by omega) (by omega))
  have bq := Below.refl w.heap.size w
  clear hln hml
  go_enter Try.func24, Try.ntmps24
  go_upto_region 1 with fail
  go_region_held3 (fun W => W.cell? ⟨gm, 0, none⟩ = some (.slice M 3 cm) ∧ W.cell? ⟨gr, 0, none⟩ = some (.slice R 3 cr) ∧ Below w.heap.size w W) (first | exact ⟨c1, c2, Below.drew bq⟩ | exact ⟨(bq.cell (p := ⟨gm, 0, none⟩) (World.block_lt_of_cell? w _ c1)).trans c1, (bq.cell (p := ⟨gr, 0, none⟩) (World.block_lt_of_cell? w _ c2)).trans c2, bq⟩) (first
    | ((with_reducible show Calls _ _ _ _ _); go_at_call 25; (with_reducible refine (id19_any 1 seq _).mono ?_); rintro e w1 ⟨rfl, hb⟩; replace bq := Gw.call (Below.drew bq) hb; clear hb; dsimp only)
    | ((with_reducible show Calls _ _ _ _ _); go_at_call 12; (with_reducible refine (CS.out _ (rt.up bq) (rm.up bq) (rr.up bq)).mono ?_); rintro e w1 ⟨rfl, hb⟩; replace bq := Gw.call bq hb; clear hb; dsimp only)
    | fail)
  go_wp2_with fail
  go_ret
  exact ⟨rfl, bq⟩
end Go.Proofs.Ytcclnfpegepcnaa
