/-
  digest.Marks.
-/
import Derived.Test.YthockpallaoelaaKnown1
import Derived.Test.YthockpallaoelaaMarkOf
import Derived.Test.YthockpallaoelaaSeqs2
import Derived.Test.YthockpallaoelaaAppVeil
import Derived.RegionTactic
import Derived.RegionIn
import Derived.Stop.RegionWithIn
import Derived.Shelf.Abstract
namespace Go.Proofs.Ythockpallaoelaa
open Go.RowKit Go.Shelf
attribute [local go_sem] Oper.semAt_some
theorem Try.infoMark : (Try.prog.info? 43).map (fun i => (i.zero, i.size, i.bytes)) = some (some (.agg #[.int .u8 0, .int .u16 0, .int .u32 0]), 3, 8) := by kernel_rfl
theorem rd_row {rows : List Rw} {W : World} {A : Option Addr} (h : Rd rowc 3 W.heap.size W A rows) (h0 : 0 < W.heap.size) :
    ∃ g o, g < W.heap.size ∧ (0 < rows.length → A = some ⟨g, o, none⟩) ∧ ∀ (k : Nat) (x : Rw), rows[k]? = some x → ∀ (j : Nat) (c : Value), (rowc x)[j]? = some c → W.cell? ⟨g, o + k * 3 + j, none⟩ = some c := by
  rcases Nat.eq_zero_or_pos rows.length with hl | hl
  · exact ⟨0, 0, h0, fun hp => by omega, fun j x hx => by rw [List.length_eq_zero_iff.1 hl] at hx; simp at hx⟩
  · obtain ⟨b, o, hA, hb, hc⟩ := h hl
    exact ⟨b, o, hb, fun _ => hA, hc⟩
set_option maxHeartbeats 1000000 in
theorem known_any (A : Option Addr) (n c : Nat) (w : World) : Calls Try.prog 32 #[.slice A n c] w fun e w' => e = .returned (.func (.func 41) #[] #[.pointer (some ⟨w.heap.size, 0, none⟩)]) ∧ w' = w.alloc (.cells #[.slice A n c] 22) := by
  have hmf : ∀ (fn : Fn) (first cap : Array Value) (w : World), (Instr.makeFunc fn first cap).run Try.prog w = .ok (.func fn first cap) w := fun _ _ _ _ => rfl
  go_enter Try.func32, Try.ntmps32
  go_wp2
  go_ret
  exact ⟨rfl, rfl⟩
/-- the first k marks -/
def mk (rows : List Rw) (k : Nat) : List Id := (marksL rows).take k
def qk (rows : List Rw) (k : Nat) : Nat × Rw := (kn rows)[k]?.getD (0, ⟨0, 0, 0⟩)
theorem mk_len {rows : List Rw} {k : Nat} (h : k ≤ (kn rows).length) : (mk rows k).length = k := by unfold mk marksL; rw [List.length_take, List.length_map]; omega
theorem mk_snoc {rows : List Rw} {k : Nat} (h : k < (kn rows).length) : mk rows (k + 1) = mk rows k ++ [⟨(qk rows k).1, (qk rows k).2.i, (qk rows k).2.p⟩] := by
  unfold mk marksL qk
  rw [List.take_add_one, List.getElem?_map, List.getElem?_eq_getElem h]
  rfl
theorem mk_all (rows : List Rw) : mk rows (kn rows).length = marksL rows := by unfold mk; rw [List.take_of_length_le]; unfold marksL; rw [List.length_map]; exact Nat.le_refl _
theorem strmK_qk (rows : List Rw) (k : Nat) : strmK rows k = #[.int .u8 ((qk rows k).1 : Nat), .agg #[.int .u16 (qk rows k).2.i, .int .u32 (qk rows k).2.p, .int .u64 (qk rows k).2.b]] := rfl
set_option maxRecDepth 100000 in
set_option maxHeartbeats 4000000 in
theorem dmarks_any (rows : List Rw) (A : Option Addr) (cap : Nat) (w : World) (hr : Rd rowc 3 w.heap.size w A rows) (hlen : rows.length ≤ 256) :
    Calls Try.prog 19 #[.slice A rows.length cap] w fun e w' => ∃ A' c', e = .returned (.slice A' (marksL rows).length c') ∧ Own idc 3 43 w.heap.size w' (.slice A' (marksL rows).length c') (marksL rows) ∧ Below w.heap.size w w' := by
  obtain ⟨i0, hi0, hz0, hz1, hz2⟩ := info_parts Try.infoMark
  refine (callsIn_wide (n := 5)).1 ?_
  refine callsIn_of_wp_marks Try.func19 rfl trivial ?_ rfl
  simp only [Try.ntmps19, List.size_toArray, List.length_cons, List.length_nil, Nat.reduceAdd, Nat.reduceSub, Array.replicate_succ, Array.replicate_zero, List.push_toArray, List.append_toArray, List.nil_append, List.cons_append]
  gi_wp2_with fail
  refine ⟨trivial, (callsIn_wide.2 (known_any _ _ _ _)).mono ?_⟩
  rintro e w9 ⟨rfl, rfl⟩
  gi_wp2_with fail
  have xm := (Ob.new w #[.slice none 0 0] 45).alloc (.cells #[.slice A rows.length cap] 22)
  have xr := Ob.new (w.alloc (.cells #[.slice none 0 0] 45)) #[.slice A rows.length cap] 22
  rw [World.size_alloc] at xr
  have b0 := Gw.al (Gw.al (Below.refl w.heap.size w) (.cells #[.slice none 0 0] 45)) (.cells #[.slice A rows.length cap] 22)
  have hr2 := hr.up b0
  have sz : ((w.alloc (.cells #[.slice none 0 0] 45)).alloc (.cells #[.slice A rows.length cap] 22)).heap.size = w.heap.size + 1 + 1 := by rw [World.size_alloc, World.size_alloc]
  generalize (w.alloc (.cells #[.slice none 0 0] 45)).alloc (.cells #[.slice A rows.length cap] 22) = W2 at *
  have hgA : ∃ g o, g < w.heap.size + 1 + 1 ∧ g ≠ w.heap.size ∧ (0 < rows.length → A = some ⟨g, o, none⟩) ∧ ∀ (k : Nat) (x : Rw), rows[k]? = some x → ∀ (j : Nat) (c : Value), (rowc x)[j]? = some c → W2.cell? ⟨g, o + k * 3 + j, none⟩ = some c := by
    rcases Nat.eq_zero_or_pos rows.length with h0 | h0
    · exact ⟨w.heap.size + 1, 0, by omega, by omega, fun hp => by omega, fun j x hx => by rw [List.length_eq_zero_iff.1 h0] at hx; simp at hx⟩
    · obtain ⟨b, o', hA, hb, hc⟩ := hr h0
      exact ⟨b, o', by omega, by omega, fun _ => hA, fun k x hx j c hj => (b0.cell (p := ⟨b, o' + k * 3 + j, none⟩) hb).trans (hc k x hx j c hj)⟩
  obtain ⟨g, o, hg, hg1, hA, hlc⟩ := hgA
  have SZ := Lib.hid sz
  have hg' : g < W2.heap.size := by omega
  have hbt : w.heap.size + 1 < W2.heap.size := by omega
  clear sz hr hr2
  refine wp_seqs2 (n := 5) rfl (by omega) (gf := 41) (lb := #[.pointer (some ⟨w.heap.size + 1, 0, none⟩)]) rfl trivial (enters_of Try.func41 (by kernel_rfl) rfl)
    (known1_seqs 4 (by omega) rows A cap (w.heap.size + 1) g o W2 hlen hbt hg' (xr.blk.2.1 0 _ rfl) hA hlc) (fun h k => h.trans k) (fun W r o o' hr _ _ _ => Keep2.put hbt hg' W r o' hr) (Below.refl _ _) (fun _ => rfl)
    (fun k W => k ≤ (kn rows).length ∧ Ob W (w.heap.size + 1) #[.slice A rows.length cap] 22 ∧ (∃ D d, Ob W w.heap.size #[.slice D k d] 45 ∧ Own idc 3 43 (w.heap.size + 1 + 1) W (.slice D k d) (mk rows k)) ∧ Below w.heap.size w W ∧ W2.heap.size ≤ W.heap.size)
    (fun c k W => False)
    (fun s A B row hs hg hr => by
      obtain ⟨h1, h2, ⟨D, d, h6, h7⟩, h9, h10⟩ := hs
      have hr' := fun r e => (hr r e).2
      exact ⟨h1, h2.turn hg hr', ⟨D, d, h6.turn hg hr', h7.turn hg hr'⟩, h9.grown hg h9.size (fun k e => by have := (hr k e).1; omega), Nat.le_trans h10 hg.size⟩)
    (fun c s A B row hs hg hr => hs)
    ⟨Nat.zero_le _, xr, ⟨_, _, xm, Own.nil_⟩, b0, Nat.le_refl _⟩ (fun h => by cases h)
    (fun a k W => ∃ p : Nat, a = { tmps := #[.slice A rows.length cap, undef, .slice none 0 0, .pointer (some ⟨w.heap.size, 0, none⟩), .int .u8 ((qk rows k).1 : Nat), .pointer (some ⟨p, 0, none⟩), .slice A rows.length cap, .func (.func 41) #[] #[.pointer (some ⟨w.heap.size + 1, 0, none⟩)], .int .u8 ((qk rows k).1 : Nat), .agg #[.int .u16 (qk rows k).2.i, .int .u32 (qk rows k).2.p, .int .u64 (qk rows k).2.b], undef, undef, undef, undef, undef, undef, undef], defers := [] } ∧
      Ob W p #[.int .u16 (qk rows k).2.i, .int .u32 (qk rows k).2.p, .int .u64 (qk rows k).2.b] 34 ∧ Ob W (w.heap.size + 1) #[.slice A rows.length cap] 22 ∧ (∃ D d, Ob W w.heap.size #[.slice D k d] 45 ∧ Own idc 3 43 (w.heap.size + 1 + 1) W (.slice D k d) (mk rows k)) ∧ Below w.heap.size w W ∧ W2.heap.size ≤ p ∧ W2.heap.size ≤ W.heap.size)
    (fun a s A B row hs hg hr => by
      obtain ⟨p, h0, h1, h2, ⟨D, d, h6, h7⟩, h9, h10, h11⟩ := hs
      have hr' := fun r e => (hr r e).2
      exact ⟨p, h0, h1.turn hg hr', h2.turn hg hr', ⟨D, d, h6.turn hg hr', h7.turn hg hr'⟩, h9.grown hg h9.size (fun k e => by have := (hr k e).1; omega), h10, Nat.le_trans h11 hg.size⟩) ?assign ?body ?done ?stop
  case assign =>
    rintro r k W K ⟨h1, h2, ⟨D, d, h6, h7⟩, h9, h10⟩ hk hK
    rw [strmK_qk]
    gi_wp2
    exact hK _ _ ⟨W.heap.size, rfl, Ob.new _ _ _, h2.alloc _, ⟨D, d, h6.alloc _, h7.alloc _⟩, Gw.al h9 _, h10, (by rw [World.size_alloc]; omega)⟩ ((KeepsOthers.alloc W _).from _) (Keep2.al h2.lt (Nat.lt_of_lt_of_le hg' h10) _)
  case body =>
    rintro r k a W ⟨p, rfl, X, XR, ⟨D, d, XM, OD⟩, Bl, hp, hsz⟩ hk
    have ML := mk_len (rows := rows) (k := k) (by omega)
    have MS := Lib.hid (mk_snoc hk)
    have KL := kn_len rows
    generalize qk rows k = qq at *
    obtain ⟨nd, rr⟩ := qq
    dsimp only at X MS ⊢
    have HF : Hid (∀ w1 w5 D' d', Below W.drew.heap.size W.drew w1 → Own idc 3 43 (w.heap.size + 1 + 1) w5 (.slice D' (k + 1) d') (mk rows k ++ [⟨(nd : Nat), rr.i, rr.p⟩]) → (w1.alloc (.cells #[.int .u8 (nd : Nat), .int .u16 rr.i, .int .u32 rr.p] 43)).grownBy w5 (Value.slice D k d).ownBlock →
        KeepsFrom W2.heap.size W (w5.setCell ⟨w.heap.size, 0, none⟩ (.slice D' (k + 1) d')) ∧ Keep2 (w.heap.size + 1) g W (w5.setCell ⟨w.heap.size, 0, none⟩ (.slice D' (k + 1) d')) ∧ k + 1 ≤ (kn rows).length ∧ Ob (w5.setCell ⟨w.heap.size, 0, none⟩ (.slice D' (k + 1) d')) (w.heap.size + 1) #[.slice A rows.length cap] 22 ∧ (∃ D' d', Ob ((w5.setCell ⟨w.heap.size, 0, none⟩ (.slice D' (k + 1) d'))) w.heap.size #[.slice D' (k + 1) d'] 45 ∧ Own idc 3 43 (w.heap.size + 1 + 1) (w5.setCell ⟨w.heap.size, 0, none⟩ (.slice D' (k + 1) d')) (.slice D' (k + 1) d') (mk rows (k + 1))) ∧ Below w.heap.size w (w5.setCell ⟨w.heap.size, 0, none⟩ (.slice D' (k + 1) d')) ∧ W2.heap.size ≤ (w5.setCell ⟨w.heap.size, 0, none⟩ (.slice D' (k + 1) d')).heap.size) := Lib.hid (by
      intro w1 w5 D' d' hb od hg5
      have XM1 := (Ob.drew XM).call hb
      have OD1 := Own.below (Own.drew OD) hb
      have XR1 := (Ob.drew XR).call hb
      have XM5 := (XM1.alloc (.cells #[.int .u8 (nd : Nat), .int .u16 rr.i, .int .u32 rr.p] 43)).app (OD1.alloc _) hg5 (by decide)
      have XR5 := (XR1.alloc (.cells #[.int .u8 (nd : Nat), .int .u16 rr.i, .int .u32 rr.p] 43)).app (OD1.alloc _) hg5 (by decide)
      have lod := Own.lt od
      have rowlo := Own.lt OD
      have BlF : Below w.heap.size w (w5.setCell ⟨w.heap.size, 0, none⟩ (.slice D' (k + 1) d')) := Gw.st (Gw.gr (Gw.al (Gw.call (Gw.drew Bl) hb) (.cells #[.int .u8 (nd : Nat), .int .u16 rr.i, .int .u32 rr.p] 43)) hg5 (fun j hj => by have := rowlo j hj; omega)) (p := ⟨w.heap.size, 0, none⟩) (Nat.le_refl _) _
      have XRF := XR5.far (p := w.heap.size) (j := 0) (by omega) (.slice D' (k + 1) d')
      have KO : KeepsOthers W w5 := (((KeepsOthers.drew W).trans (KeepsOthers.of_grownBy (row := none) ⟨hb.os, hb.tape, hb.output, hb.size, fun k hk _ => hb.block k hk⟩ (fun j o e => by cases e))).trans (KeepsOthers.alloc _ (.cells #[.int .u8 (nd : Nat), .int .u16 rr.i, .int .u32 rr.p] 43))).trans (KeepsOthers.of_grownBy hg5 (own_cells (OD1.alloc _)))
      refine ⟨(KO.trans (KeepsOthers.setCell _ _ _)).from _, ⟨Eq.trans XRF (Eq.symm XR), ?_⟩, hk, XRF, ⟨D', d', XM5.set 0 _, ?_⟩, BlF, ?_⟩
      · by_cases hgm : g = w.heap.size + 1
        · rw [hgm]; exact Eq.trans XRF (Eq.symm XR)
        · exact (BlF.block g (by omega)).trans (Bl.block g (by omega)).symm
      · rw [MS.out]
        exact Own.far (p := ⟨w.heap.size, 0, none⟩) od (fun j hj => by have := lod j hj; show j ≠ w.heap.size; omega) _
      · rw [Gw.setSize]; exact Nat.le_trans hsz KO.size)
    have HF : Hid (∀ w1 w5 D' d', Below W.drew.heap.size W.drew w1 → Own idc 3 43 (w.heap.size + 1 + 1) w5 (.slice D' (k + 1) d') (mk rows k ++ [⟨(nd : Nat), rr.i, rr.p⟩]) → (w1.alloc (.cells #[.int .u8 (nd : Nat), .int .u16 rr.i, .int .u32 rr.p] 43)).grownBy w5 (Value.slice D k d).ownBlock →
        KeepsFrom W2.heap.size W (w5.setCell ⟨w.heap.size, 0, none⟩ (.slice D' (k + 1) d')) ∧ Keep2 (w.heap.size + 1) g W (w5.setCell ⟨w.heap.size, 0, none⟩ (.slice D' (k + 1) d')) ∧ k + 1 ≤ (kn rows).length ∧ Ob (w5.setCell ⟨w.heap.size, 0, none⟩ (.slice D' (k + 1) d')) (w.heap.size + 1) #[.slice A rows.length cap] 22 ∧ (∃ D' d', Ob ((w5.setCell ⟨w.heap.size, 0, none⟩ (.slice D' (k + 1) d'))) w.heap.size #[.slice D' (k + 1) d'] 45 ∧ Own idc 3 43 (w.heap.size + 1 + 1) (w5.setCell ⟨w.heap.size, 0, none⟩ (.slice D' (k + 1) d')) (.slice D' (k + 1) d') (mk rows (k + 1))) ∧ Below w.heap.size w (w5.setCell ⟨w.heap.size, 0, none⟩ (.slice D' (k + 1) d')) ∧ W2.heap.size ≤ (w5.setCell ⟨w.heap.size, 0, none⟩ (.slice D' (k + 1) d')).heap.size) := Lib.hid (by
      intro w1 w5 D' d' hb od hg5
      have XM1 := (Ob.drew XM).call hb
      have OD1 := Own.below (Own.drew OD) hb
      have XR1 := (Ob.drew XR).call hb
      have XM5 := (XM1.alloc (.cells #[.int .u8 (nd : Nat), .int .u16 rr.i, .int .u32 rr.p] 43)).app (OD1.alloc _) hg5 (by decide)
      have XR5 := (XR1.alloc (.cells #[.int .u8 (nd : Nat), .int .u16 rr.i, .int .u32 rr.p] 43)).app (OD1.alloc _) hg5 (by decide)
      have lod := Own.lt od
      have rowlo := Own.lt OD
      have BlF : Below w.heap.size w (w5.setCell ⟨w.heap.size, 0, none⟩ (.slice D' (k + 1) d')) := Gw.st (Gw.gr (Gw.al (Gw.call (Gw.drew Bl) hb) (.cells #[.int .u8 (nd : Nat), .int .u16 rr.i, .int .u32 rr.p] 43)) hg5 (fun j hj => by have := rowlo j hj; omega)) (p := ⟨w.heap.size, 0, none⟩) (Nat.le_refl _) _
      have XRF := XR5.far (p := w.heap.size) (j := 0) (by omega) (.slice D' (k + 1) d')
      have KO : KeepsOthers W w5 := (((KeepsOthers.drew W).trans (KeepsOthers.of_grownBy (row := none) ⟨hb.os, hb.tape, hb.output, hb.size, fun k hk _ => hb.block k hk⟩ (fun j o e => by cases e))).trans (KeepsOthers.alloc _ (.cells #[.int .u8 (nd : Nat), .int .u16 rr.i, .int .u32 rr.p] 43))).trans (KeepsOthers.of_grownBy hg5 (own_cells (OD1.alloc _)))
      refine ⟨(KO.trans (KeepsOthers.setCell _ _ _)).from _, ⟨Eq.trans XRF (Eq.symm XR), ?_⟩, hk, XRF, ⟨D', d', XM5.set 0 _, ?_⟩, BlF, ?_⟩
      · by_cases hgm : g = w.heap.size + 1
        · rw [hgm]; exact Eq.trans XRF (Eq.symm XR)
        · exact (BlF.block g (by omega)).trans (Bl.block g (by omega)).symm
      · rw [MS.out]
        exact Own.far (p := ⟨w.heap.size, 0, none⟩) od (fun j hj => by have := lod j hj; show j ≠ w.heap.size; omega) _
      · rw [Gw.setSize]; exact Nat.le_trans hsz KO.size)
    have HF : Hid (∀ w1 w5 D' d', Below W.drew.heap.size W.drew w1 → Own idc 3 43 (w.heap.size + 1 + 1) w5 (.slice D' (k + 1) d') (mk rows k ++ [⟨(nd : Nat), rr.i, rr.p⟩]) → (w1.alloc (.cells #[.int .u8 (nd : Nat), .int .u16 rr.i, .int .u32 rr.p] 43)).grownBy w5 (Value.slice D k d).ownBlock →
        KeepsFrom W2.heap.size W (w5.setCell ⟨w.heap.size, 0, none⟩ (.slice D' (k + 1) d')) ∧ Keep2 (w.heap.size + 1) g W (w5.setCell ⟨w.heap.size, 0, none⟩ (.slice D' (k + 1) d')) ∧ k + 1 ≤ (kn rows).length ∧ Ob (w5.setCell ⟨w.heap.size, 0, none⟩ (.slice D' (k + 1) d')) (w.heap.size + 1) #[.slice A rows.length cap] 22 ∧ (∃ D2 d2, Ob ((w5.setCell ⟨w.heap.size, 0, none⟩ (.slice D' (k + 1) d'))) w.heap.size #[.slice D2 (k + 1) d2] 45 ∧ Own idc 3 43 (w.heap.size + 1 + 1) (w5.setCell ⟨w.heap.size, 0, none⟩ (.slice D' (k + 1) d')) (.slice D2 (k + 1) d2) (mk rows (k + 1))) ∧ Below w.heap.size w (w5.setCell ⟨w.heap.size, 0, none⟩ (.slice D' (k + 1) d')) ∧ W2.heap.size ≤ (w5.setCell ⟨w.heap.size, 0, none⟩ (.slice D' (k + 1) d')).heap.size) := Lib.hid (by
      intro w1 w5 D' d' hb od hg5
      have XM1 := (Ob.drew XM).call hb
      have OD1 := Own.below (Own.drew OD) hb
      have XR1 := (Ob.drew XR).call hb
      have XM5 := (XM1.alloc (.cells #[.int .u8 (nd : Nat), .int .u16 rr.i, .int .u32 rr.p] 43)).app (OD1.alloc _) hg5 (by decide)
      have XR5 := (XR1.alloc (.cells #[.int .u8 (nd : Nat), .int .u16 rr.i, .int .u32 rr.p] 43)).app (OD1.alloc _) hg5 (by decide)
      have lod := Own.lt od
      have rowlo := Own.lt OD
      have BlF : Below w.heap.size w (w5.setCell ⟨w.heap.size, 0, none⟩ (.slice D' (k + 1) d')) := Gw.st (Gw.gr (Gw.al (Gw.call (Gw.drew Bl) hb) (.cells #[.int .u8 (nd : Nat), .int .u16 rr.i, .int .u32 rr.p] 43)) hg5 (fun j hj => by have := rowlo j hj; omega)) (p := ⟨w.heap.size, 0, none⟩) (Nat.le_refl _) _
      have XRF := XR5.far (p := w.heap.size) (j := 0) (by omega) (.slice D' (k + 1) d')
      have KO : KeepsOthers W w5 := (((KeepsOthers.drew W).trans (KeepsOthers.of_grownBy (row := none) ⟨hb.os, hb.tape, hb.output, hb.size, fun k hk _ => hb.block k hk⟩ (fun j o e => by cases e))).trans (KeepsOthers.alloc _ (.cells #[.int .u8 (nd : Nat), .int .u16 rr.i, .int .u32 rr.p] 43))).trans (KeepsOthers.of_grownBy hg5 (own_cells (OD1.alloc _)))
      refine ⟨(KO.trans (KeepsOthers.setCell _ _ _)).from _, ⟨Eq.trans XRF (Eq.symm XR), ?_⟩, hk, XRF, ⟨D', d', XM5.set 0 _, ?_⟩, BlF, ?_⟩
      · by_cases hgm : g = w.heap.size + 1
        · rw [hgm]; exact Eq.trans XRF (Eq.symm XR)
        · exact (BlF.block g (by omega)).trans (Bl.block g (by omega)).symm
      · rw [MS.out]
        exact Own.far (p := ⟨w.heap.size, 0, none⟩) od (fun j hj => by have := lod j hj; show j ≠ w.heap.size; omega) _
      · rw [Gw.setSize]; exact Nat.le_trans hsz KO.size)
    have HF : Hid (∀ w1 w5 D' d', Below W.drew.heap.size W.drew w1 → Own idc 3 43 (w.heap.size + 1 + 1) w5 (.slice D' (k + 1) d') (mk rows k ++ [⟨(nd : Nat), rr.i, rr.p⟩]) → (w1.alloc (.cells #[.int .u8 (nd : Nat), .int .u16 rr.i, .int .u32 rr.p] 43)).grownBy w5 (Value.slice D k d).ownBlock →
        KeepsFrom W2.heap.size W (w5.setCell ⟨w.heap.size, 0, none⟩ (.slice D' (k + 1) d')) ∧ Keep2 (w.heap.size + 1) g W (w5.setCell ⟨w.heap.size, 0, none⟩ (.slice D' (k + 1) d')) ∧ k + 1 ≤ (kn rows).length ∧ Ob (w5.setCell ⟨w.heap.size, 0, none⟩ (.slice D' (k + 1) d')) (w.heap.size + 1) #[.slice A rows.length cap] 22 ∧ (∃ D2 d2, Ob ((w5.setCell ⟨w.heap.size, 0, none⟩ (.slice D' (k + 1) d'))) w.heap.size #[.slice D2 (k + 1) d2] 45 ∧ Own idc 3 43 (w.heap.size + 1 + 1) (w5.setCell ⟨w.heap.size, 0, none⟩ (.slice D' (k + 1) d')) (.slice D2 (k + 1) d2) (mk rows (k + 1))) ∧ Below w.heap.size w (w5.setCell ⟨w.heap.size, 0, none⟩ (.slice D' (k + 1) d')) ∧ W2.heap.size ≤ (w5.setCell ⟨w.heap.size, 0, none⟩ (.slice D' (k + 1) d')).heap.size) := Lib.hid (by
      intro w1 w5 D' d' hb od hg5
      have XM1 := (Ob.drew XM).call hb
      have OD1 := Own.below (Own.drew OD) hb
      have XR1 := (Ob.drew XR).call hb
      have XM5 := (XM1.alloc (.cells #[.int .u8 (nd : Nat), .int .u16 rr.i, .int .u32 rr.p] 43)).app (OD1.alloc _) hg5 (by decide)
      have XR5 := (XR1.alloc (.cells #[.int .u8 (nd : Nat), .int .u16 rr.i, .int .u32 rr.p] 43)).app (OD1.alloc _) hg5 (by decide)
      have lod := Own.lt od
      have rowlo := Own.lt OD
      have BlF : Below w.heap.size w (w5.setCell ⟨w.heap.size, 0, none⟩ (.slice D' (k + 1) d')) := Gw.st (Gw.gr (Gw.al (Gw.call (Gw.drew Bl) hb) (.cells #[.int .u8 (nd : Nat), .int .u16 rr.i, .int .u32 rr.p] 43)) hg5 (fun j hj => by have := rowlo j hj; omega)) (p := ⟨w.heap.size, 0, none⟩) (Nat.le_refl _) _
      have XRF := XR5.far (p := w.heap.size) (j := 0) (by omega) (.slice D' (k + 1) d')
      have KO : KeepsOthers W w5 := (((KeepsOthers.drew W).trans (KeepsOthers.of_grownBy (row := none) ⟨hb.os, hb.tape, hb.output, hb.size, fun k hk _ => hb.block k hk⟩ (fun j o e => by cases e))).trans (KeepsOthers.alloc _ (.cells #[.int .u8 (nd : Nat), .int .u16 rr.i, .int .u32 rr.p] 43))).trans (KeepsOthers.of_grownBy hg5 (own_cells (OD1.alloc _)))
      refine ⟨(KO.trans (KeepsOthers.setCell _ _ _)).from _, ⟨Eq.trans XRF (Eq.symm XR), ?_⟩, hk, XRF, ⟨D', d', XM5.set 0 _, ?_⟩, BlF, ?_⟩
      · by_cases hgm : g = w.heap.size + 1
        · rw [hgm]; exact Eq.trans XRF (Eq.symm XR)
        · exact (BlF.block g (by omega)).trans (Bl.block g (by omega)).symm
      · rw [MS.out]
        exact Own.far (p := ⟨w.heap.size, 0, none⟩) od (fun j hj => by have := lod j hj; show j ≠ w.heap.size; omega) _
      · rw [Gw.setSize]; exact Nat.le_trans hsz KO.size)
    have t50 := X.blk.2.1 0 _ rfl
    have t51 := X.blk.2.1 1 _ rfl
    have t52 := X.blk.2.1 2 _ rfl
    have t30 := XM.blk.2.1 0 _ rfl
    have f3 := XM.blk.2.2
    gi_wp2
    refine wpIn_region_any (by kernel_rfl) ?_
    try (change wpAnyIn _ _ _ _ _ _ _ _ _ (World.drew _))
    refine wpAnyIn_ready (rs := [0, 1, 2]) (by kernel_rfl) (by simp) ?_
    refine AllReadyIn.cons rfl (fun K hK => ?_) ?_
    · go_simp
      refine hK _ _ ?_
      clear hK K
      refine wpAnyIn_ready (rs := [1, 2]) (by kernel_rfl) (by simp) ?_
      refine AllReadyIn.cons rfl (fun K hK => ?_) ?_
      · go_simp
        refine hK _ _ ?_
        clear hK K
        refine wpAnyIn_ready (rs := [2]) (by kernel_rfl) (by simp) ?_
        refine AllReadyIn.cons rfl (fun K hK => ?_) ?_
        · go_simp
          refine hK _ _ ?_
          clear hK K
          refine wpAnyIn_ready (rs := [3]) (by kernel_rfl) (by simp) ?_
          refine AllReadyIn.cons rfl (fun K hK => ?_) ?_
          · go_simp
            refine ⟨trivial, (CallsIn.inRound r (callsIn_wide.2 (markof_any nd rr _))).mono ?_⟩
            rintro e w1 ⟨rfl, hb⟩
            have XM1 := (Ob.drew XM).call hb
            have t30' := XM1.blk.2.1 0 _ rfl
            have f3' := XM1.blk.2.2
            have OD1 := Own.below (Own.drew OD) hb
            have lx := ((Ob.drew XR).call hb).lt
            dsimp only
            refine hK _ _ ?_
            clear hK K
            refine wpAnyIn_ready (rs := [4]) (by kernel_rfl) (by simp) ?_
            refine AllReadyIn.cons rfl (fun K hK => ?_) ?_
            · go_simp
              have XM4 := XM1.alloc (.cells #[.int .u8 (nd : Nat), .int .u16 rr.i, .int .u32 rr.p] 43)
              have t304 := XM4.blk.2.1 0 _ rfl
              refine hK _ _ ?_
              clear hK K
              refine wpAnyIn_ready (rs := [5]) (by kernel_rfl) (by simp) ?_
              refine AllReadyIn.cons rfl (fun K hK => ?_) ?_
              · rw [if_pos (by rfl)]
                refine appWp _ _ _ 45 rfl (w.heap.size + 1 + 1) 43 i0 _ 8 Try.underlying45 hi0 hz0 hz1 hz2 rfl (by omega) idc_len idc_one _ (mk rows k) rfl (OD1.alloc _) k ML.symm _ _ 1 1 [⟨nd, rr.i, rr.p⟩] rfl rfl (Rd.lit idc_len w1 _ rfl _ _ [⟨nd, rr.i, rr.p⟩] rfl) (by omega) (by omega) (by rw [World.size_alloc]; omega) ?_
                intro D' d' w5 od hg5
                have XM5 := XM4.app (OD1.alloc _) hg5 (by decide)
                have t305 := XM5.blk.2.1 0 _ rfl
                have f305 := XM5.blk.2.2
                refine hK _ _ ?_
                clear hK K
                refine wpAnyIn_ready (rs := [6]) (by kernel_rfl) (by simp) ?_
                refine AllReadyIn.cons rfl (fun K hK => ?_) ?_
                · go_simp
                  refine hK _ _ ?_
                  clear hK K
                  refine wpAnyIn_done (by kernel_rfl) ?_ _
                  gi_wp2
                  exact HF.out w1 w5 D' d' hb od hg5
                exact AllReadyIn.nil
              exact AllReadyIn.nil
            exact AllReadyIn.nil
          exact AllReadyIn.nil
        exact AllReadyIn.nil
      refine AllReadyIn.cons rfl (fun K hK => ?_) ?_
      · go_simp
        refine hK _ _ ?_
        clear hK K
        refine wpAnyIn_ready (rs := [1]) (by kernel_rfl) (by simp) ?_
        refine AllReadyIn.cons rfl (fun K hK => ?_) ?_
        · go_simp
          refine hK _ _ ?_
          clear hK K
          refine wpAnyIn_ready (rs := [3]) (by kernel_rfl) (by simp) ?_
          refine AllReadyIn.cons rfl (fun K hK => ?_) ?_
          · go_simp
            refine ⟨trivial, (CallsIn.inRound r (callsIn_wide.2 (markof_any nd rr _))).mono ?_⟩
            rintro e w1 ⟨rfl, hb⟩
            have XM1 := (Ob.drew XM).call hb
            have t30' := XM1.blk.2.1 0 _ rfl
            have f3' := XM1.blk.2.2
            have OD1 := Own.below (Own.drew OD) hb
            have lx := ((Ob.drew XR).call hb).lt
            dsimp only
            refine hK _ _ ?_
            clear hK K
            refine wpAnyIn_ready (rs := [4]) (by kernel_rfl) (by simp) ?_
            refine AllReadyIn.cons rfl (fun K hK => ?_) ?_
            · go_simp
              have XM4 := XM1.alloc (.cells #[.int .u8 (nd : Nat), .int .u16 rr.i, .int .u32 rr.p] 43)
              have t304 := XM4.blk.2.1 0 _ rfl
              refine hK _ _ ?_
              clear hK K
              refine wpAnyIn_ready (rs := [5]) (by kernel_rfl) (by simp) ?_
              refine AllReadyIn.cons rfl (fun K hK => ?_) ?_
              · rw [if_pos (by rfl)]
                refine appWp _ _ _ 45 rfl (w.heap.size + 1 + 1) 43 i0 _ 8 Try.underlying45 hi0 hz0 hz1 hz2 rfl (by omega) idc_len idc_one _ (mk rows k) rfl (OD1.alloc _) k ML.symm _ _ 1 1 [⟨nd, rr.i, rr.p⟩] rfl rfl (Rd.lit idc_len w1 _ rfl _ _ [⟨nd, rr.i, rr.p⟩] rfl) (by omega) (by omega) (by rw [World.size_alloc]; omega) ?_
                intro D' d' w5 od hg5
                have XM5 := XM4.app (OD1.alloc _) hg5 (by decide)
                have t305 := XM5.blk.2.1 0 _ rfl
                have f305 := XM5.blk.2.2
                refine hK _ _ ?_
                clear hK K
                refine wpAnyIn_ready (rs := [6]) (by kernel_rfl) (by simp) ?_
                refine AllReadyIn.cons rfl (fun K hK => ?_) ?_
                · go_simp
                  refine hK _ _ ?_
                  clear hK K
                  refine wpAnyIn_done (by kernel_rfl) ?_ _
                  gi_wp2
                  exact HF.out w1 w5 D' d' hb od hg5
                exact AllReadyIn.nil
              exact AllReadyIn.nil
            exact AllReadyIn.nil
          exact AllReadyIn.nil
        exact AllReadyIn.nil
      exact AllReadyIn.nil
    refine AllReadyIn.cons rfl (fun K hK => ?_) ?_
    · go_simp
      refine hK _ _ ?_
      clear hK K
      refine wpAnyIn_ready (rs := [0, 2]) (by kernel_rfl) (by simp) ?_
      refine AllReadyIn.cons rfl (fun K hK => ?_) ?_
      · go_simp
        refine hK _ _ ?_
        clear hK K
        refine wpAnyIn_ready (rs := [2]) (by kernel_rfl) (by simp) ?_
        refine AllReadyIn.cons rfl (fun K hK => ?_) ?_
        · go_simp
          refine hK _ _ ?_
          clear hK K
          refine wpAnyIn_ready (rs := [3]) (by kernel_rfl) (by simp) ?_
          refine AllReadyIn.cons rfl (fun K hK => ?_) ?_
          · go_simp
            refine ⟨trivial, (CallsIn.inRound r (callsIn_wide.2 (markof_any nd rr _))).mono ?_⟩
            rintro e w1 ⟨rfl, hb⟩
            have XM1 := (Ob.drew XM).call hb
            have t30' := XM1.blk.2.1 0 _ rfl
            have f3' := XM1.blk.2.2
            have OD1 := Own.below (Own.drew OD) hb
            have lx := ((Ob.drew XR).call hb).lt
            dsimp only
            refine hK _ _ ?_
            clear hK K
            refine wpAnyIn_ready (rs := [4]) (by kernel_rfl) (by simp) ?_
            refine AllReadyIn.cons rfl (fun K hK => ?_) ?_
            · go_simp
              have XM4 := XM1.alloc (.cells #[.int .u8 (nd : Nat), .int .u16 rr.i, .int .u32 rr.p] 43)
              have t304 := XM4.blk.2.1 0 _ rfl
              refine hK _ _ ?_
              clear hK K
              refine wpAnyIn_ready (rs := [5]) (by kernel_rfl) (by simp) ?_
              refine AllReadyIn.cons rfl (fun K hK => ?_) ?_
              · rw [if_pos (by rfl)]
                refine appWp _ _ _ 45 rfl (w.heap.size + 1 + 1) 43 i0 _ 8 Try.underlying45 hi0 hz0 hz1 hz2 rfl (by omega) idc_len idc_one _ (mk rows k) rfl (OD1.alloc _) k ML.symm _ _ 1 1 [⟨nd, rr.i, rr.p⟩] rfl rfl (Rd.lit idc_len w1 _ rfl _ _ [⟨nd, rr.i, rr.p⟩] rfl) (by omega) (by omega) (by rw [World.size_alloc]; omega) ?_
                intro D' d' w5 od hg5
                have XM5 := XM4.app (OD1.alloc _) hg5 (by decide)
                have t305 := XM5.blk.2.1 0 _ rfl
                have f305 := XM5.blk.2.2
                refine hK _ _ ?_
                clear hK K
                refine wpAnyIn_ready (rs := [6]) (by kernel_rfl) (by simp) ?_
                refine AllReadyIn.cons rfl (fun K hK => ?_) ?_
                · go_simp
                  refine hK _ _ ?_
                  clear hK K
                  refine wpAnyIn_done (by kernel_rfl) ?_ _
                  gi_wp2
                  exact HF.out w1 w5 D' d' hb od hg5
                exact AllReadyIn.nil
              exact AllReadyIn.nil
            exact AllReadyIn.nil
          exact AllReadyIn.nil
        exact AllReadyIn.nil
      refine AllReadyIn.cons rfl (fun K hK => ?_) ?_
      · go_simp
        refine hK _ _ ?_
        clear hK K
        refine wpAnyIn_ready (rs := [0, 3]) (by kernel_rfl) (by simp) ?_
        refine AllReadyIn.cons rfl (fun K hK => ?_) ?_
        · go_simp
          refine hK _ _ ?_
          clear hK K
          refine wpAnyIn_ready (rs := [3]) (by kernel_rfl) (by simp) ?_
          refine AllReadyIn.cons rfl (fun K hK => ?_) ?_
          · go_simp
            refine ⟨trivial, (CallsIn.inRound r (callsIn_wide.2 (markof_any nd rr _))).mono ?_⟩
            rintro e w1 ⟨rfl, hb⟩
            have XM1 := (Ob.drew XM).call hb
            have t30' := XM1.blk.2.1 0 _ rfl
            have f3' := XM1.blk.2.2
            have OD1 := Own.below (Own.drew OD) hb
            have lx := ((Ob.drew XR).call hb).lt
            dsimp only
            refine hK _ _ ?_
            clear hK K
            refine wpAnyIn_ready (rs := [4]) (by kernel_rfl) (by simp) ?_
            refine AllReadyIn.cons rfl (fun K hK => ?_) ?_
            · go_simp
              have XM4 := XM1.alloc (.cells #[.int .u8 (nd : Nat), .int .u16 rr.i, .int .u32 rr.p] 43)
              have t304 := XM4.blk.2.1 0 _ rfl
              refine hK _ _ ?_
              clear hK K
              refine wpAnyIn_ready (rs := [5]) (by kernel_rfl) (by simp) ?_
              refine AllReadyIn.cons rfl (fun K hK => ?_) ?_
              · rw [if_pos (by rfl)]
                refine appWp _ _ _ 45 rfl (w.heap.size + 1 + 1) 43 i0 _ 8 Try.underlying45 hi0 hz0 hz1 hz2 rfl (by omega) idc_len idc_one _ (mk rows k) rfl (OD1.alloc _) k ML.symm _ _ 1 1 [⟨nd, rr.i, rr.p⟩] rfl rfl (Rd.lit idc_len w1 _ rfl _ _ [⟨nd, rr.i, rr.p⟩] rfl) (by omega) (by omega) (by rw [World.size_alloc]; omega) ?_
                intro D' d' w5 od hg5
                have XM5 := XM4.app (OD1.alloc _) hg5 (by decide)
                have t305 := XM5.blk.2.1 0 _ rfl
                have f305 := XM5.blk.2.2
                refine hK _ _ ?_
                clear hK K
                refine wpAnyIn_ready (rs := [6]) (by kernel_rfl) (by simp) ?_
                refine AllReadyIn.cons rfl (fun K hK => ?_) ?_
                · go_simp
                  refine hK _ _ ?_
                  clear hK K
                  refine wpAnyIn_done (by kernel_rfl) ?_ _
                  gi_wp2
                  exact HF.out w1 w5 D' d' hb od hg5
                exact AllReadyIn.nil
              exact AllReadyIn.nil
            exact AllReadyIn.nil
          exact AllReadyIn.nil
        refine AllReadyIn.cons rfl (fun K hK => ?_) ?_
        · go_simp
          refine ⟨trivial, (CallsIn.inRound r (callsIn_wide.2 (markof_any nd rr _))).mono ?_⟩
          rintro e w1 ⟨rfl, hb⟩
          have XM1 := (Ob.drew XM).call hb
          have t30' := XM1.blk.2.1 0 _ rfl
          have f3' := XM1.blk.2.2
          have OD1 := Own.below (Own.drew OD) hb
          have lx := ((Ob.drew XR).call hb).lt
          dsimp only
          refine hK _ _ ?_
          clear hK K
          refine wpAnyIn_ready (rs := [0, 4]) (by kernel_rfl) (by simp) ?_
          refine AllReadyIn.cons rfl (fun K hK => ?_) ?_
          · go_simp
            refine hK _ _ ?_
            clear hK K
            refine wpAnyIn_ready (rs := [4]) (by kernel_rfl) (by simp) ?_
            refine AllReadyIn.cons rfl (fun K hK => ?_) ?_
            · go_simp
              have XM4 := XM1.alloc (.cells #[.int .u8 (nd : Nat), .int .u16 rr.i, .int .u32 rr.p] 43)
              have t304 := XM4.blk.2.1 0 _ rfl
              refine hK _ _ ?_
              clear hK K
              refine wpAnyIn_ready (rs := [5]) (by kernel_rfl) (by simp) ?_
              refine AllReadyIn.cons rfl (fun K hK => ?_) ?_
              · rw [if_pos (by rfl)]
                refine appWp _ _ _ 45 rfl (w.heap.size + 1 + 1) 43 i0 _ 8 Try.underlying45 hi0 hz0 hz1 hz2 rfl (by omega) idc_len idc_one _ (mk rows k) rfl (OD1.alloc _) k ML.symm _ _ 1 1 [⟨nd, rr.i, rr.p⟩] rfl rfl (Rd.lit idc_len w1 _ rfl _ _ [⟨nd, rr.i, rr.p⟩] rfl) (by omega) (by omega) (by rw [World.size_alloc]; omega) ?_
                intro D' d' w5 od hg5
                have XM5 := XM4.app (OD1.alloc _) hg5 (by decide)
                have t305 := XM5.blk.2.1 0 _ rfl
                have f305 := XM5.blk.2.2
                refine hK _ _ ?_
                clear hK K
                refine wpAnyIn_ready (rs := [6]) (by kernel_rfl) (by simp) ?_
                refine AllReadyIn.cons rfl (fun K hK => ?_) ?_
                · go_simp
                  refine hK _ _ ?_
                  clear hK K
                  refine wpAnyIn_done (by kernel_rfl) ?_ _
                  gi_wp2
                  exact HF.out w1 w5 D' d' hb od hg5
                exact AllReadyIn.nil
              exact AllReadyIn.nil
            exact AllReadyIn.nil
          refine AllReadyIn.cons rfl (fun K hK => ?_) ?_
          · go_simp
            have XM4 := XM1.alloc (.cells #[.int .u8 (nd : Nat), .int .u16 rr.i, .int .u32 rr.p] 43)
            have t304 := XM4.blk.2.1 0 _ rfl
            refine hK _ _ ?_
            clear hK K
            refine wpAnyIn_ready (rs := [0]) (by kernel_rfl) (by simp) ?_
            refine AllReadyIn.cons rfl (fun K hK => ?_) ?_
            · go_simp
              refine hK _ _ ?_
              clear hK K
              refine wpAnyIn_ready (rs := [5]) (by kernel_rfl) (by simp) ?_
              refine AllReadyIn.cons rfl (fun K hK => ?_) ?_
              · rw [if_pos (by rfl)]
                refine appWp _ _ _ 45 rfl (w.heap.size + 1 + 1) 43 i0 _ 8 Try.underlying45 hi0 hz0 hz1 hz2 rfl (by omega) idc_len idc_one _ (mk rows k) rfl (OD1.alloc _) k ML.symm _ _ 1 1 [⟨nd, rr.i, rr.p⟩] rfl rfl (Rd.lit idc_len w1 _ rfl _ _ [⟨nd, rr.i, rr.p⟩] rfl) (by omega) (by omega) (by rw [World.size_alloc]; omega) ?_
                intro D' d' w5 od hg5
                have XM5 := XM4.app (OD1.alloc _) hg5 (by decide)
                have t305 := XM5.blk.2.1 0 _ rfl
                have f305 := XM5.blk.2.2
                refine hK _ _ ?_
                clear hK K
                refine wpAnyIn_ready (rs := [6]) (by kernel_rfl) (by simp) ?_
                refine AllReadyIn.cons rfl (fun K hK => ?_) ?_
                · go_simp
                  refine hK _ _ ?_
                  clear hK K
                  refine wpAnyIn_done (by kernel_rfl) ?_ _
                  gi_wp2
                  exact HF.out w1 w5 D' d' hb od hg5
                exact AllReadyIn.nil
              exact AllReadyIn.nil
            exact AllReadyIn.nil
          exact AllReadyIn.nil
        exact AllReadyIn.nil
      exact AllReadyIn.nil
    refine AllReadyIn.cons rfl (fun K hK => ?_) ?_
    · go_simp
      refine hK _ _ ?_
      clear hK K
      refine wpAnyIn_ready (rs := [0, 1]) (by kernel_rfl) (by simp) ?_
      refine AllReadyIn.cons rfl (fun K hK => ?_) ?_
      · go_simp
        refine hK _ _ ?_
        clear hK K
        refine wpAnyIn_ready (rs := [1]) (by kernel_rfl) (by simp) ?_
        refine AllReadyIn.cons rfl (fun K hK => ?_) ?_
        · go_simp
          refine hK _ _ ?_
          clear hK K
          refine wpAnyIn_ready (rs := [3]) (by kernel_rfl) (by simp) ?_
          refine AllReadyIn.cons rfl (fun K hK => ?_) ?_
          · go_simp
            refine ⟨trivial, (CallsIn.inRound r (callsIn_wide.2 (markof_any nd rr _))).mono ?_⟩
            rintro e w1 ⟨rfl, hb⟩
            have XM1 := (Ob.drew XM).call hb
            have t30' := XM1.blk.2.1 0 _ rfl
            have f3' := XM1.blk.2.2
            have OD1 := Own.below (Own.drew OD) hb
            have lx := ((Ob.drew XR).call hb).lt
            dsimp only
            refine hK _ _ ?_
            clear hK K
            refine wpAnyIn_ready (rs := [4]) (by kernel_rfl) (by simp) ?_
            refine AllReadyIn.cons rfl (fun K hK => ?_) ?_
            · go_simp
              have XM4 := XM1.alloc (.cells #[.int .u8 (nd : Nat), .int .u16 rr.i, .int .u32 rr.p] 43)
              have t304 := XM4.blk.2.1 0 _ rfl
              refine hK _ _ ?_
              clear hK K
              refine wpAnyIn_ready (rs := [5]) (by kernel_rfl) (by simp) ?_
              refine AllReadyIn.cons rfl (fun K hK => ?_) ?_
              · rw [if_pos (by rfl)]
                refine appWp _ _ _ 45 rfl (w.heap.size + 1 + 1) 43 i0 _ 8 Try.underlying45 hi0 hz0 hz1 hz2 rfl (by omega) idc_len idc_one _ (mk rows k) rfl (OD1.alloc _) k ML.symm _ _ 1 1 [⟨nd, rr.i, rr.p⟩] rfl rfl (Rd.lit idc_len w1 _ rfl _ _ [⟨nd, rr.i, rr.p⟩] rfl) (by omega) (by omega) (by rw [World.size_alloc]; omega) ?_
                intro D' d' w5 od hg5
                have XM5 := XM4.app (OD1.alloc _) hg5 (by decide)
                have t305 := XM5.blk.2.1 0 _ rfl
                have f305 := XM5.blk.2.2
                refine hK _ _ ?_
                clear hK K
                refine wpAnyIn_ready (rs := [6]) (by kernel_rfl) (by simp) ?_
                refine AllReadyIn.cons rfl (fun K hK => ?_) ?_
                · go_simp
                  refine hK _ _ ?_
                  clear hK K
                  refine wpAnyIn_done (by kernel_rfl) ?_ _
                  gi_wp2
                  exact HF.out w1 w5 D' d' hb od hg5
                exact AllReadyIn.nil
              exact AllReadyIn.nil
            exact AllReadyIn.nil
          exact AllReadyIn.nil
        exact AllReadyIn.nil
      refine AllReadyIn.cons rfl (fun K hK => ?_) ?_
      · go_simp
        refine hK _ _ ?_
        clear hK K
        refine wpAnyIn_ready (rs := [0, 3]) (by kernel_rfl) (by simp) ?_
        refine AllReadyIn.cons rfl (fun K hK => ?_) ?_
        · go_simp
          refine hK _ _ ?_
          clear hK K
          refine wpAnyIn_ready (rs := [3]) (by kernel_rfl) (by simp) ?_
          refine AllReadyIn.cons rfl (fun K hK => ?_) ?_
          · go_simp
            refine ⟨trivial, (CallsIn.inRound r (callsIn_wide.2 (markof_any nd rr _))).mono ?_⟩
            rintro e w1 ⟨rfl, hb⟩
            have XM1 := (Ob.drew XM).call hb
            have t30' := XM1.blk.2.1 0 _ rfl
            have f3' := XM1.blk.2.2
            have OD1 := Own.below (Own.drew OD) hb
            have lx := ((Ob.drew XR).call hb).lt
            dsimp only
            refine hK _ _ ?_
            clear hK K
            refine wpAnyIn_ready (rs := [4]) (by kernel_rfl) (by simp) ?_
            refine AllReadyIn.cons rfl (fun K hK => ?_) ?_
            · go_simp
              have XM4 := XM1.alloc (.cells #[.int .u8 (nd : Nat), .int .u16 rr.i, .int .u32 rr.p] 43)
              have t304 := XM4.blk.2.1 0 _ rfl
              refine hK _ _ ?_
              clear hK K
              refine wpAnyIn_ready (rs := [5]) (by kernel_rfl) (by simp) ?_
              refine AllReadyIn.cons rfl (fun K hK => ?_) ?_
              · rw [if_pos (by rfl)]
                refine appWp _ _ _ 45 rfl (w.heap.size + 1 + 1) 43 i0 _ 8 Try.underlying45 hi0 hz0 hz1 hz2 rfl (by omega) idc_len idc_one _ (mk rows k) rfl (OD1.alloc _) k ML.symm _ _ 1 1 [⟨nd, rr.i, rr.p⟩] rfl rfl (Rd.lit idc_len w1 _ rfl _ _ [⟨nd, rr.i, rr.p⟩] rfl) (by omega) (by omega) (by rw [World.size_alloc]; omega) ?_
                intro D' d' w5 od hg5
                have XM5 := XM4.app (OD1.alloc _) hg5 (by decide)
                have t305 := XM5.blk.2.1 0 _ rfl
                have f305 := XM5.blk.2.2
                refine hK _ _ ?_
                clear hK K
                refine wpAnyIn_ready (rs := [6]) (by kernel_rfl) (by simp) ?_
                refine AllReadyIn.cons rfl (fun K hK => ?_) ?_
                · go_simp
                  refine hK _ _ ?_
                  clear hK K
                  refine wpAnyIn_done (by kernel_rfl) ?_ _
                  gi_wp2
                  exact HF.out w1 w5 D' d' hb od hg5
                exact AllReadyIn.nil
              exact AllReadyIn.nil
            exact AllReadyIn.nil
          exact AllReadyIn.nil
        refine AllReadyIn.cons rfl (fun K hK => ?_) ?_
        · go_simp
          refine ⟨trivial, (CallsIn.inRound r (callsIn_wide.2 (markof_any nd rr _))).mono ?_⟩
          rintro e w1 ⟨rfl, hb⟩
          have XM1 := (Ob.drew XM).call hb
          have t30' := XM1.blk.2.1 0 _ rfl
          have f3' := XM1.blk.2.2
          have OD1 := Own.below (Own.drew OD) hb
          have lx := ((Ob.drew XR).call hb).lt
          dsimp only
          refine hK _ _ ?_
          clear hK K
          refine wpAnyIn_ready (rs := [0, 4]) (by kernel_rfl) (by simp) ?_
          refine AllReadyIn.cons rfl (fun K hK => ?_) ?_
          · go_simp
            refine hK _ _ ?_
            clear hK K
            refine wpAnyIn_ready (rs := [4]) (by kernel_rfl) (by simp) ?_
            refine AllReadyIn.cons rfl (fun K hK => ?_) ?_
            · go_simp
              have XM4 := XM1.alloc (.cells #[.int .u8 (nd : Nat), .int .u16 rr.i, .int .u32 rr.p] 43)
              have t304 := XM4.blk.2.1 0 _ rfl
              refine hK _ _ ?_
              clear hK K
              refine wpAnyIn_ready (rs := [5]) (by kernel_rfl) (by simp) ?_
              refine AllReadyIn.cons rfl (fun K hK => ?_) ?_
              · rw [if_pos (by rfl)]
                refine appWp _ _ _ 45 rfl (w.heap.size + 1 + 1) 43 i0 _ 8 Try.underlying45 hi0 hz0 hz1 hz2 rfl (by omega) idc_len idc_one _ (mk rows k) rfl (OD1.alloc _) k ML.symm _ _ 1 1 [⟨nd, rr.i, rr.p⟩] rfl rfl (Rd.lit idc_len w1 _ rfl _ _ [⟨nd, rr.i, rr.p⟩] rfl) (by omega) (by omega) (by rw [World.size_alloc]; omega) ?_
                intro D' d' w5 od hg5
                have XM5 := XM4.app (OD1.alloc _) hg5 (by decide)
                have t305 := XM5.blk.2.1 0 _ rfl
                have f305 := XM5.blk.2.2
                refine hK _ _ ?_
                clear hK K
                refine wpAnyIn_ready (rs := [6]) (by kernel_rfl) (by simp) ?_
                refine AllReadyIn.cons rfl (fun K hK => ?_) ?_
                · go_simp
                  refine hK _ _ ?_
                  clear hK K
                  refine wpAnyIn_done (by kernel_rfl) ?_ _
                  gi_wp2
                  exact HF.out w1 w5 D' d' hb od hg5
                exact AllReadyIn.nil
              exact AllReadyIn.nil
            exact AllReadyIn.nil
          refine AllReadyIn.cons rfl (fun K hK => ?_) ?_
          · go_simp
            have XM4 := XM1.alloc (.cells #[.int .u8 (nd : Nat), .int .u16 rr.i, .int .u32 rr.p] 43)
            have t304 := XM4.blk.2.1 0 _ rfl
            refine hK _ _ ?_
            clear hK K
            refine wpAnyIn_ready (rs := [0]) (by kernel_rfl) (by simp) ?_
            refine AllReadyIn.cons rfl (fun K hK => ?_) ?_
            · go_simp
              refine hK _ _ ?_
              clear hK K
              refine wpAnyIn_ready (rs := [5]) (by kernel_rfl) (by simp) ?_
              refine AllReadyIn.cons rfl (fun K hK => ?_) ?_
              · rw [if_pos (by rfl)]
                refine appWp _ _ _ 45 rfl (w.heap.size + 1 + 1) 43 i0 _ 8 Try.underlying45 hi0 hz0 hz1 hz2 rfl (by omega) idc_len idc_one _ (mk rows k) rfl (OD1.alloc _) k ML.symm _ _ 1 1 [⟨nd, rr.i, rr.p⟩] rfl rfl (Rd.lit idc_len w1 _ rfl _ _ [⟨nd, rr.i, rr.p⟩] rfl) (by omega) (by omega) (by rw [World.size_alloc]; omega) ?_
                intro D' d' w5 od hg5
                have XM5 := XM4.app (OD1.alloc _) hg5 (by decide)
                have t305 := XM5.blk.2.1 0 _ rfl
                have f305 := XM5.blk.2.2
                refine hK _ _ ?_
                clear hK K
                refine wpAnyIn_ready (rs := [6]) (by kernel_rfl) (by simp) ?_
                refine AllReadyIn.cons rfl (fun K hK => ?_) ?_
                · go_simp
                  refine hK _ _ ?_
                  clear hK K
                  refine wpAnyIn_done (by kernel_rfl) ?_ _
                  gi_wp2
                  exact HF.out w1 w5 D' d' hb od hg5
                exact AllReadyIn.nil
              exact AllReadyIn.nil
            exact AllReadyIn.nil
          exact AllReadyIn.nil
        exact AllReadyIn.nil
      exact AllReadyIn.nil
    exact AllReadyIn.nil
  case done =>
    rintro D0 W hD _ ⟨h1, h2, ⟨D, d, h6, h7⟩, h9, h10⟩ hK
    have t30 := h6.blk.2.1 0 _ rfl
    gi_wp2
    refine ⟨by simp, .inl ⟨_, _, rfl, run_takeDeferred hK, ?_⟩⟩
    refine ⟨_, results_tmp rfl _ _ _, D, d, ?_, ?_, h9.grown (grownBy_putObj' _ D0 (.deferred none)) h9.size (fun k e => by cases e; omega)⟩
    · have e1 : (marksL rows).length = (kn rows).length := by unfold marksL; rw [List.length_map]
      rw [e1]; rfl
    · have e1 : (marksL rows).length = (kn rows).length := by unfold marksL; rw [List.length_map]
      rw [e1, ← mk_all]
      exact (h7.turn (grownBy_putObj' _ D0 (.deferred none)) (fun r e => by cases e; exact ⟨_, hK, rfl⟩)).base_le (by omega)
  case stop =>
    rintro D c k W hD h
    exact h.elim
end Go.Proofs.Ythockpallaoelaa
