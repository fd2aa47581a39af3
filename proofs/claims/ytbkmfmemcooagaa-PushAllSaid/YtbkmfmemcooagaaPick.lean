/-
  push.Pick: the closure that draws, and the loop.
-/
import Derived.Test.YtbkmfmemcooagaaDelete
import Derived.Test.YtbkmfmemcooagaaPickL
import Derived.Test.YtbkmfmemcooagaaClone
import Derived.Test.YtbkmfmemcooagaaInts
namespace Go.Proofs.Ytbkmfmemcooagaa
open Go.RowKit

/-- box B holds a slice into block g, that reads as l -/
def LeftAt (w : World) (B g : Nat) (l : List Int) : Prop :=
  ∃ A cap, Boxed w B 22 (.slice A l.length cap) ∧ (0 < l.length → ∃ off, A = some ⟨g, off, none⟩ ∧ l.length ≤ cap ∧ cap ≤ 9223372036854775807 ∧ Lf .u8 w g off l)
theorem Lf.far {k : IntKind} {w : World} {g off B f : Nat} {l : List Int} (h : Lf k w g off l) (hne : g ≠ B) (u : Value) : Lf k (w.setCell ⟨B, f, none⟩ u) g off l :=
  h.block (by simp [World.setCell, Array.getElem?_modify, Ne.symm hne])
theorem Touch.keepBox {w w' : World} {p q B : Nat} {t : TypeId} {v : Value} (h : Touch w w' p q) (hb : Boxed w B t v) (h1 : B ≠ p) (h2 : B ≠ q) : Boxed w' B t v := h.boxed hb h1 h2

def Drawn (l : List Int) (m B g : Nat) (w : World) (e : Ending) (w' : World) : Prop := e = .returned (.int .u8 (l.getD m 0)) ∧ LeftAt w' B g (l.eraseIdx m) ∧ Touch w w' g B
set_option maxHeartbeats 1000000 in
theorem draw_any (l : List Int) (d : Int) (B g : Nat) (w : World) (h : LeftAt w B g l) (hl : 0 < l.length) (hne : g ≠ B) (hlen : l.length ≤ 1000000) (hd : 0 ≤ d ∧ d ≤ 4294967295) :
    Calls Try.prog 16 #[.int .u32 d, .pointer (some ⟨B, 0, none⟩)] w (Drawn l (d.toNat % l.length) B g w) := by
  obtain ⟨A, cap, hbox, hA⟩ := h
  obtain ⟨off, rfl, hlc, hcm, hlf⟩ := hA hl
  obtain ⟨m, hm⟩ : ∃ m, m = d.toNat % l.length := ⟨_, rfl⟩
  have hml : m < l.length := by rw [hm]; exact Nat.mod_lt _ hl
  have hmi : d % (l.length : Int) = (m : Int) := by
    obtain ⟨n, rfl⟩ := Int.eq_ofNat_of_zero_le hd.1
    rw [hm]; simp
  rw [← hm]
  obtain ⟨x, hx⟩ : ∃ x, l[m]? = some x := ⟨_, List.getElem?_eq_getElem hml⟩
  have hxe : l.getD m 0 = x := by rw [List.getD_eq_getElem?_getD, hx]; rfl
  have HXE := Lib.hid hxe
  have hel : (l.eraseIdx m).length = l.length - 1 := erase_len hml
  have hc := (hlf m x hx).1
  have c0 := hbox.cell
  have f0 := hbox.frozen
  have hl0 : (0 : Int) < l.length := by omega
  have HX := Lib.hid hx
  have HE := Lib.hid hel
  have HLF := Lib.hid hlf
  have HB := Lib.hid hbox
  clear hm hxe hx hel hlf hbox hA
  by_cases hm0 : m = 0
  · subst hm0
    rw [Nat.add_zero] at hc
    rw [Int.natCast_zero] at hmi
    have h1l : (1 : Int) ≤ l.length := by omega
    go_enter Try.func16, Try.ntmps16
    go_wp2
    all_goals go_ret
    all_goals
      refine ⟨ret_int HXE.out.symm, ?_, Touch.set _ _ _ _ _ (.inr rfl) _⟩
      unfold LeftAt
      rw [HE.out]
      refine ⟨_, _, HB.out.set _, fun hpos => ?_⟩
      first
      | omega
      | (refine ⟨off + 1, rfl, by omega, by omega, ?_⟩
         cases l with
         | nil => simp at hl
         | cons y l => exact Lf.far (by simpa using HLF.out.tail) hne _)
  · have hm1 : ((m : Int) = 0) = False := by simp; exact hm0
    have hm2 : decide ((m : Int) = 0) = false := by simpa using hm0
    go_enter Try.func16, Try.ntmps16
    go_wp2_with (go_at_call 17; (with_reducible refine (del_any l g off cap m _ HLF.out hml hlc hcm).mono ?_); rintro e w1 ⟨rfl, hlf1, ht1⟩; have hb1 := Touch.keepBox ht1 HB.out (Ne.symm hne) (Ne.symm hne); have c1 := hb1.cell; have f1 := hb1.frozen; have HL1 := Lib.hid hlf1; have HT1 := Lib.hid ht1; clear hlf1 ht1)
    go_ret
    refine ⟨ret_int HXE.out.symm, ?_, ?_⟩
    · unfold LeftAt
      rw [HE.out]
      exact ⟨_, cap, hb1.set _, fun hpos => ⟨off, rfl, by omega, by omega, Lf.far HL1.out hne _⟩⟩
    · have t2 : Touch w w1 g B := ⟨HT1.out.os, HT1.out.tape, HT1.out.output, HT1.out.size, fun k hk h3 _ => HT1.out.block k hk h3 h3⟩
      exact t2.trans (Touch.set _ _ _ _ _ (.inr rfl) _)
theorem LeftAt.blocks {w w' : World} {B g : Nat} {l : List Int} (h : LeftAt w B g l) (h1 : w'.heap[B]? = w.heap[B]?) (h2 : w'.heap[g]? = w.heap[g]?) : LeftAt w' B g l := by
  obtain ⟨A, cap, hb, hA⟩ := h
  exact ⟨A, cap, h1.trans hb, fun hp => by obtain ⟨off, h3, h4, h5, h6⟩ := hA hp; exact ⟨off, h3, h4, h5, h6.block h2⟩⟩
theorem LeftAt.app {w w' : World} {B g : Nat} {l : List Int} {row : Option Nat} {o : Obj} (h : LeftAt w B g l) (hg : (w.alloc o).grownBy w' row) (hB : B < w.heap.size) (hgB : g ≤ B) (hr : ∀ k, row = some k → B + 1 ≤ k) : LeftAt w' B g l :=
  h.blocks ((hg.block B (by simp; omega) (fun e => by have := hr B e.symm; omega)).trans (Below.heap_alloc w o B hB)) ((hg.block g (by simp; omega) (fun e => by have := hr g e.symm; omega)).trans (Below.heap_alloc w o g (by omega)))
theorem leftAt_new {w1 : World} {base c : Nat} {A : Option Addr} {l : List Int} (h : Own (fun z : Int => [Value.int .u8 z]) 1 5 base w1 (.slice A l.length c) l) (hb : base ≤ w1.heap.size) :
    ∃ g, (0 < l.length → g ≠ w1.heap.size) ∧ base ≤ g ∧ g ≤ w1.heap.size ∧ LeftAt (w1.alloc (.cells #[.slice A l.length c] 22)) w1.heap.size g l := by
  have hbx := Boxed.new w1 22 (.slice A l.length c)
  rcases h.2 with ⟨e, h0⟩ | ⟨g, cap, cur, e, hbg, hgg, hn, hm, hcs, ht⟩
  · exact ⟨w1.heap.size, fun hp => by omega, hb, Nat.le_refl _, _, _, hbx, fun hp => by omega⟩
  · have hlt : g < w1.heap.size := (Array.getElem?_eq_some_iff.1 hgg).1
    injection e with e1 e2 e3
    subst e1 e3
    unfold maxLen at hm
    exact ⟨g, fun _ => by omega, hbg, by omega, _, _, hbx, fun _ => ⟨0, rfl, hn, hm, (Lf.of_own h).block (Below.heap_alloc w1 _ g hlt)⟩⟩

set_option maxHeartbeats 4000000 in
theorem pick_any (l ds : List Int) (F : Int) (A D : Option Addr) (cap dcap : Nat) (w : World) (hr : Rd (fun z : Int => [Value.int .u8 z]) 1 w.heap.size w A l) (hrd : Rd (fun z : Int => [Value.int .u32 z]) 1 w.heap.size w D ds)
    (hlen : l.length ≤ 1000000) (hdl : ds.length ≤ 1000000) (hF : F ≤ 9223372036854775807) (hds : ∀ x ∈ ds, 0 ≤ x ∧ x ≤ 4294967295) :
    Calls Try.prog 12 #[.slice A l.length cap, .int .i64 F, .slice D ds.length dcap] w fun e w' => ∃ A' c', e = .returned (.slice A' (pickL F.toNat l ds).length c') ∧ Own (fun z : Int => [Value.int .u8 z]) 1 5 w.heap.size w' (.slice A' (pickL F.toNat l ds).length c') (pickL F.toNat l ds) ∧ Below w.heap.size w w' := by
  obtain ⟨i0, hi0, hz0, hz1, hz2⟩ := info_parts Try.infoU8d
  have hmf : ∀ (fn : Fn) (first cap : Array Value) (w : World), (Instr.makeFunc fn first cap).run Try.prog w = .ok (.func fn first cap) w := fun _ _ _ _ => rfl
  have HDS := Lib.hid hds
  clear hds
  go_enter Try.func12, Try.ntmps12
  go_wp2_with (go_at_call 15; (with_reducible refine (cloneU8_any l A cap w hr hlen).mono ?_); rintro e w1 ⟨A1, c1, rfl, o1, b1⟩)
  obtain ⟨g, hgB, hg0, hg1, hleft⟩ := leftAt_new o1 b1.size
  have bb := Gw.al b1 (.cells #[.slice A1 l.length c1] 22)
  clear o1
  obtain ⟨B, hB⟩ : ∃ B, B = w1.heap.size := ⟨_, rfl⟩
  have hB0 : w.heap.size ≤ B := by rw [hB]; exact b1.size
  have hz : (w1.alloc (.cells #[.slice A1 l.length c1] 22)).heap.size = B + 1 := by rw [hB]; simp
  rw [← hB] at hgB hg1 hleft ⊢
  generalize w1.alloc (.cells #[.slice A1 l.length c1] 22) = w2 at *
  have hz' : B + 1 ≤ w2.heap.size := by omega
  clear hB hz b1
  go_loopw [9, 10] (fun p i wr => ∃ (acc left : List Int) (P : Option Addr) (c : Nat), i = .int .i64 acc.length ∧ p = .slice P acc.length c ∧ Own (fun z : Int => [Value.int .u8 z]) 1 5 (B + 1) wr (.slice P acc.length c) acc ∧ LeftAt wr B g left ∧ Hid (left.length + acc.length = l.length) ∧ acc.length ≤ l.length ∧ left.length ≤ l.length ∧ Hid (acc ++ pickL (F.toNat - acc.length) left (ds.drop acc.length) = pickL F.toNat l ds) ∧ B + 1 ≤ wr.heap.size ∧ Below w.heap.size w wr)
    (fun _ i _ => l.length - (intOf i).toNat)
  case atStart => exact ⟨[], l, none, 0, rfl, rfl, Own.nil_, hleft, Lib.hid rfl, Nat.zero_le _, Nat.le_refl _, Lib.hid (by simp), hz', bb⟩
  case round =>
    obtain ⟨acc, left, P, c, rfl, rfl, hown, hlf, hll, hal, hlel, HA, hsz, hbw⟩ := hrel
    obtain ⟨L, lcap, hbox, hL⟩ := id hlf
    have cb := hbox.cell
    clear hbox hL
    have rd := hrd.up hbw
    by_cases hc : (acc.length : Int) < F ∧ 0 < left.length
    · obtain ⟨hc1, hc2⟩ := hc
      have hc3 : (0 : Int) < left.length := by omega
      have hc4 : acc.length < l.length := by have := hll.out; omega
      obtain ⟨d, hd⟩ : ∃ d, d = ds.getD acc.length 0 := ⟨_, rfl⟩
      obtain ⟨m, hm⟩ : ∃ m, m = d.toNat % left.length := ⟨_, rfl⟩
      obtain ⟨y, hy⟩ : ∃ y, y = left.getD m 0 := ⟨_, rfl⟩
      have ST := Lib.hid (pick_step HA.out (show acc.length < F.toNat by omega) hc2)
      rw [← hd, ← hm, ← hy] at ST
      have hel : (left.eraseIdx m).length = left.length - 1 := by rw [hm]; exact erase_len (Nat.mod_lt _ hc2)
      have hd1 : 0 ≤ d ∧ d ≤ 4294967295 := by
        rw [hd, List.getD_eq_getElem?_getD]
        rcases hx : ds[acc.length]? with _ | x
        · simp
        · exact HDS.out x (List.mem_of_getElem? hx)
      have DR := Lib.hid (draw_any left d B g wr hlf hc2 (hgB (by omega)) (by omega) hd1)
      rw [← hm] at DR
      unfold Drawn at DR
      rw [← hy] at DR
      have HL1 : Hid ((left.eraseIdx m).length + (acc ++ [y]).length = l.length) := Lib.hid (by have := hll.out; rw [hel]; simp; omega)
      have HL2 : (left.eraseIdx m).length ≤ l.length := by rw [hel]; omega
      have HL3 : (acc ++ [y]).length = acc.length + 1 := by simp
      generalize left.eraseIdx m = left2 at *
      have HL4 := Lib.hid HL3
      by_cases hk : acc.length < ds.length
      · have hx : ds[acc.length]? = some d := by rw [hd, List.getD_eq_getElem?_getD, List.getElem?_eq_getElem hk]; rfl
        obtain ⟨b, o, rfl, hbb, hcell⟩ := rd.at_ hx
        have hcx : wr.cell? ⟨b, o + acc.length, none⟩ = some (.int .u32 d) := by have := hcell 0 _ rfl; simpa using this
        clear hcell hx hlf rd hd hm hy hel HL3
        go_wp2_with (first
          | (go_at_call 16; (with_reducible refine DR.out.mono ?_); rintro e w3 ⟨rfl, lf3, t3⟩; have own3 := t3.own hown (fun j hj => by have := (World.ownsRow.lt hown j hj).1; omega); have b3 := t3.below (n := w.heap.size) hbw.size hg0 hB0; have LF3 := Lib.hid lf3; have sz3 := t3.size; clear t3)
          | (at_builtin; refine wpList_app _ rfl _ _ 22 rfl (B + 1) 5 i0 _ 1 Try.underlying22 hi0 hz0 hz1 hz2 rfl (by omega) (fun _ => rfl) (int_one .u8) _ acc rfl (own3.alloc _) acc.length rfl _ _ 1 1 [y] rfl rfl (Rd.one .u8 w3 y _) (by omega) (by omega) (by simp; omega) ?_; intro A' c' w4 hown4 hg4))
        go_roundw
        case rel => exact ⟨acc ++ [y], left2, A', c', by simp, by rw [HL4.out], by rw [HL4.out]; exact hown4, LF3.out.app hg4 (by omega) hg1 (Own.lt own3), HL1, by rw [HL4.out]; omega, HL2, Lib.hid (by rw [HL4.out]; exact ST.out), by have := hg4.size; simp at this; omega, Gw.gr (Gw.al (hbw.trans b3) _) hg4 (fun j hj => by have := Own.lt own3 j hj; omega)⟩
        case measure => simp [intOf]; omega
      · obtain rfl : d = 0 := by rw [hd, List.getD_eq_getElem?_getD, List.getElem?_eq_none (by omega)]; rfl
        clear hlf rd hd hm hy hel HL3
        go_wp2_with (first
          | (go_at_call 16; (with_reducible refine DR.out.mono ?_); rintro e w3 ⟨rfl, lf3, t3⟩; have own3 := t3.own hown (fun j hj => by have := (World.ownsRow.lt hown j hj).1; omega); have b3 := t3.below (n := w.heap.size) hbw.size hg0 hB0; have LF3 := Lib.hid lf3; have sz3 := t3.size; clear t3)
          | (at_builtin; refine wpList_app _ rfl _ _ 22 rfl (B + 1) 5 i0 _ 1 Try.underlying22 hi0 hz0 hz1 hz2 rfl (by omega) (fun _ => rfl) (int_one .u8) _ acc rfl (own3.alloc _) acc.length rfl _ _ 1 1 [y] rfl rfl (Rd.one .u8 w3 y _) (by omega) (by omega) (by simp; omega) ?_; intro A' c' w4 hown4 hg4))
        go_roundw
        case rel => exact ⟨acc ++ [y], left2, A', c', by simp, by rw [HL4.out], by rw [HL4.out]; exact hown4, LF3.out.app hg4 (by omega) hg1 (Own.lt own3), HL1, by rw [HL4.out]; omega, HL2, Lib.hid (by rw [HL4.out]; exact ST.out), by have := hg4.size; simp at this; omega, Gw.gr (Gw.al (hbw.trans b3) _) hg4 (fun j hj => by have := Own.lt own3 j hj; omega)⟩
        case measure => simp [intOf]; omega
    · have hend : pickL (F.toNat - acc.length) left (ds.drop acc.length) = [] := by
        by_cases h1 : (acc.length : Int) < F
        · have : left.length = 0 := by omega
          rw [List.length_eq_zero_iff.1 this, pickL_nil]
        · rw [show F.toNat - acc.length = 0 by omega]; rfl
      have HE := HA.out
      rw [hend, List.append_nil] at HE
      have HE2 := Lib.hid HE
      clear hend HE HA rd hlf
      by_cases h1 : (acc.length : Int) < F
      · have h2 : left.length = 0 := by omega
        have h3 : decide ((0 : Int) < left.length) = false := by simp [h2]
        have h4 : ¬ (0 : Int) < left.length := by omega
        clear hc
        go_wp2
        go_ret
        rw [← HE2.out]
        exact ⟨P, c, rfl, hown.base_le (by omega), hbw⟩
      · have h2 : decide ((acc.length : Int) < F) = false := by simpa using h1
        clear hc
        go_wp2
        go_ret
        rw [← HE2.out]
        exact ⟨P, c, rfl, hown.base_le (by omega), hbw⟩
end Go.Proofs.Ytbkmfmemcooagaa
