/-
  outbox.descriptor (21).
-/
import Derived.Test.YtbengmgfddnkhaaEach
namespace Go.Proofs.Ytbengmgfddnkhaa
open Go.RowKit
/-- cells of one block, put one by one -/
def putAt (W : World) (g : Nat) : Nat → List Value → World
  | _, [] => W
  | j, u :: r => putAt (W.setCell ⟨g, j, none⟩ u) g (j + 1) r
theorem putAt_grown (g : Nat) : ∀ (us : List Value) (W : World) (j : Nat), W.grownBy (putAt W g j us) (some g)
  | [], W, _ => World.grownBy.refl W _
  | u :: r, W, j => (grown_set W ⟨g, j, none⟩ u).trans (putAt_grown g r _ (j + 1))
theorem putAt_ob {g : Nat} {T : TypeId} : ∀ (us : List Value) (W : World) (j : Nat) (cs : Array Value), Ob W g cs T → j + us.length ≤ cs.size → ∃ cs', Ob (putAt W g j us) g cs' T ∧ cs'.size = cs.size ∧ (∀ i, i < j → cs'[i]? = cs[i]?) ∧ (∀ i (u : Value), us[i]? = some u → cs'[j + i]? = some u) ∧ (∀ i, j + us.length ≤ i → cs'[i]? = cs[i]?)
  | [], W, j, cs, h, _ => ⟨cs, h, rfl, fun _ _ => rfl, (fun i u hu => by simp at hu), fun _ _ => rfl⟩
  | u :: r, W, j, cs, h, hl => by
    simp only [List.length_cons] at hl
    obtain ⟨cs', h1, h2, h3, h4, h5⟩ := putAt_ob r (W.setCell ⟨g, j, none⟩ u) (j + 1) (cs.setIfInBounds j u) (h.set j u) (by simp; omega)
    refine ⟨cs', h1, by simpa using h2, fun i hi => ?_, fun i v hv => ?_, fun i hi => ?_⟩
    · rw [h3 i (by omega), Array.getElem?_setIfInBounds_ne (by omega)]
    · cases i with
      | zero =>
        simp only [List.getElem?_cons_zero] at hv
        rw [Nat.add_zero, h3 j (by omega), Array.getElem?_setIfInBounds_self_of_lt (by omega), hv]
      | succ i =>
        simp only [List.getElem?_cons_succ] at hv
        have := h4 i v hv
        rwa [show j + 1 + i = j + (i + 1) by omega] at this
    · simp only [List.length_cons] at hi
      rw [h5 i (by omega), Array.getElem?_setIfInBounds_ne (by omega)]
theorem putAt_all {g : Nat} {T : TypeId} {us : List Value} {W : World} {cs : Array Value} (h : Ob W g cs T) (hl : us.length = cs.size) : Ob (putAt W g 0 us) g us.toArray T := by
  obtain ⟨cs', h1, h2, _, h4, _⟩ := putAt_ob us W 0 cs h (by omega)
  have : cs' = us.toArray := by
    apply Array.ext_getElem?
    intro i
    by_cases hi : i < us.length
    · have := h4 i us[i] (List.getElem?_eq_getElem hi)
      rw [Nat.zero_add] at this
      rw [this]; simp [hi]
    · rw [Array.getElem?_eq_none (by omega), Array.getElem?_eq_none (by simp; omega)]
  rw [← this]; exact h1
theorem putAt_ob_ne {g p j : Nat} {T : TypeId} {us : List Value} {W : World} {cs : Array Value} (h : Ob W g cs T) (hne : g ≠ p) : Ob (putAt W p j us) g cs T := by
  have hg := putAt_grown p us W j
  exact (hg.block g h.lt (by intro e; injection e with e; exact hne e)).trans h
theorem Try.info21Ds : (Try.prog.info? 55).map (fun i => (i.zero, i.size, i.bytes)) = some (some (.agg #[.int .u8 0, .int .u16 0, .int .u8 0, .slice none 0 0]), 4, 32) := by kernel_rfl
set_option maxRecDepth 100000 in
set_option maxHeartbeats 4000000 in
theorem descr_any (d : DsV) (w : World) (hr : d.rd w.heap.size w) (hf : d.l.length ≤ 1000) :
    Calls Try.prog 26 #[.agg #[.int .u8 d.n, .int .u16 d.i, .int .u8 d.a, .slice d.A d.l.length d.c]] w fun e w' => ∃ d' : DsV, e = .returned (dsv d') ∧ d'.abs = d.abs ∧ d'.own w.heap.size w' ∧ Below w.heap.size w w' := by
  have b0 := Gw.al (Gw.al (Below.refl w.heap.size w) (.cells #[.int .u8 d.n, .int .u16 d.i, .int .u8 d.a, .slice d.A d.l.length d.c] 55)) (.cells #[.int .u8 0, .int .u16 0, .int .u8 0, .slice none 0 0] 55)
  have G := (Ob.new w #[.int .u8 d.n, .int .u16 d.i, .int .u8 d.a, .slice d.A d.l.length d.c] 55).alloc (.cells #[.int .u8 0, .int .u16 0, .int .u8 0, .slice none 0 0] 55)
  have Z := Ob.new (w.alloc (.cells #[.int .u8 d.n, .int .u16 d.i, .int .u8 d.a, .slice d.A d.l.length d.c] 55)) #[.int .u8 0, .int .u16 0, .int .u8 0, .slice none 0 0] 55
  rw [World.size_alloc] at Z
  have k3 := G.blk.2.1 3 _ rfl
  have s1 : w.heap.size < ((w.alloc (.cells #[.int .u8 d.n, .int .u16 d.i, .int .u8 d.a, .slice d.A d.l.length d.c] 55)).alloc (.cells #[.int .u8 0, .int .u16 0, .int .u8 0, .slice none 0 0] 55)).heap.size := by simp only [World.size_alloc]; omega
  have s2 : w.heap.size + 1 < ((w.alloc (.cells #[.int .u8 d.n, .int .u16 d.i, .int .u8 d.a, .slice d.A d.l.length d.c] 55)).alloc (.cells #[.int .u8 0, .int .u16 0, .int .u8 0, .slice none 0 0] 55)).heap.size := by simp only [World.size_alloc]; omega
  go_enter Try.func26, Try.ntmps26
  go_wp2_with fail
  refine (eachSp d.l d.A d.c _ (Rd.up hr b0) (by omega)).mono ?_
  rintro e w1 ⟨A1, c1, rfl, o1, hb⟩
  replace b0 := Gw.call b0 hb
  replace G := G.call hb
  replace Z := Z.call hb
  clear k3 hb
  have k3 := G.blk.2.1 3 _ rfl
  have gf := G.blk.2.2
  have zf := Z.blk.2.2
  have G2 := G.set 3 (.slice A1 d.l.length c1)
  have g0 := G2.blk.2.1 0 _ rfl
  have g1 := G2.blk.2.1 1 _ rfl
  have g2 := G2.blk.2.1 2 _ rfl
  have g3 := G2.blk.2.1 3 _ rfl
  have Z2 := Z.far (p := w.heap.size) (j := 3) (by omega) (.slice A1 d.l.length c1)
  have z0 := Z2.blk.2.1 0 _ rfl
  have z1 := Z2.blk.2.1 1 _ rfl
  have z2 := Z2.blk.2.1 2 _ rfl
  have z3 := Z2.blk.2.1 3 _ rfl
  have HG := grown_set w1 ⟨w.heap.size, 3, none⟩ (.slice A1 d.l.length c1)
  have hop := putAt_grown (w.heap.size + 1) [.int .u8 d.n, .int .u16 d.i, .int .u8 d.a, .slice A1 d.l.length c1] (w1.setCell ⟨w.heap.size, 3, none⟩ (.slice A1 d.l.length c1)) 0
  have Z3 := putAt_all (us := [.int .u8 d.n, .int .u16 d.i, .int .u8 d.a, .slice A1 d.l.length c1]) Z2 rfl
  have m0 := Z3.blk.2.1 0 _ rfl
  have m1 := Z3.blk.2.1 1 _ rfl
  have m2 := Z3.blk.2.1 2 _ rfl
  have m3 := Z3.blk.2.1 3 _ rfl
  have o2 := Own.hop (Own.hop o1 HG s1) hop s2
  have b2 := Gw.hop (Gw.hop b0 HG (Nat.le_refl _)) hop (by omega)
  simp only [putAt] at m0 m1 m2 m3 o2 b2
  clear HG hop Z3 G G2 Z Z2 o1 b0
  go_wp2_with fail
  refine bodyPost_ret (v := dsv ⟨d.n, d.i, d.a, A1, d.l, c1⟩) (by simp [results, Try.results26, go_sem, m0, m1, m2, m3]) rfl ⟨_, rfl, rfl, Own.base_le o2 (by omega), b2⟩
end Go.Proofs.Ytbengmgfddnkhaa
