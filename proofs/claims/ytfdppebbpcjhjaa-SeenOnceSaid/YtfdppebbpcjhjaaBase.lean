/-
  Words for memory that all contracts of this claim speak: a slice that reads as a typed list, a slice of the call's own, worlds that grow.
-/
import Derived.Test.YtfdppebbpcjhjaaRows
import Derived.WalkKit
import Derived.WalkSpells
import Derived.WalkLawsBesides
import Derived.Lib.Hide
import Derived.Maps.AppendAt
import Derived.Deep.Draws
namespace Go.Proofs.Ytfdppebbpcjhjaa
open Go.RowKit

theorem ret_bool {a b : Bool} (h : a = b) : Ending.returned (.bool a) = .returned (.bool b) := by rw [h]
theorem ret_int {k : IntKind} {a b : Int} (h : a = b) : Ending.returned (.int k a) = .returned (.int k b) := by rw [h]
theorem ret_val {a b : Value} (h : a = b) : Ending.returned a = .returned b := by rw [h]

/-! Worlds: nothing that was there has changed. -/
theorem Gw.al {a w : World} (h : Below a.heap.size a w) (o : Obj) : Below a.heap.size a (w.alloc o) := h.alloc h.size o
theorem Gw.call {a w w' : World} (h : Below a.heap.size a w) (h' : Below w.heap.size w w') : Below a.heap.size a w' := h.trans (h'.mono h.size)
theorem Gw.drewN {B : Nat} {a w : World} (h : Below B a w) (n : Nat) : Below B a (w.drewN n) := ⟨h.os, h.tape, h.output, h.size, h.block⟩
theorem Gw.st {a w : World} (h : Below a.heap.size a w) {p : Addr} (hp : a.heap.size ≤ p.block) (u : Value) : Below a.heap.size a (w.setCell p u) := h.setCell hp u
theorem Gw.gr {a w w' : World} {row : Option Nat} (h : Below a.heap.size a w) (hg : w.grownBy w' row) (hr : ∀ k, row = some k → a.heap.size ≤ k) : Below a.heap.size a w' := h.grown hg h.size hr
theorem Gw.sub {a w : World} (h : Below a.heap.size a w) : a.heap.size ≤ w.heap.size := h.size
theorem Gw.cells {B : Nat} {a w : World} (h : Below B a w) : ∀ b o, b < B → w.cell? ⟨b, o, none⟩ = a.cell? ⟨b, o, none⟩ := fun b o hb => h.cell (p := ⟨b, o, none⟩) hb
theorem Gw.marks {B : Nat} {a w : World} (h : Below B a w) : ∀ b o, b < B → w.frozen? ⟨b, o, none⟩ = a.frozen? ⟨b, o, none⟩ := fun b o hb => h.frozen (p := ⟨b, o, none⟩) hb

theorem Gw.none_ {w w' : World} (hg : w.grownBy w' none) : Below w.heap.size w w' := ⟨hg.os, hg.tape, hg.output, hg.size, fun k hk => hg.block k hk (by simp)⟩
/-- a row of the call's own is written: what is not that row is as it was -/
theorem Gw.cell_other {w w' : World} {row : Option Nat} (hg : w.grownBy w' row) {g o : Nat} (hg2 : g < w.heap.size) (hne : ∀ k, row = some k → g ≠ k) : w'.cell? ⟨g, o, none⟩ = w.cell? ⟨g, o, none⟩ :=
  World.cell?_of_block (hg.block g hg2 (fun e => hne g e.symm rfl))

/-- block g begins with the cells cs, and is not frozen there -/
def Blk (w : World) (g : Nat) (cs : List Value) : Prop := g < w.heap.size ∧ (∀ (j : Nat) (c : Value), cs[j]? = some c → w.cell? ⟨g, j, none⟩ = some c) ∧ ∀ j, w.frozen? ⟨g, j, none⟩ = false
theorem Blk.call {w w' : World} {g : Nat} {cs : List Value} (h : Blk w g cs) (hb : Below w.heap.size w w') : Blk w' g cs :=
  ⟨Nat.lt_of_lt_of_le h.1 hb.size, fun j c hj => (hb.cell (p := ⟨g, j, none⟩) h.1).trans (h.2.1 j c hj), fun j => (hb.frozen (p := ⟨g, j, none⟩) h.1).trans (h.2.2 j)⟩
theorem Blk.below {w w' : World} {g B : Nat} {cs : List Value} (h : Blk w g cs) (hb : Below B w w') (hB : g < B) : Blk w' g cs :=
  ⟨Nat.lt_of_lt_of_le h.1 hb.size, fun j c hj => (hb.cell (p := ⟨g, j, none⟩) hB).trans (h.2.1 j c hj), fun j => (hb.frozen (p := ⟨g, j, none⟩) hB).trans (h.2.2 j)⟩
theorem Blk.grown {w w' : World} {g : Nat} {cs : List Value} {row : Option Nat} (h : Blk w g cs) (hg : w.grownBy w' row) (hne : ∀ k, row = some k → g ≠ k) : Blk w' g cs :=
  ⟨Nat.lt_of_lt_of_le h.1 hg.size, fun j c hj => (Gw.cell_other hg h.1 hne).trans (h.2.1 j c hj), fun j => by
    rw [World.frozen?_of_block (hg.block g h.1 (fun e => hne g e.symm rfl))]; exact h.2.2 j⟩
theorem Blk.new (w : World) (cs : Array Value) (E : TypeId) : Blk (w.alloc (.cells cs E)) w.heap.size cs.toList :=
  ⟨by simp, fun j c hj => by rw [World.cell?_alloc_at _ _ _ _ rfl, ← hj]; simp, fun j => World.frozen?_alloc_at _ _ _ _ (by simp)⟩
theorem Blk.alloc {w : World} {g : Nat} {cs : List Value} (h : Blk w g cs) (o : Obj) : Blk (w.alloc o) g cs := h.call ((Below.refl _ _).alloc (Nat.le_refl _) o)
theorem Blk.drewN {w : World} {g : Nat} {cs : List Value} (h : Blk w g cs) (n : Nat) : Blk (w.drewN n) g cs := h
theorem Blk.drew {w : World} {g : Nat} {cs : List Value} (h : Blk w g cs) : Blk w.drew g cs := h
theorem Blk.set {w : World} {g : Nat} {cs : List Value} (h : Blk w g cs) (j : Nat) (u : Value) (hj : j < cs.length) : Blk (w.setCell ⟨g, j, none⟩ u) g (cs.set j u) := by
  refine ⟨by have := h.1; simpa [World.setCell] using this, fun i c hi => ?_, fun i => by rw [World.frozen?_setCell]; exact h.2.2 i⟩
  rw [List.getElem?_set] at hi
  split at hi
  · rename_i hji
    subst hji
    first | (rw [if_pos hj] at hi; cases hi) | cases hi
    exact World.cell?_setCell_same _ _ _ (h.2.1 j _ (List.getElem?_eq_getElem hj))
  · rename_i hji
    exact (World.cell?_setCell_other _ _ _ _ (by intro e; injection e with _ e _; exact hji e)).trans (h.2.1 i c hi)
theorem Blk.far {w : World} {g g' j : Nat} {cs : List Value} (h : Blk w g cs) (hne : g ≠ g') (u : Value) : Blk (w.setCell ⟨g', j, none⟩ u) g cs :=
  ⟨by have := h.1; simpa [World.setCell] using this, fun i c hi => (World.cell?_setCell_other _ _ _ _ (by intro e; injection e with e _ _; exact hne e.symm)).trans (h.2.1 i c hi), fun i => by rw [World.frozen?_setCell]; exact h.2.2 i⟩
theorem Gw.setSize (w : World) (a : Addr) (u : Value) : (w.setCell a u).heap.size = w.heap.size := by simp [World.setCell]
theorem Blk.lt {w : World} {g : Nat} {cs : List Value} (h : Blk w g cs) : g < w.heap.size := h.1
theorem Blk.c1 {w : World} {g : Nat} {a : Value} {r : List Value} (h : Blk w g (a :: r)) : w.cell? ⟨g, 0, none⟩ = some a := h.2.1 0 a rfl
theorem Blk.c3 {w : World} {g : Nat} {a b c : Value} {r : List Value} (h : Blk w g (a :: b :: c :: r)) : w.cell? ⟨g, 0, none⟩ = some a ∧ w.cell? ⟨g, 1, none⟩ = some b ∧ w.cell? ⟨g, 2, none⟩ = some c :=
  ⟨h.2.1 0 a rfl, h.2.1 1 b rfl, h.2.1 2 c rfl⟩

/-! Lists of cells. -/
theorem flat_len {α : Type} {enc : α → List Value} {sz : Nat} (hs : ∀ x, (enc x).length = sz) (l : List α) : (l.flatMap enc).length = l.length * sz := by
  induction l with
  | nil => simp
  | cons x l ih => simp [hs x, ih, Nat.add_mul, Nat.add_comm]
theorem flat_at {α : Type} {enc : α → List Value} {sz : Nat} (hs : ∀ x, (enc x).length = sz) (l : List α) : ∀ (k : Nat) (x : α), l[k]? = some x → ∀ j, j < sz → (l.flatMap enc)[k * sz + j]? = (enc x)[j]? := by
  induction l with
  | nil => intro k x h; simp at h
  | cons y l ih =>
    intro k x h j hj
    rw [List.flatMap_cons]
    cases k with
    | zero =>
      simp at h; subst h
      rw [Nat.zero_mul, Nat.zero_add, List.getElem?_append_left (by rw [hs]; exact hj)]
    | succ k =>
      rw [List.getElem?_append_right (by rw [hs, Nat.add_mul]; omega), hs]
      have e : (k + 1) * sz + j - sz = k * sz + j := by rw [Nat.add_mul]; omega
      rw [e]
      exact ih k x (by simpa using h) j hj

/-! A slice value whose elements read as the list 'l'; it lies below block B. -/
def Rd {α : Type} (enc : α → List Value) (sz : Nat) (B : Nat) (w : World) (A : Option Addr) (l : List α) : Prop :=
  0 < l.length → ∃ b o, A = some ⟨b, o, none⟩ ∧ b < B ∧ ∀ (k : Nat) (x : α), l[k]? = some x → ∀ (j : Nat) (c : Value), (enc x)[j]? = some c → w.cell? ⟨b, o + k * sz + j, none⟩ = some c

section
variable {α : Type} {enc : α → List Value} {sz B B' : Nat} {w w' : World} {A : Option Addr} {l : List α}
theorem Rd.nil_ : Rd enc sz B w A [] := fun h => absurd h (by simp)
theorem Rd.below (h : Rd enc sz B w A l) (hb : Below B w w') : Rd enc sz B w' A l := fun hl => by
  obtain ⟨b, o, hA, hB, hc⟩ := h hl
  exact ⟨b, o, hA, hB, fun k x hx j c hj => (hb.cell (p := ⟨b, _, none⟩) hB).trans (hc k x hx j c hj)⟩
theorem Rd.mono (h : Rd enc sz B w A l) (hB : B ≤ B') : Rd enc sz B' w A l := fun hl => by
  obtain ⟨b, o, hA, hb, hc⟩ := h hl
  exact ⟨b, o, hA, by omega, hc⟩
/-- kept and at the newer world's own size -/
theorem Rd.up {w0 : World} (h : Rd enc sz w0.heap.size w0 A l) (hb : Below w0.heap.size w0 w) : Rd enc sz w.heap.size w A l := (h.below hb).mono hb.size
theorem Rd.drewN (h : Rd enc sz B w A l) (n : Nat) : Rd enc sz B (w.drewN n) A l := h
theorem Rd.drew (h : Rd enc sz B w A l) : Rd enc sz B w.drew A l := h
theorem Rd.keep {row : Option Nat} (h : Rd enc sz B w A l) (hg : w.grownBy w' row) (hB : B ≤ w.heap.size) (hr : ∀ k, row = some k → B ≤ k) : Rd enc sz B w' A l :=
  h.below ((Below.refl B w).grown hg hB hr)
theorem Rd.at_ (h : Rd enc sz B w A l) {k : Nat} {x : α} (hx : l[k]? = some x) : ∃ b o, A = some ⟨b, o, none⟩ ∧ b < B ∧ ∀ (j : Nat) (c : Value), (enc x)[j]? = some c → w.cell? ⟨b, o + k * sz + j, none⟩ = some c := by
  have hk : k < l.length := (List.getElem?_eq_some_iff.1 hx).1
  obtain ⟨b, o, hA, hb, hc⟩ := h (by omega)
  exact ⟨b, o, hA, hb, hc k x hx⟩
/-- a part from k on, as 's[k:]' makes it -/
theorem Rd.cut (h : Rd enc sz B w A l) {k cap : Nat} (hc : l.length ≤ cap) : Rd enc sz B w (if cap = k then A else A.map (·.add (k * sz))) (l.drop k) := fun hl => by
  simp only [List.length_drop] at hl
  obtain ⟨b, o, rfl, hb, hcell⟩ := h (by omega)
  rw [if_neg (by omega)]
  refine ⟨b, o + k * sz, ?_, hb, fun j x hx i c hi => ?_⟩
  · simp only [Option.map_some, Addr.add]
    split
    · rename_i h0; rw [h0]; rfl
    · rfl
  · rw [List.getElem?_drop] at hx
    have := hcell (k + j) x hx i c hi
    rwa [show o + (k + j) * sz + i = o + k * sz + j * sz + i by rw [Nat.add_mul]; omega] at this
theorem Rd.take (h : Rd enc sz B w A l) (k : Nat) : Rd enc sz B w A (l.take k) := fun hl => by
  have hk : 0 < l.length := by simp only [List.length_take] at hl; omega
  obtain ⟨b, o, hA, hb, hc⟩ := h hk
  refine ⟨b, o, hA, hb, fun j x hx i c hi => hc j x ?_ i c hi⟩
  rw [List.getElem?_take] at hx
  split at hx
  · exact hx
  · simp at hx
/-- a literal's block -/
theorem Rd.lit (hs : ∀ x, (enc x).length = sz) (w : World) (g : Nat) (hg : g = w.heap.size) (cs : Array Value) (E : TypeId) (l : List α) (hcs : cs.toList = l.flatMap enc) : Rd enc sz (w.heap.size + 1) (w.alloc (.cells cs E)) (some ⟨g, 0, none⟩) l := fun _ => by
  subst hg
  refine ⟨w.heap.size, 0, rfl, by omega, fun k x hx j c hj => ?_⟩
  rw [World.cell?_alloc_at _ _ _ _ rfl]
  have hj' : j < sz := by rw [← hs x]; exact (List.getElem?_eq_some_iff.1 hj).1
  have := flat_at hs l k x hx j hj'
  rw [← hcs, hj] at this
  rw [← this]
  simp
end

/-! A slice of the call's own: nil, or at the head of a row in a block from 'base' on. -/
def Own {α : Type} (enc : α → List Value) (sz : Nat) (E : TypeId) (base : Nat) (w : World) (v : Value) (l : List α) : Prop := w.ownsRow base E sz v l.length (l.flatMap enc)

theorem own_blk {a : Addr} {n c k : Nat} (h : (Value.slice (some a) n c).ownBlock = some k) : k = a.block := by
  injection h with h; exact h.symm

section
variable {α : Type} {enc : α → List Value} {sz base : Nat} {E : TypeId} {w w' : World} {v : Value} {l : List α}
theorem Own.nil_ : Own enc sz E base w (.slice none 0 0) [] := World.ownsRow_nil _ _ _ _
theorem Own.lt (h : Own enc sz E base w v l) : ∀ k, v.ownBlock = some k → base ≤ k := fun k hk => (World.ownsRow.lt h k hk).1
theorem Own.base_le {base' : Nat} (h : Own enc sz E base w v l) (hb : base' ≤ base) : Own enc sz E base' w v l := by
  refine ⟨h.1, h.2.imp id ?_⟩
  rintro ⟨g, cap, cur, h1, h2, h3⟩
  exact ⟨g, cap, cur, h1, Nat.le_trans hb h2, h3⟩
theorem Own.alloc (h : Own enc sz E base w v l) (o : Obj) : Own enc sz E base (w.alloc o) v l := World.ownsRow.alloc h o
theorem Own.drew (h : Own enc sz E base w v l) : Own enc sz E base w.drew v l := World.ownsRow.drew h
theorem Own.keep {row : Option Nat} (h : Own enc sz E base w v l) (hg : w.grownBy w' row) (hne : v.ownBlock = none ∨ v.ownBlock ≠ row) : Own enc sz E base w' v l := World.ownsRow.kept h hg hne
theorem Own.below (h : Own enc sz E base w v l) (hb : Below w.heap.size w w') : Own enc sz E base w' v l :=
  World.ownsRow.kept (row := none) h ⟨hb.os, hb.tape, hb.output, hb.size, fun k hk _ => hb.block k hk⟩ (by cases hv : v.ownBlock <;> simp)
theorem Own.len (h : Own enc sz E base w v l) : ∃ A c, v = .slice A l.length c ∧ l.length ≤ c := by
  rcases h.2 with ⟨rfl, h0⟩ | ⟨g, cap, cur, rfl, _, _, hn, _⟩
  · exact ⟨none, 0, by rw [h0], by omega⟩
  · exact ⟨_, _, rfl, hn⟩
theorem Own.rd {A : Option Addr} {n c : Nat} (hs : ∀ x, (enc x).length = sz) (h : Own enc sz E base w (.slice A n c) l) : Rd enc sz w.heap.size w A l := fun hl => by
  rcases h.2 with ⟨_, h0⟩ | ⟨g, cap, cur, hv, hg, hh, hn, hm, hcs, ht⟩
  · omega
  · injection hv with hA _ _
    refine ⟨g, 0, hA, ?_, fun k x hx j u hj => ?_⟩
    · rcases Nat.lt_or_ge g w.heap.size with hlt | hge
      · exact hlt
      · rw [Array.getElem?_eq_none hge] at hh; cases hh
    · have hj' : j < sz := by rw [← hs x]; exact (List.getElem?_eq_some_iff.1 hj).1
      have hx' := flat_at hs l k x hx j hj'
      rw [hj] at hx'
      have hc := World.ownsRow.cells h (g := g) (by rw [hA]; rfl) (k * sz + j) u hx'
      have e : (({ block := g, off := 0 } : Addr).add (k * sz + j)) = ⟨g, 0 + k * sz + j, none⟩ := by
        unfold Addr.add
        split
        · rename_i h0; first | (simp; done) | (simp; omega)
        · simp
      rw [e] at hc
      exact hc
theorem Own.lit (w : World) (cs : Array Value) (n : Nat) (hb : base ≤ w.heap.size) (hm : n ≤ maxLen) (hs : cs.size = n * sz) (hl : l.length = n) (hcs : cs.toList = l.flatMap enc) :
    Own enc sz E base (w.alloc (.cells cs E)) (.slice (some ⟨w.heap.size, 0, none⟩) n n) l := by
  unfold Own
  rw [hl, ← hcs]
  exact World.ownsRow_lit w cs n hb hm hs
end

/-! append onto a slice of the call's own, whatever the source. -/
section
variable {P : Program}
theorem run_app (w : World) {α : Type} {enc : α → List Value} {sz : Nat} (base : Nat) (t ty e : TypeId) (i : TypeInfo) (z : Value) (bytes : Nat) (ht : P.underlying t = some (.slice e)) (hi : P.info? e = some i) (hz : i.zero = some z)
    (hsize : i.size = sz) (hby : i.bytes = bytes) (hzs : z.cells.size = sz) (hsz : 0 < sz) (hs : ∀ x, (enc x).length = sz) (h1 : ∀ x, ∀ u ∈ enc x, u.oneCell' = true)
    (v : Value) (l : List α) (hown : Own enc sz e base w v l) (B : Nat) (A : Option Addr) (c : Nat) (l2 : List α) (hr : Rd enc sz B w A l2)
    (hbd : (l.length + l2.length) * bytes ≤ 140737488355328) (h63 : l.length + l2.length ≤ 140737488355328) (hbase : base ≤ w.heap.size) :
    ∃ A' c' w', (Builtin.append_ #[t, t] ty #[v, .slice A l2.length c]).run P w = .ok (.slice A' (l.length + l2.length) c') w' ∧ Own enc sz e base w' (.slice A' (l.length + l2.length) c') (l ++ l2) ∧ w.grownBy w' v.ownBlock := by
  rcases A with _ | ad
  · have hl2 : l2 = [] := by
      rcases l2 with _ | ⟨x, l2⟩
      · rfl
      · obtain ⟨b, o, h, _⟩ := hr (by simp); cases h
    subst hl2
    have hrun : (Builtin.append_ #[t, t] ty #[v, .slice none 0 c]).run P w = .ok v w := by
      rcases hown.2 with ⟨rfl, h0⟩ | ⟨g, cap, cur, rfl, _, _, hnc, _⟩
      · simp [Builtin.append_, run_underlying ht, sizeOf, typeInfo, hi, Builtin.lenOf, Builtin.firstCells]
      · simp [Builtin.append_, run_underlying ht, sizeOf, typeInfo, hi, Builtin.lenOf, Builtin.firstCells, hnc, storeCells]
    obtain ⟨A', c', hv, _⟩ := hown.len
    refine ⟨A', c', w, ?_, ?_, World.grownBy.refl w _⟩
    · rw [hv] at hrun ⊢; simpa using hrun
    · rw [hv] at hown; simpa using hown
  · have hcells : ∀ j u, (l2.flatMap enc)[j]? = some u → w.cell? (ad.add j) = some u := by
      intro j u hu
      have hjl : j < l2.length * sz := by rw [← flat_len hs]; exact (List.getElem?_eq_some_iff.1 hu).1
      have hl : 0 < l2.length := by
        rcases Nat.eq_zero_or_pos l2.length with h0 | h0
        · rw [h0] at hjl; omega
        · exact h0
      obtain ⟨b, o, hA, _, hc⟩ := hr hl
      injection hA with hA
      subst hA
      have hk : j / sz < l2.length := Nat.div_lt_of_lt_mul (by rw [Nat.mul_comm]; exact hjl)
      have hx : l2[j / sz]? = some l2[j / sz] := List.getElem?_eq_getElem hk
      have hm : j % sz < sz := Nat.mod_lt _ hsz
      have hf := flat_at hs l2 (j / sz) _ hx (j % sz) hm
      have hdm : j / sz * sz + j % sz = j := by rw [Nat.mul_comm]; exact Nat.div_add_mod j sz
      rw [hdm, hu] at hf
      have := hc (j / sz) _ hx (j % sz) u hf.symm
      rw [Nat.add_assoc, hdm] at this
      unfold Addr.add
      split
      · rename_i h0; subst h0; simpa using this
      · exact this
    have h1' : ∀ u ∈ l2.flatMap enc, u.oneCell' = true := fun u hu => by
      obtain ⟨x, _, hx⟩ := List.mem_flatMap.1 hu
      exact h1 x u hx
    obtain ⟨v', w', hrun, h2, h3, _⟩ := run_append_own (P := P) w base t ty e i z sz bytes ht hi hz hsize hby hzs hsz v l.length _ hown ad l2.length c (l2.flatMap enc) (flat_len hs l2) hcells h1' (by unfold maxLen; omega) hbd hbase
    have h2' : Own enc sz e base w' v' (l ++ l2) := by
      unfold Own
      rw [List.length_append, List.flatMap_append]
      exact h2
    obtain ⟨A', c', hv, _⟩ := h2'.len
    rw [List.length_append] at hv
    subst hv
    exact ⟨A', c', w', hrun, h2', h3⟩

theorem wp_app {o : Oper} {a : Act} {K : Act → World → Prop} {Q : Exit → Act → World → Prop} (w : World) (s x : Operand) (t : TypeId)
    (ho : o.op = .call { callee := .builtin .append, args := #[s, x], argTypes := #[t, t] })
    {α : Type} {enc : α → List Value} {sz : Nat} (base : Nat) (e : TypeId) (i : TypeInfo) (z : Value) (bytes : Nat) (ht : P.underlying t = some (.slice e)) (hi : P.info? e = some i) (hz : i.zero = some z)
    (hsize : i.size = sz) (hby : i.bytes = bytes) (hzs : z.cells.size = sz) (hsz : 0 < sz) (hs : ∀ x, (enc x).length = sz) (h1 : ∀ x, ∀ u ∈ enc x, u.oneCell' = true)
    (v : Value) (l : List α) (hv : a.eval s = v) (hown : Own enc sz e base w v l) (n : Nat) (hn : n = l.length) (B : Nat) (A : Option Addr) (m c : Nat) (l2 : List α) (hx : a.eval x = .slice A m c) (hm : m = l2.length) (hr : Rd enc sz B w A l2)
    (hbd : (n + m) * bytes ≤ 140737488355328) (h63 : n + m ≤ 140737488355328) (hbase : base ≤ w.heap.size)
    (h : ∀ A' c' w', Own enc sz e base w' (.slice A' (n + m) c') (l ++ l2) → w.grownBy w' v.ownBlock → K (a.put o.dst (.slice A' (n + m) c')) w') : o.wp P a w K Q := by
  subst hn hm
  obtain ⟨A', c', w', hrun, h2, h3⟩ := run_app (P := P) w base t o.type e i z bytes ht hi hz hsize hby hzs hsz hs h1 v l hown B A c l2 hr hbd h63 hbase
  unfold Oper.wp execOp
  simp only [ho, resolve, invoke, builtin, Sem.run_bind, Sem.run_pure, Result.andThen_ok, List.map_toArray, List.map_cons, List.map_nil, hv, hx, hrun]
  exact h A' c' w' h2 h3

theorem wpList_app {ops : Array Oper} {rest : List Oper} {o : Oper} {a : Act} {Q : Exit → Act → World → Prop} (w : World) (hgd : o.guard = none) (s x : Operand) (t : TypeId)
    (ho : o.op = .call { callee := .builtin .append, args := #[s, x], argTypes := #[t, t] })
    {α : Type} {enc : α → List Value} {sz : Nat} (base : Nat) (e : TypeId) (i : TypeInfo) (z : Value) (bytes : Nat) (ht : P.underlying t = some (.slice e)) (hi : P.info? e = some i) (hz : i.zero = some z)
    (hsize : i.size = sz) (hby : i.bytes = bytes) (hzs : z.cells.size = sz) (hsz : 0 < sz) (hs : ∀ x, (enc x).length = sz) (h1 : ∀ x, ∀ u ∈ enc x, u.oneCell' = true)
    (v : Value) (l : List α) (hv : a.eval s = v) (hown : Own enc sz e base w v l) (n : Nat) (hn : n = l.length) (B : Nat) (A : Option Addr) (m c : Nat) (l2 : List α) (hx : a.eval x = .slice A m c) (hm : m = l2.length) (hr : Rd enc sz B w A l2)
    (hbd : (n + m) * bytes ≤ 140737488355328) (h63 : n + m ≤ 140737488355328) (hbase : base ≤ w.heap.size)
    (h : ∀ A' c' w', Own enc sz e base w' (.slice A' (n + m) c') (l ++ l2) → w.grownBy w' v.ownBlock → wpList P ops Q rest (a.put o.dst (.slice A' (n + m) c')) w') : wpList P ops Q (o :: rest) a w :=
  wpList_plain hgd fun _ hK => wp_app w s x t ho base e i z bytes ht hi hz hsize hby hzs hsz hs h1 v l hv hown n hn B A m c l2 hx hm hr hbd h63 hbase fun A' c' w' h2 h3 => hK _ _ (h A' c' w' h2 h3)
end

end Go.Proofs.Ytfdppebbpcjhjaa
