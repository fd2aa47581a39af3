/-
  Reports: a slice of slices of marks, as a call's own and as read.
-/
import Derived.Test.YtcclnfpegepcnaaIds
import Derived.Test.YtcclnfpegepcnaaObj
import Derived.Test.YtcclnfpegepcnaaOwnPut
namespace Go.Proofs.Ytcclnfpegepcnaa
open Go.RowKit
theorem Try.infoMk : (Try.prog.info? 40).map (fun i => (i.zero, i.size, i.bytes)) = some (some (.agg #[.int .u8 0, .int .u16 0, .int .u32 0]), 3, 8) := by kernel_rfl
theorem Try.infoMkS : (Try.prog.info? 29).map (fun i => (i.zero, i.size, i.bytes)) = some (some (.slice none 0 0), 1, 24) := by kernel_rfl
/-- one row of reports -/
structure RsV where
  A : Option Addr
  l : List Id
  c : Nat
deriving Inhabited
abbrev RsV.v (x : RsV) : Value := .slice x.A x.l.length x.c
def rsc (x : RsV) : List Value := [.slice x.A x.l.length x.c]
theorem rsc_len (x : RsV) : (rsc x).length = 1 := rfl
theorem rsc_one (x : RsV) : ∀ u ∈ rsc x, u.oneCell' = true := by intro u hu; simp [rsc] at hu; rcases hu with rfl; rfl
/-! Two own slices of unlike element types lie in unlike blocks. -/
theorem own_unlike {α β : Type} {enc : α → List Value} {enc2 : β → List Value} {sz sz2 base base2 : Nat} {E E2 : TypeId} {w : World} {u v : Value} {l : List α} {l2 : List β} (h : Own enc sz E base w u l) (h2 : Own enc2 sz2 E2 base2 w v l2) (hne : E ≠ E2) : Apart u v := fun k hk hv => by
  rcases h.2 with ⟨rfl, _⟩ | ⟨g, cap, cur, rfl, _, hg, _⟩
  · simp [Value.ownBlock] at hk
  · rcases h2.2 with ⟨rfl, _⟩ | ⟨g2, cap2, cur2, rfl, _, hg2, _⟩
    · simp [Value.ownBlock] at hv
    · have e1 := own_blk hk
      have e2 := own_blk hv
      simp only at e1 e2
      rw [← e1] at hg
      rw [← e2] at hg2
      have := hg.symm.trans hg2
      simp at this
      exact hne this.2
/-! Reports of the call's own. -/
structure RepX (base : Nat) (W : World) (v : Value) (rs : List RsV) : Prop where
  out : Own rsc 1 29 base W v rs
  row : ∀ x ∈ rs, Own idc 3 40 base W x.v x.l
  far : rs.Pairwise (fun x y => Apart x.v y.v)
def RepO (base : Nat) (W : World) (v : Value) (rows : List (List Id)) : Prop := ∃ rs : List RsV, rs.map RsV.l = rows ∧ RepX base W v rs
/-- reports that are read -/
def Rep (B : Nat) (W : World) (A : Option Addr) (rows : List (List Id)) : Prop := ∃ rs : List RsV, rs.map RsV.l = rows ∧ Rd rsc 1 B W A rs ∧ ∀ x ∈ rs, Rd idc 3 B W x.A x.l
section
variable {base B B' : Nat} {W W' : World} {v : Value} {A : Option Addr} {rs : List RsV} {rows : List (List Id)}
theorem Rep.below (h : Rep B W A rows) (hb : Below B W W') : Rep B W' A rows := by
  obtain ⟨rs, h1, h2, h3⟩ := h
  exact ⟨rs, h1, h2.below hb, fun x hx => (h3 x hx).below hb⟩
theorem Rep.up (h : Rep W.heap.size W A rows) (hb : Below W.heap.size W W') : Rep W'.heap.size W' A rows := by
  obtain ⟨rs, h1, h2, h3⟩ := h
  exact ⟨rs, h1, h2.up hb, fun x hx => (h3 x hx).up hb⟩
theorem Rep.nil_ : Rep B W A [] := ⟨[], rfl, Rd.nil_, (fun x hx => by cases hx)⟩
theorem Rep.at_ (h : Rep B W A rows) {k : Nat} {row : List Id} (hk : rows[k]? = some row) : ∃ b o A' c', A = some ⟨b, o, none⟩ ∧ b < B ∧ W.cell? ⟨b, o + k, none⟩ = some (.slice A' row.length c') ∧ Rd idc 3 B W A' row := by
  obtain ⟨rs, rfl, h2, h3⟩ := h
  rw [List.getElem?_map] at hk
  cases hx : rs[k]? with
  | none => rw [hx] at hk; cases hk
  | some x =>
    rw [hx] at hk
    obtain rfl : x.l = row := by simpa using hk
    obtain ⟨b, o, hA, hb, hc⟩ := h2.at_ hx
    have := hc 0 _ rfl
    rw [Nat.mul_one, Nat.add_zero] at this
    exact ⟨b, o, x.A, x.c, hA, hb, this, h3 x (List.mem_of_getElem? hx)⟩
theorem RepX.keep (h : RepX base W v rs) (hb : Below W.heap.size W W') : RepX base W' v rs := ⟨h.out.below hb, fun x hx => (h.row x hx).below hb, h.far⟩
theorem RepO.keep (h : RepO base W v rows) (hb : Below W.heap.size W W') : RepO base W' v rows := by
  obtain ⟨rs, h1, h2⟩ := h
  exact ⟨rs, h1, h2.keep hb⟩
theorem RepX.base_le (h : RepX base W v rs) (hb : B ≤ base) : RepX B W v rs := ⟨h.out.base_le hb, fun x hx => (h.row x hx).base_le hb, h.far⟩
theorem RepO.base_le (h : RepO base W v rows) (hb : B ≤ base) : RepO B W v rows := by
  obtain ⟨rs, h1, h2⟩ := h
  exact ⟨rs, h1, h2.base_le hb⟩
theorem RepO.nil_ : RepO base W (.slice none 0 0) [] := ⟨[], rfl, ⟨Own.nil_, (fun x hx => by cases hx), List.Pairwise.nil⟩⟩
theorem RepO.rd {n c : Nat} (h : RepO base W (.slice A n c) rows) : Rep W.heap.size W A rows := by
  obtain ⟨rs, h1, h2⟩ := h
  exact ⟨rs, h1, h2.out.rd rsc_len, fun x hx => (h2.row x hx).rd idc_len⟩
theorem RepX.low (h : RepX base W v rs) {p : Addr} (hp : p.block < base) (u : Value) : RepX base (W.setCell p u) v rs :=
  ⟨ownsRow_setCell_below h.out hp u, fun x hx => ownsRow_setCell_below (h.row x hx) hp u, h.far⟩
/-- a new row at the end -/
theorem RepX.snoc (h : RepX base W v rs) {v' : Value} {x : RsV} (hg : W.grownBy W' v.ownBlock) (ho : Own rsc 1 29 base W' v' (rs ++ [x])) (hx : Own idc 3 40 base W x.v x.l) (hf : ∀ y ∈ rs, Apart y.v x.v) : RepX base W' v' (rs ++ [x]) := by
  refine ⟨ho, fun y hy => ?_, ?_⟩
  · have : Own idc 3 40 base W y.v y.l := by
      rcases List.mem_append.1 hy with hy | hy
      · exact h.row y hy
      · obtain rfl : y = x := by simpa using hy
        exact hx
    exact Apart.keep this (own_unlike this h.out (by decide)) hg
  · rw [List.pairwise_append]
    exact ⟨h.far, by simp, fun y hy z hz => by obtain rfl : z = x := by simpa using hz
                                               exact hf y hy⟩
/-- one row is put -/
theorem RepX.put {g n c k : Nat} {x0 x : RsV} (h : RepX base W (.slice (some ⟨g, 0, none⟩) n c) rs) (hk : rs[k]? = some x0) (hx : Own idc 3 40 base W x.v x.l) (hf : ∀ y ∈ rs, Apart y.v x.v ∧ Apart x.v y.v) : RepX base (W.setCell ⟨g, k, none⟩ (.slice x.A x.l.length x.c)) (.slice (some ⟨g, 0, none⟩) n c) (rs.set k x) := by
  have ho := Own.put1 rsc_len h.out hk (j := 0) (by omega) x (.slice x.A x.l.length x.c) rfl
  rw [Nat.mul_one, Nat.add_zero] at ho
  refine ⟨ho, fun y hy => ?_, ?_⟩
  · have hy' : Own idc 3 40 base W y.v y.l := by
      rcases List.mem_or_eq_of_mem_set hy with h1 | h1
      · exact h.row y h1
      · rw [h1]; exact hx
    refine Own.far hy' (fun b hb e => ?_) _
    exact own_unlike hy' h.out (by decide) b hb (by simp only at e; rw [e]; rfl)
  · rw [List.pairwise_iff_getElem]
    intro i j hi hj hij
    have hp := (List.pairwise_iff_getElem.1 h.far) i j (by simpa using hi) (by simpa using hj) hij
    rw [List.getElem_set, List.getElem_set]
    split
    · split
      · omega
      · exact (hf _ (List.getElem_mem _)).2
    · split
      · exact (hf _ (List.getElem_mem _)).1
      · exact hp
/-- one mark of a row is put -/
theorem RepX.mark {g k j : Nat} {x : RsV} {o : Id} (h : RepX base W v rs) (hk : rs[k]? = some x) (hA : x.A = some ⟨g, 0, none⟩) (hj : x.l[j]? = some o) (m : Id) :
    RepX base (((W.setCell ⟨g, j * 3, none⟩ (.int .u8 m.n)).setCell ⟨g, j * 3 + 1, none⟩ (.int .u16 m.i)).setCell ⟨g, j * 3 + 2, none⟩ (.int .u32 m.s)) v (rs.set k ⟨x.A, x.l.set j m, x.c⟩) := by
  obtain ⟨A, l, c⟩ := x
  simp only at hA hj
  subst hA
  have hx : Own idc 3 40 base W (.slice (some ⟨g, 0, none⟩) l.length c) l := h.row _ (List.mem_of_getElem? hk)
  have hkl : k < rs.length := (List.getElem?_eq_some_iff.1 hk).1
  have hjl : j < l.length := (List.getElem?_eq_some_iff.1 hj).1
  have hb : (Value.slice (some ⟨g, 0, none⟩) l.length c).ownBlock = some g := rfl
  have p0 := Own.put1 idc_len hx hj (j := 0) (by omega) ⟨m.n, o.i, o.s⟩ (.int .u8 m.n) rfl
  rw [Nat.add_zero] at p0
  have p1 := Own.put1 idc_len p0 (k := j) (x := ⟨m.n, o.i, o.s⟩) (by simp [hjl]) (j := 1) (by omega) ⟨m.n, m.i, o.s⟩ (.int .u16 m.i) rfl
  have p2 := Own.put1 idc_len p1 (k := j) (x := ⟨m.n, m.i, o.s⟩) (by simp [hjl]) (j := 2) (by omega) ⟨m.n, m.i, m.s⟩ (.int .u32 m.s) rfl
  simp only [List.set_set] at p2
  have hout : ∀ b, v.ownBlock = some b → b ≠ g := fun b hv e => own_unlike h.out hx (by decide) b hv (by rw [e]; rfl)
  have ho := Own.far (Own.far (Own.far h.out (p := ⟨g, j * 3, none⟩) hout (.int .u8 m.n)) (p := ⟨g, j * 3 + 1, none⟩) hout (.int .u16 m.i)) (p := ⟨g, j * 3 + 2, none⟩) hout (.int .u32 m.s)
  have hset : (rs.set k ⟨some ⟨g, 0, none⟩, l.set j m, c⟩).flatMap rsc = rs.flatMap rsc := by
    rw [flat_set rsc_len rs k _ ⟨some ⟨g, 0, none⟩, l.set j m, c⟩ 0 (.slice (some ⟨g, 0, none⟩) l.length c) hk (by omega) (by simp [rsc])]
    have := flat_at rsc_len rs k _ hk 0 (by omega)
    simp only [rsc, List.getElem?_cons_zero] at this
    refine List.ext_getElem? fun i => ?_
    by_cases hi : k * 1 + 0 = i
    · subst hi
      rw [List.getElem?_set_self (List.getElem?_eq_some_iff.1 this).1]
      exact this.symm
    · rw [List.getElem?_set_ne hi]
  refine ⟨?_, fun y hy => ?_, ?_⟩
  · unfold Own at ho ⊢
    rw [List.length_set, hset]
    exact ho
  · obtain ⟨i, hi, he⟩ := List.getElem_of_mem hy
    simp only [List.length_set] at hi
    rw [List.getElem_set] at he
    split at he
    · rw [← he]
      show Own idc 3 _ base _ (.slice (some ⟨g, 0, none⟩) (l.set j m).length c) (l.set j m)
      rw [List.length_set]
      exact p2
    · rename_i hik
      have hap : ∀ b, y.v.ownBlock = some b → b ≠ g := fun b hv e => by
        have hp := List.pairwise_iff_getElem.1 h.far
        obtain ⟨hkl', hke⟩ := List.getElem?_eq_some_iff.1 hk
        rcases Nat.lt_or_ge k i with h1 | h1
        · have := hp k i hkl' hi h1
          rw [hke, he] at this
          exact this g rfl (by rw [hv, e])
        · have := hp i k hi hkl' (by omega)
          rw [hke, he] at this
          exact this b hv (by rw [e]; rfl)
      have hyo := h.row y (by rw [← he]; exact List.getElem_mem _)
      exact Own.far (Own.far (Own.far hyo (p := ⟨g, j * 3, none⟩) hap _) (p := ⟨g, j * 3 + 1, none⟩) hap _) (p := ⟨g, j * 3 + 2, none⟩) hap _
  · rw [List.pairwise_iff_getElem]
    intro a b ha hb' hab
    obtain ⟨hkl', hke⟩ := List.getElem?_eq_some_iff.1 hk
    have hp := (List.pairwise_iff_getElem.1 h.far) a b (by simpa using ha) (by simpa using hb') hab
    rw [List.getElem_set, List.getElem_set]
    have e1 : ∀ y : Value, Apart (RsV.v ⟨some ⟨g, 0, none⟩, l.set j m, c⟩) y ↔ Apart (RsV.v ⟨some ⟨g, 0, none⟩, l, c⟩) y := fun y => Iff.rfl
    have e2 : ∀ y : Value, Apart y (RsV.v ⟨some ⟨g, 0, none⟩, l.set j m, c⟩) ↔ Apart y (RsV.v ⟨some ⟨g, 0, none⟩, l, c⟩) := fun y => Iff.rfl
    split
    · rename_i hka
      subst hka
      rw [hke] at hp
      split
      · omega
      · exact (e1 _).2 hp
    · split
      · rename_i hkb
        subst hkb
        rw [hke] at hp
        exact (e2 _).2 hp
      · exact hp
end
end Go.Proofs.Ytcclnfpegepcnaa
