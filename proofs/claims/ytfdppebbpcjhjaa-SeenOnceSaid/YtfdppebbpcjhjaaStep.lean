/-
  append onto an own slice, as a step of a region that draws its order.
-/
import Derived.Test.YtfdppebbpcjhjaaBase
import Derived.Deep.RegionHeld3
import Derived.Deep.AppendLies
namespace Go.Proofs.Ytfdppebbpcjhjaa
open Go.RowKit
section
variable {P : Program}
theorem step_app {ops : Array Oper} {o : Oper} {a : Act} {K : Act → World → Prop} {Q : Exit → Act → World → Prop} {EE : Prop} (hgd : o.guard = none) (w : World) (s x : Operand) (t : TypeId)
    (ho : o.op = .call { callee := .builtin .append, args := #[s, x], argTypes := #[t, t] })
    {α : Type} {enc : α → List Value} {sz : Nat} (base : Nat) (e : TypeId) (i : TypeInfo) (z : Value) (bytes : Nat) (ht : P.underlying t = some (.slice e)) (hi : P.info? e = some i) (hz : i.zero = some z)
    (hsize : i.size = sz) (hby : i.bytes = bytes) (hzs : z.cells.size = sz) (hsz : 0 < sz) (hs : ∀ x, (enc x).length = sz) (h1 : ∀ x, ∀ u ∈ enc x, u.oneCell' = true)
    (v : Value) (l : List α) (hv : a.eval s = v) (hown : Own enc sz e base w v l) (n : Nat) (hn : n = l.length) (B : Nat) (A : Option Addr) (m c : Nat) (l2 : List α) (hx : a.eval x = .slice A m c) (hm : m = l2.length) (hr : Rd enc sz B w A l2)
    (hbd : (n + m) * bytes ≤ 140737488355328) (h63 : n + m ≤ 140737488355328) (hbase : base ≤ w.heap.size)
    (h : ∀ A' c' w', Own enc sz e base w' (.slice A' (n + m) c') (l ++ l2) → w.grownBy w' v.ownBlock → K (a.put o.dst (.slice A' (n + m) c')) w') :
    if Region.wanted o (yielded ops a.tmps) = true then Oper.wp P o a w K Q else EE := by
  have hw : Region.wanted o (yielded ops a.tmps) = true := by simp [Region.wanted, hgd]
  rw [if_pos hw]
  exact wp_app w s x t ho base e i z bytes ht hi hz hsize hby hzs hsz hs h1 v l hv hown n hn B A m c l2 hx hm hr hbd h63 hbase h
theorem run_app2 (w : World) {α : Type} {enc : α → List Value} {sz : Nat} (base : Nat) (t ty e : TypeId) (i : TypeInfo) (z : Value) (bytes : Nat) (ht : P.underlying t = some (.slice e)) (hi : P.info? e = some i) (hz : i.zero = some z)
    (hsize : i.size = sz) (hby : i.bytes = bytes) (hzs : z.cells.size = sz) (hsz : 0 < sz) (hs : ∀ x, (enc x).length = sz) (h1 : ∀ x, ∀ u ∈ enc x, u.oneCell' = true)
    (v : Value) (l : List α) (hown : Own enc sz e base w v l) (B : Nat) (A : Option Addr) (c : Nat) (l2 : List α) (hr : Rd enc sz B w A l2)
    (hbd : (l.length + l2.length) * bytes ≤ 140737488355328) (h63 : l.length + l2.length ≤ 140737488355328) (hbase : base ≤ w.heap.size) :
    ∃ A' c' w', (Builtin.append_ #[t, t] ty #[v, .slice A l2.length c]).run P w = .ok (.slice A' (l.length + l2.length) c') w' ∧ Own enc sz e base w' (.slice A' (l.length + l2.length) c') (l ++ l2) ∧ w.grownBy w' v.ownBlock ∧ ((Value.slice A' (l.length + l2.length) c').ownBlock = v.ownBlock ∨ (Value.slice A' (l.length + l2.length) c').ownBlock = some w.heap.size) := by
  rcases A with _ | ad
  · have hl2 : l2 = [] := by
      rcases l2 with _ | ⟨x, l2⟩
      · rfl
      · obtain ⟨b, o, h, _⟩ := hr (by simp); cases h
    subst hl2
    have hrun : (Builtin.append_ #[t, t] ty #[v, .slice none 0 c]).run P w = .ok v w := by
      rcases hown.2 with ⟨rfl, h0⟩ | ⟨g, cap, cur, rfl, _, _, hnc, _⟩
      · simp [Builtin.append_, run_underlying ht, sizeOf, typeInfo, hi, Builtin.lenOf, Builtin.firstCells]
      · simp [Builtin.append_, run_underlying ht, sizeOf, typeInfo, hi, Builtin.lenOf, Builtin.firstCells, hnc, storeCells]
    obtain ⟨A', c', hv, _⟩ := hown.len
    refine ⟨A', c', w, ?_, ?_, World.grownBy.refl w _, .inl ?_⟩
    · rw [hv] at hrun ⊢; simpa using hrun
    · rw [hv] at hown; simpa using hown
    · rw [hv]; simp [Value.ownBlock]
  · have hcells : ∀ j u, (l2.flatMap enc)[j]? = some u → w.cell? (ad.add j) = some u := by
      intro j u hu
      have hjl : j < l2.length * sz := by rw [← flat_len hs]; exact (List.getElem?_eq_some_iff.1 hu).1
      have hl : 0 < l2.length := by
        rcases Nat.eq_zero_or_pos l2.length with h0 | h0
        · rw [h0] at hjl; omega
        · exact h0
      obtain ⟨b, o, hA, _, hc⟩ := hr hl
      injection hA with hA
      subst hA
      have hk : j / sz < l2.length := Nat.div_lt_of_lt_mul (by rw [Nat.mul_comm]; exact hjl)
      have hx : l2[j / sz]? = some l2[j / sz] := List.getElem?_eq_getElem hk
      have hm : j % sz < sz := Nat.mod_lt _ hsz
      have hf := flat_at hs l2 (j / sz) _ hx (j % sz) hm
      have hdm : j / sz * sz + j % sz = j := by rw [Nat.mul_comm]; exact Nat.div_add_mod j sz
      rw [hdm, hu] at hf
      have := hc (j / sz) _ hx (j % sz) u hf.symm
      rw [Nat.add_assoc, hdm] at this
      unfold Addr.add
      split
      · rename_i h0; subst h0; simpa using this
      · exact this
    have h1' : ∀ u ∈ l2.flatMap enc, u.oneCell' = true := fun u hu => by
      obtain ⟨x, _, hx⟩ := List.mem_flatMap.1 hu
      exact h1 x u hx
    obtain ⟨v', w', hrun, h2, h3, _, h5⟩ := run_append_own_at (P := P) w base t ty e i z sz bytes ht hi hz hsize hby hzs hsz v l.length _ hown ad l2.length c (l2.flatMap enc) (flat_len hs l2) hcells h1' (by unfold maxLen; omega) hbd hbase
    have h2' : Own enc sz e base w' v' (l ++ l2) := by
      unfold Own
      rw [List.length_append, List.flatMap_append]
      exact h2
    obtain ⟨A', c', hv, _⟩ := h2'.len
    rw [List.length_append] at hv
    subst hv
    exact ⟨A', c', w', hrun, h2', h3, h5⟩

theorem wp_app2 {o : Oper} {a : Act} {K : Act → World → Prop} {Q : Exit → Act → World → Prop} (w : World) (s x : Operand) (t : TypeId)
    (ho : o.op = .call { callee := .builtin .append, args := #[s, x], argTypes := #[t, t] })
    {α : Type} {enc : α → List Value} {sz : Nat} (base : Nat) (e : TypeId) (i : TypeInfo) (z : Value) (bytes : Nat) (ht : P.underlying t = some (.slice e)) (hi : P.info? e = some i) (hz : i.zero = some z)
    (hsize : i.size = sz) (hby : i.bytes = bytes) (hzs : z.cells.size = sz) (hsz : 0 < sz) (hs : ∀ x, (enc x).length = sz) (h1 : ∀ x, ∀ u ∈ enc x, u.oneCell' = true)
    (v : Value) (l : List α) (hv : a.eval s = v) (hown : Own enc sz e base w v l) (n : Nat) (hn : n = l.length) (B : Nat) (A : Option Addr) (m c : Nat) (l2 : List α) (hx : a.eval x = .slice A m c) (hm : m = l2.length) (hr : Rd enc sz B w A l2)
    (hbd : (n + m) * bytes ≤ 140737488355328) (h63 : n + m ≤ 140737488355328) (hbase : base ≤ w.heap.size)
    (h : ∀ A' c' w', Own enc sz e base w' (.slice A' (n + m) c') (l ++ l2) → w.grownBy w' v.ownBlock → ((Value.slice A' (n + m) c').ownBlock = v.ownBlock ∨ (Value.slice A' (n + m) c').ownBlock = some w.heap.size) → K (a.put o.dst (.slice A' (n + m) c')) w') : o.wp P a w K Q := by
  subst hn hm
  obtain ⟨A', c', w', hrun, h2, h3, h5⟩ := run_app2 (P := P) w base t o.type e i z bytes ht hi hz hsize hby hzs hsz hs h1 v l hown B A c l2 hr hbd h63 hbase
  unfold Oper.wp execOp
  simp only [ho, resolve, invoke, builtin, Sem.run_bind, Sem.run_pure, Result.andThen_ok, List.map_toArray, List.map_cons, List.map_nil, hv, hx, hrun]
  exact h A' c' w' h2 h3 h5
theorem step_app2 {ops : Array Oper} {o : Oper} {a : Act} {K : Act → World → Prop} {Q : Exit → Act → World → Prop} {EE : Prop} (hgd : o.guard = none) (w : World) (s x : Operand) (t : TypeId)
    (ho : o.op = .call { callee := .builtin .append, args := #[s, x], argTypes := #[t, t] })
    {α : Type} {enc : α → List Value} {sz : Nat} (base : Nat) (e : TypeId) (i : TypeInfo) (z : Value) (bytes : Nat) (ht : P.underlying t = some (.slice e)) (hi : P.info? e = some i) (hz : i.zero = some z)
    (hsize : i.size = sz) (hby : i.bytes = bytes) (hzs : z.cells.size = sz) (hsz : 0 < sz) (hs : ∀ x, (enc x).length = sz) (h1 : ∀ x, ∀ u ∈ enc x, u.oneCell' = true)
    (v : Value) (l : List α) (hv : a.eval s = v) (hown : Own enc sz e base w v l) (n : Nat) (hn : n = l.length) (B : Nat) (A : Option Addr) (m c : Nat) (l2 : List α) (hx : a.eval x = .slice A m c) (hm : m = l2.length) (hr : Rd enc sz B w A l2)
    (hbd : (n + m) * bytes ≤ 140737488355328) (h63 : n + m ≤ 140737488355328) (hbase : base ≤ w.heap.size)
    (h : ∀ A' c' w', Own enc sz e base w' (.slice A' (n + m) c') (l ++ l2) → w.grownBy w' v.ownBlock → ((Value.slice A' (n + m) c').ownBlock = v.ownBlock ∨ (Value.slice A' (n + m) c').ownBlock = some w.heap.size) → K (a.put o.dst (.slice A' (n + m) c')) w') :
    if Region.wanted o (yielded ops a.tmps) = true then Oper.wp P o a w K Q else EE := by
  have hw : Region.wanted o (yielded ops a.tmps) = true := by simp [Region.wanted, hgd]
  rw [if_pos hw]
  exact wp_app2 w s x t ho base e i z bytes ht hi hz hsize hby hzs hsz hs h1 v l hv hown n hn B A m c l2 hx hm hr hbd h63 hbase h
end
theorem Own.hi {α : Type} {enc : α → List Value} {sz : Nat} {E : TypeId} {base : Nat} {w : World} {v : Value} {l : List α} (h : Own enc sz E base w v l) : ∀ k, v.ownBlock = some k → k < w.heap.size := fun k hk => (World.ownsRow.lt h k hk).2
theorem Rd.drewS {α : Type} {enc : α → List Value} {sz : Nat} {w : World} {A : Option Addr} {l : List α} (h : Rd enc sz w.heap.size w A l) : Rd enc sz w.drew.heap.size w.drew A l := h
theorem Rd.allocS {α : Type} {enc : α → List Value} {sz : Nat} {w : World} {A : Option Addr} {l : List α} (h : Rd enc sz w.heap.size w A l) (o : Obj) : Rd enc sz (w.alloc o).heap.size (w.alloc o) A l := h.up (Below.alloc (Below.refl _ _) (Nat.le_refl _) o)
theorem Gw.drew {B : Nat} {a w : World} (h : Below B a w) : Below B a w.drew := Below.drew h
theorem grown_set (W : World) (p : Addr) (u : Value) : W.grownBy (W.setCell p u) (some p.block) :=
  ⟨rfl, rfl, rfl, by simp [World.setCell], fun k _ hk => by
    have h : k ≠ p.block := fun h => hk (by rw [h])
    simp [World.setCell, Array.getElem?_modify, Ne.symm h]⟩
theorem Own.far {α : Type} {enc : α → List Value} {sz : Nat} {E : TypeId} {base : Nat} {w : World} {v : Value} {l : List α} (h : Own enc sz E base w v l) {p : Addr} (hp : ∀ k, v.ownBlock = some k → k ≠ p.block) (u : Value) : Own enc sz E base (w.setCell p u) v l :=
  h.keep (grown_set w p u) (by
    rcases hv : v.ownBlock with _ | k
    · exact .inl rfl
    · exact .inr (fun h' => hp k hv (by injection h')))
/-- two slices of the call's own that lie apart -/
def Apart (u v : Value) : Prop := ∀ k, u.ownBlock = some k → v.ownBlock ≠ some k
theorem Apart.newer {α β : Type} {enc : α → List Value} {enc2 : β → List Value} {sz sz2 base : Nat} {E E2 : TypeId} {w w' : World} {u v : Value} {l : List α} {l2 : List β} (h : Own enc sz E base w v l) (h' : Own enc2 sz2 E2 w.heap.size w' u l2) : Apart u v := fun k hk hv => by
  have h1 := Own.hi h k hv
  have h2 := Own.lt h' k hk
  omega
theorem Apart.lit {α : Type} {enc : α → List Value} {sz base : Nat} {E : TypeId} {w : World} {u : Value} {l : List α} {n c g : Nat} (h : Own enc sz E base w u l) (hg : g = w.heap.size) : Apart u (.slice (some ⟨g, 0, none⟩) n c) := fun k hk hv => by
  have h1 := Own.hi h k hk
  have h2 := own_blk hv
  simp at h2
  omega
theorem Apart.app {α : Type} {enc : α → List Value} {sz base : Nat} {E : TypeId} {w : World} {u v v' : Value} {l : List α} (h : Own enc sz E base w u l) (hd : Apart u v) (h5 : v'.ownBlock = v.ownBlock ∨ v'.ownBlock = some w.heap.size) : Apart u v' := fun k hk hv => by
  rcases h5 with e | e
  · exact hd k hk (e ▸ hv)
  · have h1 := Own.hi h k hk
    rw [e] at hv
    injection hv with hv
    omega
theorem Apart.keep {α : Type} {enc : α → List Value} {sz base : Nat} {E : TypeId} {w w' : World} {u v : Value} {l : List α} (h : Own enc sz E base w u l) (hd : Apart u v) (hg : w.grownBy w' v.ownBlock) : Own enc sz E base w' u l :=
  h.keep hg (by
    rcases hu : u.ownBlock with _ | k
    · exact .inl rfl
    · exact .inr (fun e => hd k hu e.symm))
theorem Own.litg {α : Type} {enc : α → List Value} {sz : Nat} {E : TypeId} {base : Nat} (w : World) (g : Nat) (hg : g = w.heap.size) (hb : base ≤ w.heap.size) : Own enc sz E base (w.alloc (.cells #[] E)) (.slice (some ⟨g, 0, none⟩) 0 0) ([] : List α) := by
  subst hg
  exact Own.lit w #[] 0 hb (by decide) (by simp) rfl (by simp)
end Go.Proofs.Ytfdppebbpcjhjaa
