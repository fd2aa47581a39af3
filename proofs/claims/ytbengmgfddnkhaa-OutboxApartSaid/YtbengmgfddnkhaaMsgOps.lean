/-
  A whole message, as one: read, put, laid into a slice of its own (21).
-/
import Derived.Test.YtbengmgfddnkhaaMesg
import Derived.Deep.MidRow
import Derived.Deep.WholeRow
import Derived.Great.BuildSlice
import Derived.OrdersHeld
namespace Go.Proofs.Ytbengmgfddnkhaa
open Go.RowKit
theorem Try.info21Ms : (Try.prog.info? 39).map (fun i => (i.zero, i.size, i.bytes)) = some (some (.agg (msA nilM)), 17, 176) := by kernel_rfl
theorem Try.size21Ms : (Try.prog.info? 39).map (·.size) = some 17 := by kernel_rfl
theorem setRow_grown (W : World) (g : Nat) (cs : Array Value) : W.grownBy (W.setRow g cs) (some g) :=
  ⟨rfl, rfl, rfl, by simp, fun k _ hk => setRow_other _ _ _ _ (fun e => hk (by rw [e]))⟩
theorem Ob.setRow {W : World} {g : Nat} {cs : Array Value} {T : TypeId} (h : Ob W g cs T) (ds : Array Value) : Ob (W.setRow g ds) g ds T := setRow_heap _ _ _ _ _ _ h
theorem Ob.setRow_far {W : World} {g k : Nat} {cs : Array Value} {T : TypeId} (h : Ob W k cs T) (hne : k ≠ g) (ds : Array Value) : Ob (W.setRow g ds) k cs T := (setRow_other _ _ _ _ hne).trans h
theorem msA_one (m : MsV) : (msA m).all (·.oneCell') = true := Array.all_eq_true_iff_forall_mem.2 (fun v hv => msc_one m v (by simpa [msc] using hv))
theorem Own.hop {α : Type} {enc : α → List Value} {sz base p : Nat} {E : TypeId} {W W' : World} {v : Value} {l : List α} (h : Own enc sz E base W v l) (hg : W.grownBy W' (some p)) (hp : p < base) : Own enc sz E base W' v l :=
  h.keep hg (by
    rcases hv : v.ownBlock with _ | k
    · exact .inl rfl
    · exact .inr (fun e => by injection e with e; have := Own.lt h k hv; omega))
theorem DsX.hop {base p : Nat} {W W' : World} {v : Value} {ds : List DsV} (h : DsX base W v ds) (hg : W.grownBy W' (some p)) (hp : p < base) : DsX base W' v ds := ⟨Own.hop h.out hg hp, fun d hd => Own.hop (h.row d hd) hg hp⟩
theorem MsV.own.hop {base p : Nat} {W W' : World} {m : MsV} (h : m.own base W) (hg : W.grownBy W' (some p)) (hp : p < base) : m.own base W' := ⟨Own.hop h.L hg hp, fun d hd => Own.hop (h.F d hd) hg hp, Own.hop h.T hg hp, Own.hop h.V hg hp, Own.hop h.D hg hp, Own.hop h.M hg hp, Own.hop h.I hg hp⟩
theorem OutX.hop {base p : Nat} {W W' : World} {v : Value} {ms : List MsV} (h : OutX base W v ms) (hg : W.grownBy W' (some p)) (hp : p < base) : OutX base W' v ms := ⟨Own.hop h.out hg hp, fun m hm => (h.row m hm).hop hg hp⟩
theorem Gw.hop {p : Nat} {a W W' : World} (h : Below a.heap.size a W) (hg : W.grownBy W' (some p)) (hp : a.heap.size ≤ p) : Below a.heap.size a W' := Gw.gr h hg (fun k hk => by injection hk with hk; omega)
theorem obM {W : World} {g : Nat} {m : MsV} (h : Ob W g (msA m) 39) : ∀ j v, (msc m)[j]? = some v → W.cell? ⟨g, 0 + j, none⟩ = some v := fun j v hv => by
  rw [Nat.zero_add]; exact h.blk.2.1 j v hv
section
variable {ops : Array Oper} {rest : List Oper} {op : Oper} {a : Act} {w : World} {Q : Exit → Act → World → Prop}
theorem ldM (m : MsV) (b o : Nat) (hc : ∀ j v, (msc m)[j]? = some v → w.cell? ⟨b, o + j, none⟩ = some v) (hgd : op.guard = none) (x : Operand) (ho : op.op = .load 39 x) (hx : a.eval x = .pointer (some ⟨b, o, none⟩))
    (h : wpList Try.prog ops Q rest (a.put op.dst (.agg (msA m))) w) : wpList Try.prog ops Q (op :: rest) a w :=
  wpList_load_mid hgd 39 x ho b o hx (msc m) _ hc Try.underlying39 rfl Try.size21Ms (by simpa [msc] using h)
theorem stM_new (m : MsV) (z : Array Value) (hgd : op.guard = none) (x y : Operand) (ho : op.op = .store 39 x y) (hx : a.eval x = .pointer (some ⟨w.heap.size, 0, none⟩)) (hy : a.eval y = .agg (msA m)) (hz : z.size = 17)
    (h : wpList Try.prog ops Q rest (a.put op.dst undef) (w.alloc (.cells (msA m) 39))) : wpList Try.prog ops Q (op :: rest) a (w.alloc (.cells z 39)) := by
  refine wpList_store_row hgd _ x y ho w.heap.size (msA m) hx hy 39 z (heap_alloc_last w _) Try.size21Ms hz (msA_one m) ?_
  rw [World.setRow_alloc_new]
  exact h
theorem stM_row (m : MsV) (g : Nat) (z : Array Value) (hO : Ob w g z 39) (hz : z.size = 17) (hgd : op.guard = none) (x y : Operand) (ho : op.op = .store 39 x y) (hx : a.eval x = .pointer (some ⟨g, 0, none⟩)) (hy : a.eval y = .agg (msA m))
    (h : wpList Try.prog ops Q rest (a.put op.dst undef) (w.setRow g (msA m))) : wpList Try.prog ops Q (op :: rest) a w :=
  wpList_store_row hgd _ x y ho g (msA m) hx hy 39 z hO Try.size21Ms hz (msA_one m) h
theorem bsM (m : MsV) (hgd : op.guard = none) (y : Operand) (ho : op.op = .buildSlice 22 1 #[(0, y)]) (hy : a.eval y = .agg (msA m))
    (h : wpList Try.prog ops Q rest (a.put op.dst (.slice (some ⟨w.heap.size, 0, none⟩) 1 1)) (w.alloc (.cells (msA m) 39))) : wpList Try.prog ops Q (op :: rest) a w := by
  obtain ⟨i0, hi0, hz0, hz1, hz2⟩ := info_parts Try.info21Ms
  refine wpList_buildSlice hgd 22 39 1 _ ho (msA m) i0 _ Try.underlying22 hi0 hz0 (by rw [hz1]; omega) (by rw [hz1]; omega) ?_ h
  rw [hz1]
  have h1 : ∀ v ∈ [Value.agg (msA m)], v.cells.size = 17 := fun v hv => by
    obtain rfl : v = Value.agg (msA m) := by simpa using hv
    exact msA_size m
  have := Great.fill_whole (s := 17) (by omega) [Value.agg (msA m)] ((Array.range (1 * 17)).map ((Value.agg (msA nilM)).cells[· % (Value.agg (msA nilM)).cells.size]!)) h1 (by simp)
  simpa [hy, Value.cells] using this
end
section
variable {ops : Array Oper} {op : Oper} {a : Act} {w : World} {K : Act → World → Prop} {Q : Exit → Act → World → Prop} {EE : Prop}
theorem step_bsM (m : MsV) (hgd : op.guard = none) (y : Operand) (ho : op.op = .buildSlice 22 1 #[(0, y)]) (hy : a.eval y = .agg (msA m))
    (h : K (a.put op.dst (.slice (some ⟨w.heap.size, 0, none⟩) 1 1)) (w.alloc (.cells (msA m) 39))) : if Region.wanted op (yielded ops a.tmps) = true then Oper.wp Try.prog op a w K Q else EE := by
  have hw : Region.wanted op (yielded ops a.tmps) = true := by simp [Region.wanted, hgd]
  rw [if_pos hw]
  obtain ⟨i0, hi0, hz0, hz1, hz2⟩ := info_parts Try.info21Ms
  refine wp_buildSlice 22 39 1 _ ho (msA m) i0 _ Try.underlying22 hi0 hz0 (by rw [hz1]; omega) (by rw [hz1]; omega) ?_ h
  rw [hz1]
  have h1 : ∀ v ∈ [Value.agg (msA m)], v.cells.size = 17 := fun v hv => by
    obtain rfl : v = Value.agg (msA m) := by simpa using hv
    exact msA_size m
  have := Great.fill_whole (s := 17) (by omega) [Value.agg (msA m)] ((Array.range (1 * 17)).map ((Value.agg (msA nilM)).cells[· % (Value.agg (msA nilM)).cells.size]!)) h1 (by simp)
  simpa [hy, Value.cells] using this
theorem step_stM (m : MsV) (g : Nat) (z : Array Value) (hO : Ob w g z 39) (hz : z.size = 17) (hgd : op.guard = none) (x y : Operand) (ho : op.op = .store 39 x y) (hx : a.eval x = .pointer (some ⟨g, 0, none⟩)) (hy : a.eval y = .agg (msA m))
    (h : K (a.put op.dst undef) (w.setRow g (msA m))) : if Region.wanted op (yielded ops a.tmps) = true then Oper.wp Try.prog op a w K Q else EE := by
  have hw : Region.wanted op (yielded ops a.tmps) = true := by simp [Region.wanted, hgd]
  rw [if_pos hw]
  exact wp_store_row _ x y ho g (msA m) hx hy 39 z hO Try.size21Ms hz (msA_one m) h
theorem yl_M {S : World → Prop} (m : MsV) (b o : Nat) (hS : ∀ w, S w → ∀ j v, (msc m)[j]? = some v → w.cell? ⟨b, o + j, none⟩ = some v) (hw : Region.wanted op (yielded ops a.tmps) = true) (x : Operand) (ho : op.op = .load 39 x) (hx : a.eval x = .pointer (some ⟨b, o, none⟩)) :
    YieldsIf Try.prog ops S op (.agg (msA m)) a := by
  have := yieldsIf_load_mid (P := Try.prog) (S := S) hw 39 x ho b o hx (msc m) _ hS Try.underlying39 rfl Try.size21Ms
  simpa [msc] using this
end
theorem loadVar_ob {w : World} {g : Nat} {T t : TypeId} {c : Array Value} {d : TypeDesc} (h : Ob w g c T) (hu : Try.prog.underlying t = some d) (hd : d.isRow = true) (hi : (Try.prog.info? t).map (·.size) = some c.size) : (loadVar t ⟨g, 0, none⟩).run Try.prog w = .ok (.agg c) w := by
  have := run_loadVar_mid (P := Try.prog) w g 0 t c.toList d (fun j v hv => by rw [Nat.zero_add]; exact h.blk.2.1 j v hv) hu hd (by rw [hi, Array.length_toList])
  simpa using this
theorem results_c2t {fn : Func} {p q s : Tmp} {t1 t2 : TypeId} (h : fn.results = #[.cell p t1, .cell q t2, .tmp s]) (tmps : Array Value) (w : World) (g1 g2 : Nat) (T1 T2 : TypeId) (c1 c2 : Array Value) (d1 d2 : TypeDesc)
    (hp : tmps.getD p undef = .pointer (some ⟨g1, 0, none⟩)) (hq : tmps.getD q undef = .pointer (some ⟨g2, 0, none⟩)) (h1 : Ob w g1 c1 T1) (h2 : Ob w g2 c2 T2)
    (hu1 : Try.prog.underlying t1 = some d1) (hu2 : Try.prog.underlying t2 = some d2) (hd1 : d1.isRow = true) (hd2 : d2.isRow = true) (hi1 : (Try.prog.info? t1).map (·.size) = some c1.size) (hi2 : (Try.prog.info? t2).map (·.size) = some c2.size) :
    (results fn tmps).run Try.prog w = .ok (.tuple #[.agg c1, .agg c2, tmps.getD s undef]) w := by
  have hp' : tmps[p]?.getD undef = .pointer (some ⟨g1, 0, none⟩) := by simpa using hp
  have hq' : tmps[q]?.getD undef = .pointer (some ⟨g2, 0, none⟩) := by simpa using hq
  simp [results, h, hp', hq', asAddr, loadVar_ob h1 hu1 hd1 hi1, loadVar_ob h2 hu2 hd2 hi2]
/-- what is laid in one block reads as a message -/
theorem Rd.litM (w : World) (m : MsV) : Rd msc 17 (w.alloc (.cells (msA m) 39)).heap.size (w.alloc (.cells (msA m) 39)) (some ⟨w.heap.size, 0, none⟩) [m] := by
  rw [World.size_alloc]
  exact Rd.lit msc_len w _ rfl (msA m) _ [m] (by simp [msc])
end Go.Proofs.Ytbengmgfddnkhaa
