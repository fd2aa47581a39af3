/-
  'm[x]++' at a key that is not there, in whatever order the map is asked (08, SeenOnce).
-/
import Derived.Test.YtfdppebbpcjhjaaMet
import Derived.Deep.RegionHeld
import Derived.Test.YtfdppebbpcjhjaaObj
import Derived.Test.YtfdppebbpcjhjaaStep
namespace Go.Proofs.Ytfdppebbpcjhjaa
open Go.RowKit Go.Maps
open Go.ChangeMaps Go.MapKept Go.WideElems
abbrev MT : TypeId := 45
abbrev OwnsM (w : World) (b n : Nat) (acc : List Id) : Prop := w.ownsMap Try.prog 35 (plainElem Try.prog 3) b n (met acc)
section
variable {w : World} {b n : Nat} {acc : List Id} {x : Id}
/-- what is known of the map between the two halves of 'm[x]++' -/
structure Half (w w1 : World) (b st n : Nat) (acc : List Id) (x : Id) : Prop where
  grown : w.grownBy w1 (some b)
  look : (Instr.lookup 45 (.map (some b)) (idv x) false).run Try.prog w1 = .ok (.int .i64 0) w1
  store : ∃ w2, (Instr.entryStore 45 (.map (some b)) (.int .i64 st) (.int .i64 1)).run Try.prog w1 = .ok () w2 ∧ w.grownBy w2 (some b) ∧ OwnsM w2 b (n + 1) (acc ++ [x])
theorem met_half (hown : OwnsM w b n acc) (ha : ∀ y ∈ acc, y.ok) (hx : x.ok) (hnew : x ∉ acc) (hn : n < maxLen) :
    ∃ (v0 : Value) (st : Nat) (w1 : World), (Instr.mapEntry 45 (.map (some b)) (idv x)).run Try.prog w = .ok (.tuple #[v0, .int .i64 st]) w1 ∧ Half w w1 b st n acc x := by
  have hkey := idKey hx
  have hT := Try.underlying45
  obtain ⟨w0, hu0, ho0, hg0⟩ := hown.update idLaw hT hn hkey (plainElem_int Try.underlying3 (q := .i64) (a := 0) (by decide))
  obtain ⟨w2, hu1, ho1, hg1⟩ := hown.update idLaw hT hn hkey (plainElem_int Try.underlying3 (q := .i64) (a := 1) (by decide))
  have hnh : Maps.has (met acc) (idLit x) = false := by rw [has_met ha hx]; simpa using hnew
  obtain ⟨es, clock, hb, F, hs, hD⟩ := hown
  obtain ⟨v0, st, es1, c1, hE, _, hS⟩ := entry_then_store idKeyLaw hT Try.zeroInt hb F hkey
  have hno : ∀ e ∈ es.toList, e.key ≠ idv x := by
    rcases Maps.fit_look false idLaw hT (Try.zeroInt w) hb F hkey with ⟨_, h, _⟩ | ⟨e0, y, _, _, _, _, hat, _⟩
    · exact h
    · rw [← hD] at hat
      rw [has_true_of_atKey hat] at hnh
      cases hnh
  have hf : (Instr.findKey 35 (idv x) es.toList).run Try.prog w = .ok none w := by
    rcases idKeyLaw.find w hkey es.toList F.keys with ⟨h, _⟩ | ⟨j, e0, _, h2, h3⟩
    · exact h
    · exact absurd h3 (hno e0 (List.mem_of_getElem? h2))
  -- both a store of nought and the first half lay the same block
  have e0 : (Instr.mapUpdate 45 (.map (some b)) (idv x) (.int .i64 0)).run Try.prog w = .ok () (setBlock w b (.map (es.push ⟨idv x, .int .i64 0, clock⟩) (clock + 1))) := by
    simp [Instr.mapUpdate, run_underlying hT, MapKept.run_getObj_map hb, idKeyLaw.check w false hkey, hf, MapKept.run_setObj_map _ hb, Result.andThen, setBlock]
  have e1 : (Instr.mapEntry 45 (.map (some b)) (idv x)).run Try.prog w = .ok (.tuple #[.int .i64 0, goInt clock]) (setBlock w b (.map (es.push ⟨idv x, .int .i64 0, clock⟩) (clock + 1))) := by
    simp [Instr.mapEntry, run_underlying hT, MapKept.run_getObj_map hb, idKeyLaw.check w false hkey, hf, Try.zeroInt, MapKept.run_setObj_map _ hb, Result.andThen, setBlock]
  rw [hu0] at e0
  injection e0 with _ ew
  rw [hE] at e1
  injection e1 with _ ew1
  have hw1 : setBlock w b (.map es1 c1) = w0 := ew1.trans ew.symm
  obtain ⟨es', c', hs1, hs2⟩ := hS (setBlock w b (.map es1 c1)) (.int .i64 1) (heap_setBlock_same hb _)
  rw [hu1] at hs2
  injection hs2 with _ ew2
  have hbb : setBlock (setBlock w b (.map es1 c1)) b (.map es' c') = setBlock w b (.map es' c') := by simp [setBlock]
  rw [hbb, ← ew2] at hs1
  rw [hw1] at hE hs1
  refine ⟨v0, st, w0, hE, hg0, ?_, w2, hs1, hg1, by show World.ownsMap _ _ _ _ _ _ (met (acc ++ [x])); rw [met_snoc]; exact ho1⟩
  obtain ⟨c, hrun, hat, _⟩ := ho0.lookup_int idLaw hT Try.underlying3 (Try.zeroInt w0) hkey
  rw [atKey_put_same (met_isMap acc ha) (idLaw.key hkey)] at hat
  have := i64d_inj hat
  rw [← this] at hrun
  exact hrun
end
section
variable {ops : Array Oper} {op : Oper} {a : Act} {w : World} {K : Act → World → Prop} {Q : Exit → Act → World → Prop} {EE : Prop}
/-! the three operations, where one is met in a region that draws its order -/
theorem step_look (hgd : op.guard = none) (m x : Operand) (b : Nat) (y : Id) (c : Int) (ho : op.op = .lookup 45 m x false) (hm : a.eval m = .map (some b)) (hx : a.eval x = idv y)
    (hrun : (Instr.lookup 45 (.map (some b)) (idv y) false).run Try.prog w = .ok (.int .i64 c) w)
    (h : K (a.put op.dst (.int .i64 c)) w) : if Region.wanted op (yielded ops a.tmps) = true then Oper.wp Try.prog op a w K Q else EE := by
  have hw : Region.wanted op (yielded ops a.tmps) = true := by simp [Region.wanted, hgd]
  rw [if_pos hw]
  unfold Oper.wp
  simp [execOp, ho, hm, hx, hrun, Result.andThen]
  exact h
theorem step_entry (hgd : op.guard = none) (m x : Operand) (b : Nat) (y : Id) (v : Value) (w1 : World) (ho : op.op = .mapEntry 45 m x) (hm : a.eval m = .map (some b)) (hx : a.eval x = idv y)
    (hrun : (Instr.mapEntry 45 (.map (some b)) (idv y)).run Try.prog w = .ok v w1)
    (h : K (a.put op.dst v) w1) : if Region.wanted op (yielded ops a.tmps) = true then Oper.wp Try.prog op a w K Q else EE := by
  have hw : Region.wanted op (yielded ops a.tmps) = true := by simp [Region.wanted, hgd]
  rw [if_pos hw]
  unfold Oper.wp
  simp [execOp, ho, hm, hx, hrun, Result.andThen]
  exact h
theorem step_estore (hgd : op.guard = none) (m s x : Operand) (b : Nat) (vs vx : Value) (w1 : World) (ho : op.op = .entryStore 45 m s x) (hm : a.eval m = .map (some b)) (hs : a.eval s = vs) (hx : a.eval x = vx)
    (hrun : (Instr.entryStore 45 (.map (some b)) vs vx).run Try.prog w = .ok () w1)
    (h : K (a.put op.dst undef) w1) : if Region.wanted op (yielded ops a.tmps) = true then Oper.wp Try.prog op a w K Q else EE := by
  have hw : Region.wanted op (yielded ops a.tmps) = true := by simp [Region.wanted, hgd]
  rw [if_pos hw]
  unfold Oper.wp
  simp [execOp, ho, hm, hs, hx, hrun, Result.andThen]
  exact h
end
/-- the look-up at the operation -/
theorem wpList_met {ops : Array Oper} {rest : List Oper} {o : Oper} {a : Act} {w : World} {Q : Exit → Act → World → Prop} (hgd : o.guard = none) (m x : Operand) (b : Nat) (y : Id) (c : Int) (ho : o.op = .lookup 45 m x false) (hm : a.eval m = .map (some b)) (hx : a.eval x = idv y)
    (hrun : (Instr.lookup 45 (.map (some b)) (idv y) false).run Try.prog w = .ok (.int .i64 c) w)
    (h : wpList Try.prog ops Q rest (a.put o.dst (.int .i64 c)) w) : wpList Try.prog ops Q (o :: rest) a w := by
  refine wpList_plain hgd fun K' hK' => ?_
  unfold Oper.wp
  simp [execOp, ho, hm, hx, hrun, Result.andThen]
  exact hK' _ _ h
/-- the step of a range over it: some key of acc -/
theorem wpList_next_met {ops : Array Oper} {rest : List Oper} {o : Oper} {a : Act} {w : World} {Q : Exit → Act → World → Prop} (hg : o.guard = none) (it : Operand) (hop : o.op = Op.next it false) (b r n : Nat) (acc : List Id) (ha : ∀ y ∈ acc, y.ok) (left : Lit → Bool) (cnt : Nat)
    (hit : a.eval it = .pointer (some ⟨r, 0, none⟩)) (h : w.ranges Try.prog 35 (plainElem Try.prog 3) b r n (met acc) left cnt)
    (hDone : wpList Try.prog ops Q rest (a.put o.dst (.tuple #[.bool false])) w)
    (hMore : ∀ (x : Id) (c : Int) (w' : World) (cnt' : Nat) (left' : Lit → Bool), x ∈ acc → w'.ranges Try.prog 35 (plainElem Try.prog 3) b r n (met acc) left' cnt' → cnt' < cnt → w.grownBy w' (some r) →
      (Instr.entry (.pointer (some ⟨r, 0, none⟩))).run Try.prog w' = .ok (.tuple #[idv x, .int .i64 c]) w' → wpList Try.prog ops Q rest (a.put o.dst (.tuple #[.bool true, idv x, .int .i64 c])) w') :
    wpList Try.prog ops Q (o :: rest) a w := by
  refine wpList_plain hg fun K' hK' => ?_
  unfold Oper.wp
  rcases h.next idLaw o.type with ⟨h0, hl, hrun⟩ | ⟨key, v, kl, y, w', cnt', hkey, hlk, hv, hat, hrun, hrg, hlt, hgr, hsz, hen⟩
  · simp [execOp, hop, hit, hrun, Result.andThen]
    exact hK' _ _ hDone
  · obtain ⟨x, hx, rfl⟩ := has_met_id ha (has_true_of_atKey hat)
    obtain rfl : key = idv x := idLaw.inj hkey (idKey (ha x hx))
    obtain ⟨c, rfl, _, _⟩ := plainElem_int_inv Try.underlying3 hv
    simp [execOp, hop, hit, hrun, Result.andThen]
    exact hK' _ _ (hMore x c w' cnt' _ hx hrg hlt hgr hen)
theorem grow_none {w w' : World} (hb : Below w.heap.size w w') : w.grownBy w' none := ⟨hb.os, hb.tape, hb.output, hb.size, fun k hk _ => hb.block k hk⟩
theorem OwnsM.call {w w' : World} {b n : Nat} {acc : List Id} (h : OwnsM w b n acc) (hb : Below w.heap.size w w') : OwnsM w' b n acc := World.ownsMap.kept h (grow_none hb) (by simp)
theorem OwnsM.far {w : World} {b n : Nat} {acc : List Id} (h : OwnsM w b n acc) {p j : Nat} (hne : b ≠ p) (u : Value) : OwnsM (w.setCell ⟨p, j, none⟩ u) b n acc := World.ownsMap.kept h (grown_set w ⟨p, j, none⟩ u) (by simp [hne])
theorem Ob.grow {W W' : World} {g p : Nat} {cs : Array Value} {T : TypeId} (h : Ob W g cs T) (hg : W.grownBy W' (some p)) (hne : g ≠ p) : Ob W' g cs T := (hg.block g h.lt (by simp [hne])).trans h
theorem take_d {P : Program} {ops : Array Oper} {Q : Exit → Act → World → Prop} {md : Region.Mode} {S : World → Prop} {i : Nat} {oi : Oper} {v : Value} {d : Option Nat} {fuel : Nat} {listed : Array Bool} {a : Act} {w : World} (hi : ops[i]? = some oi) (hd : oi.dst = d)
    (hs : Region.noSelect ops = true) (hf : Region.free md ops listed i = true) (hr : (Region.ready md ops listed).contains i = true)
    (hQ : ∀ c a w, Q (.panic c) (a.put oi.dst v) w → Q (.panic c) a w) (hy : YieldsIf P ops S oi v a) (hS : S w)
    (h : wpAnyH P md ops Q S fuel (listed.setIfInBounds i true) (a.put d v) w) : wpAnyH P md ops Q S (fuel + 1) listed a w :=
  wpAnyH_take hi hs hf hr hQ hy hS (hd ▸ h)
end Go.Proofs.Ytfdppebbpcjhjaa
