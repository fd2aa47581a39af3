/-
  OutboxApart's parts: two messages laid at once; one thing more in each list (21).
-/
import Derived.Test.YtbengmgfddnkhaaLaw21N
import Derived.Test.YtbengmgfddnkhaaSpoil
import Derived.Test.YtbengmgfddnkhaaRefMsg
import Derived.Test.YtbengmgfddnkhaaUse21
import Derived.Test.YtbengmgfddnkhaaTakeB
namespace Go.Proofs.Ytbengmgfddnkhaa
open Go.RowKit
section
variable {ops : Array Oper} {rest : List Oper} {op : Oper} {a : Act} {w : World} {Q : Exit → Act → World → Prop}
def mm (m b : MsV) : Array Value := ([Value.agg (msA m), Value.agg (msA b)].flatMap fun v => v.cells.toList).toArray
theorem mm_list (m b : MsV) : (mm m b).toList = [m, b].flatMap msc := by simp [mm, msc, Value.cells]
theorem bsM2 (m b : MsV) (hgd : op.guard = none) (x y : Operand) (ho : op.op = .buildSlice 22 2 #[(0, x), (1, y)]) (hx : a.eval x = .agg (msA m)) (hy : a.eval y = .agg (msA b))
    (h : wpList Try.prog ops Q rest (a.put op.dst (.slice (some ⟨w.heap.size, 0, none⟩) 2 2)) (w.alloc (.cells (mm m b) 39))) : wpList Try.prog ops Q (op :: rest) a w := by
  obtain ⟨i0, hi0, hz0, hz1, hz2⟩ := info_parts Try.info21Ms
  refine wpList_buildSlice hgd 22 39 2 _ ho (mm m b) i0 _ Try.underlying22 hi0 hz0 (by rw [hz1]; omega) (by rw [hz1]; omega) ?_ h
  rw [hz1]
  have h1 : ∀ v ∈ [Value.agg (msA m), Value.agg (msA b)], v.cells.size = 17 := fun v hv => by
    simp only [List.mem_cons, List.not_mem_nil, or_false] at hv
    rcases hv with rfl | rfl
    · exact msA_size m
    · exact msA_size b
  have := Great.fill_whole (s := 17) (by omega) [Value.agg (msA m), Value.agg (msA b)] ((Array.range (2 * 17)).map ((Value.agg (msA nilM)).cells[· % (Value.agg (msA nilM)).cells.size]!)) h1 (by simp)
  simpa [hx, hy, mm] using this
end
theorem few2_any (m b : MsV) (g : Nat) (w : World) (hE : Ob w g (mm m b) 39) (hr : m.rd w.heap.size w) (hrb : b.rd w.heap.size w) (hl : m.L.length ≤ 9223372036854775807) (hlb : b.L.length ≤ 9223372036854775807) :
    Calls Try.prog 7 #[.slice (some ⟨g, 0, none⟩) 2 2, .int .i64 2] w fun e w' => ∃ r : Bool, e = .returned (.bool r) ∧ (r = true → m.fewer ∧ b.fewer) ∧ Below w.heap.size w w' := by
  have hl2 := mm_list m b
  have hR : OutR w.heap.size w (some ⟨g, 0, none⟩) [m, b] := ⟨fun _ => ⟨g, 0, rfl, hE.lt, fun k x hx j c hj => by
    have hjl : j < 17 := by have := (List.getElem?_eq_some_iff.1 hj).1; rwa [msc_len] at this
    have := flat_at msc_len [m, b] k x hx j hjl
    rw [hj, ← hl2] at this
    rw [show 0 + k * 17 + j = k * 17 + j by omega]
    exact hE.blk.2.1 _ _ this⟩, fun x hx => by
      simp only [List.mem_cons, List.not_mem_nil, or_false] at hx
      rcases hx with rfl | rfl
      · exact hr
      · exact hrb⟩
  refine (fewMs_any [m, b] (some ⟨g, 0, none⟩) 2 2 w hR (by simp) (fun x hx => by
      simp only [List.mem_cons, List.not_mem_nil, or_false] at hx
      rcases hx with rfl | rfl
      · exact hl
      · exact hlb)).mono ?_
  rintro e w' ⟨r, rfl, h, hb⟩
  exact ⟨r, rfl, fun h1 => ⟨(h h1).2 m (by simp), (h h1).2 b (by simp)⟩, hb⟩
/-! one thing more in each list -/
def addL (m : MsV) (A : Option Addr) (c : Nat) (d : DsV) : MsV := { m with LA := A, L := m.L ++ [d], Lc := c }
def addT (m : MsV) (A : Option Addr) (c : Nat) (d : Mb) : MsV := { m with TA := A, T := m.T ++ [d], Tc := c }
def addM (m : MsV) (A : Option Addr) (c : Nat) (d : Id) : MsV := { m with MA := A, M := m.M ++ [d], Mc := c }
def addI (m : MsV) (A : Option Addr) (c : Nat) (d : Id) : MsV := { m with IA := A, I := m.I ++ [d], Ic := c }
def addV (m : MsV) (A : Option Addr) (c : Nat) (d : Int) : MsV := { m with VA := A, V := m.V ++ [d], Vc := c }
def addD (m : MsV) (A : Option Addr) (c : Nat) (d : Int) : MsV := { m with DA := A, D := m.D ++ [d], Dc := c }
section
variable {W : World} {g : Nat} {m : MsV} {A : Option Addr} {c : Nat}
theorem addL_put (d : DsV) (h : Ob W g (msA m) 39) : Ob (W.setCell ⟨g, 4, none⟩ (.slice A (m.L.length + 1) c)) g (msA (addL m A c d)) 39 := by
  have := h.set 4 (.slice A (m.L.length + 1) c)
  have e : (msA m).setIfInBounds 4 (.slice A (m.L.length + 1) c) = msA (addL m A c d) := by simp [addL, msA]
  rwa [e] at this
theorem addT_put (d : Mb) (h : Ob W g (msA m) 39) : Ob (W.setCell ⟨g, 5, none⟩ (.slice A (m.T.length + 1) c)) g (msA (addT m A c d)) 39 := by
  have := h.set 5 (.slice A (m.T.length + 1) c)
  have e : (msA m).setIfInBounds 5 (.slice A (m.T.length + 1) c) = msA (addT m A c d) := by simp [addT, msA]
  rwa [e] at this
theorem addM_put (d : Id) (h : Ob W g (msA m) 39) : Ob (W.setCell ⟨g, 15, none⟩ (.slice A (m.M.length + 1) c)) g (msA (addM m A c d)) 39 := by
  have := h.set 15 (.slice A (m.M.length + 1) c)
  have e : (msA m).setIfInBounds 15 (.slice A (m.M.length + 1) c) = msA (addM m A c d) := by simp [addM, msA]
  rwa [e] at this
theorem addI_put (d : Id) (h : Ob W g (msA m) 39) : Ob (W.setCell ⟨g, 16, none⟩ (.slice A (m.I.length + 1) c)) g (msA (addI m A c d)) 39 := by
  have := h.set 16 (.slice A (m.I.length + 1) c)
  have e : (msA m).setIfInBounds 16 (.slice A (m.I.length + 1) c) = msA (addI m A c d) := by simp [addI, msA]
  rwa [e] at this
theorem addV_put (d : Int) (h : Ob W g (msA m) 39) : Ob (W.setCell ⟨g, 9, none⟩ (.slice A (m.V.length + 1) c)) g (msA (addV m A c d)) 39 := by
  have := h.set 9 (.slice A (m.V.length + 1) c)
  have e : (msA m).setIfInBounds 9 (.slice A (m.V.length + 1) c) = msA (addV m A c d) := by simp [addV, msA]
  rwa [e] at this
theorem addD_put (d : Int) (h : Ob W g (msA m) 39) : Ob (W.setCell ⟨g, 10, none⟩ (.slice A (m.D.length + 1) c)) g (msA (addD m A c d)) 39 := by
  have := h.set 10 (.slice A (m.D.length + 1) c)
  have e : (msA m).setIfInBounds 10 (.slice A (m.D.length + 1) c) = msA (addD m A c d) := by simp [addD, msA]
  rwa [e] at this
variable {B : Nat} {d : DsV} {y : Mb} {x : Id} {z : Int}
theorem addL_rd (h : m.rd B W) (h2 : Rd dsc 4 B W A (m.L ++ [d])) (hd : d.rd B W) : (addL m A c d).rd B W :=
  ⟨h2, fun e he => by
    rcases List.mem_append.1 he with he | he
    · exact h.F e he
    · obtain rfl : e = d := by simpa using he
      exact hd, h.T, h.V, h.D, h.M, h.I⟩
theorem addT_rd (h : m.rd B W) (h2 : Rd memc 3 B W A (m.T ++ [y])) : (addT m A c y).rd B W := ⟨h.L, h.F, h2, h.V, h.D, h.M, h.I⟩
theorem addM_rd (h : m.rd B W) (h2 : Rd idc 3 B W A (m.M ++ [x])) : (addM m A c x).rd B W := ⟨h.L, h.F, h.T, h.V, h.D, h2, h.I⟩
theorem addI_rd (h : m.rd B W) (h2 : Rd idc 3 B W A (m.I ++ [x])) : (addI m A c x).rd B W := ⟨h.L, h.F, h.T, h.V, h.D, h.M, h2⟩
theorem addV_rd (h : m.rd B W) (h2 : Rd i32c 1 B W A (m.V ++ [z])) : (addV m A c z).rd B W := ⟨h.L, h.F, h.T, h2, h.D, h.M, h.I⟩
theorem addD_rd (h : m.rd B W) (h2 : Rd u8c 1 B W A (m.D ++ [z])) : (addD m A c z).rd B W := ⟨h.L, h.F, h.T, h.V, h2, h.M, h.I⟩
end
/-- all of one message with one thing more in each list: few -/
theorem add_few {m : MsV} (h : m.fewer) (A1 A2 A3 A4 A5 A6 : Option Addr) (c1 c2 c3 c4 c5 c6 : Nat) (d : DsV) (hd : d.l.length ≤ 1000) (y : Mb) (x x2 : Id) (z z2 : Int) :
    (addD (addV (addI (addM (addT (addL m A1 c1 d) A2 c2 y) A3 c3 x) A4 c4 x2) A5 c5 z) A6 c6 z2).few := by
  obtain ⟨⟨_, f2, _, _, _, _, _⟩, l1, l2, l3, l4, l5, l6⟩ := h
  refine ⟨?_, fun e he => ?_, ?_, ?_, ?_, ?_, ?_⟩
  · simp [addD, addV, addI, addM, addT, addL]; omega
  · simp only [addD, addV, addI, addM, addT, addL] at he
    rcases List.mem_append.1 he with he | he
    · exact f2 e he
    · obtain rfl : e = d := by simpa using he
      exact hd
  · simp [addD, addV, addI, addM, addT, addL]; omega
  · simp [addD, addV, addI, addM, addT, addL]; omega
  · simp [addD, addV, addI, addM, addT, addL]; omega
  · simp [addD, addV, addI, addM, addT, addL]; omega
  · simp [addD, addV, addI, addM, addT, addL]; omega
/-! a row of the call's own is kept by a store into an outbox's block -/
theorem Own.past {α : Type} {enc : α → List Value} {sz base g : Nat} {E T : TypeId} {W W' : World} {v : Value} {l : List α} {cs : Array Value} (ho : Own enc sz E base W v l) (h : Ob W g cs T) (hne : E ≠ T) (hg : W.grownBy W' (some g)) : Own enc sz E base W' v l :=
  ho.keep hg (by
    rcases hv : v.ownBlock with _ | k
    · exact .inl rfl
    · exact .inr (fun e => by injection e with e; exact h.row_ne ho hne k hv e))
theorem MsV.own.past {base g : Nat} {W W' : World} {m : MsV} {cs : Array Value} (ho : m.own base W) (h : Ob W g cs 24) (hg : W.grownBy W' (some g)) : m.own base W' :=
  ⟨Own.past ho.L h (by decide) hg, fun d hd => Own.past (ho.F d hd) h (by decide) hg, Own.past ho.T h (by decide) hg, Own.past ho.V h (by decide) hg, Own.past ho.D h (by decide) hg, Own.past ho.M h (by decide) hg, Own.past ho.I h (by decide) hg⟩
theorem OutX.past {base g : Nat} {W W' : World} {v : Value} {l : List MsV} {cs : Array Value} (ho : OutX base W v l) (h : Ob W g cs 24) (hg : W.grownBy W' (some g)) : OutX base W' v l :=
  ⟨Own.past ho.out h (by decide) hg, fun d hd => (ho.row d hd).past h hg⟩
theorem one_abs {l : List MsV} {a : Ms} (h : l.map MsV.abs = [a]) : ∃ m0, l = [m0] ∧ m0.abs = a := by
  rcases l with _ | ⟨x, _ | ⟨y, l⟩⟩
  · simp at h
  · simp only [List.map_cons, List.map_nil, List.cons.injEq, and_true] at h
    exact ⟨x, rfl, h⟩
  · simp at h
theorem put_one (m : MsV) (w : World) (hm : m.rd w.heap.size w) (hmf : m.few) :
    Calls Try.prog 12 #[bxa 2 none 0 0 0, msv m] w fun e w' => ∃ (A' : Option Addr) (c' : Nat) (y : MsV), e = .returned (bxa 2 A' 1 c' 0) ∧ y.abs = m.abs ∧ OutX w.heap.size w' (.slice A' 1 c') [y] ∧ Below w.heap.size w w' := by
  refine (put_fits 2 0 none [] 0 0 m w OutR.nil_ (fun d hd => by cases hd) rfl (by omega) hm hmf (by decide)).mono ?_
  rintro e w' ⟨A', c', t, rfl, ht, ho, hb⟩
  obtain ⟨y, rfl, hy⟩ := one_abs ht
  exact ⟨A', c', y, rfl, hy, ho, hb⟩
theorem put_two (x : MsV) (A : Option Addr) (c : Nat) (m : MsV) (w : World) (hr : OutR w.heap.size w A [x]) (hf : x.few) (hm : m.rd w.heap.size w) (hmf : m.few) :
    Calls Try.prog 12 #[bxa 2 A 1 c 0, msv m] w fun e w' => ∃ (A' : Option Addr) (c' : Nat) (y z : MsV), e = .returned (bxa 2 A' 2 c' 0) ∧ y.abs = x.abs ∧ z.abs = m.abs ∧ OutX w.heap.size w' (.slice A' 2 c') [y, z] ∧ Below w.heap.size w w' := by
  refine (put_fits 2 0 A [x] 1 c m w hr (fun d hd => by
    obtain rfl : d = x := by simpa using hd
    exact hf) rfl (by omega) hm hmf (by decide)).mono ?_
  rintro e w' ⟨A', c', t, rfl, ht, ho, hb⟩
  obtain ⟨y, z, rfl, hy, hz⟩ := two_abs ht
  exact ⟨A', c', y, z, rfl, hy, hz, ho, hb⟩
theorem take_two (A : Option Addr) (x y : MsV) (c : Nat) (w : World) (hr : OutR w.heap.size w A [x, y]) (hx : x.few) (hy : y.few) (hc : 2 ≤ c) :
    Calls Try.prog 9 #[bxa 2 A 2 c 0] w fun e w' => ∃ (m' : MsV) (A' : Option Addr) (c' : Nat) (z : MsV) (Lm : Nat), e = .returned (.tuple #[msv m', bxa 2 A' 1 c' 0, .bool true]) ∧ m'.abs = x.abs ∧ z.abs = y.abs ∧ w.heap.size ≤ Lm ∧ Lm ≤ w'.heap.size ∧ m'.bnd Lm ∧ m'.own w.heap.size w' ∧ OutX Lm w' (.slice A' 1 c') [z] ∧ Below w.heap.size w w' := by
  refine (take_bnd 2 0 A x [y] c w hr (fun d hd => by
    simp only [List.mem_cons, List.not_mem_nil, or_false] at hd
    rcases hd with rfl | rfl
    · exact hx
    · exact hy) (by simp) (by simpa using hc)).mono ?_
  rintro e w' ⟨m', ⟨r2, A2, l2, c2, x2⟩, rfl, hma, hab, ⟨Lm, hLm, hbd, hown⟩, hmo, hb⟩
  have hab' : (⟨r2, l2.map MsV.abs, x2⟩ : Bx) = ⟨2, [y.abs], 0⟩ := hab
  injection hab' with e1 e2 e3
  subst e1 e3
  obtain ⟨z, rfl, hz⟩ := one_abs e2
  exact ⟨m', A2, c2, z, min Lm w'.heap.size, rfl, hma, hz, by have := hb.size; omega, Nat.min_le_right _ _, hbd.min_ hmo.bnd, hmo, OutX.base_le hown (Nat.min_le_left _ _), hb⟩
end Go.Proofs.Ytbengmgfddnkhaa
