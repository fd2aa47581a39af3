/-
  Reading arguments: messages, outboxes (21).
-/
import Derived.Test.YtbengmgfddnkhaaBox
import Derived.Test.YtbengmgfddnkhaaOpen
namespace Go.Proofs.Ytbengmgfddnkhaa
open Go.RowKit Go.ChangeShapes Go.WideShapes Go.ChangeAt Go.Deep
/-- a descriptor as it comes -/
def DsV.ok (w : World) (d : DsV) : Prop := d.rd w.heap.size w ∧ d.l.length ≤ d.c ∧ d.c ≤ maxLen
/-- a message as it comes -/
structure MsV.ok (w : World) (x : MsV) : Prop where
  rd : x.rd w.heap.size w
  L : x.L.length ≤ x.Lc ∧ x.Lc ≤ maxLen
  T : x.T.length ≤ x.Tc ∧ x.Tc ≤ maxLen
  V : x.V.length ≤ x.Vc ∧ x.Vc ≤ maxLen
  D : x.D.length ≤ x.Dc ∧ x.Dc ≤ maxLen
  M : x.M.length ≤ x.Mc ∧ x.Mc ≤ maxLen
  I : x.I.length ≤ x.Ic ∧ x.Ic ≤ maxLen
  F : ∀ d ∈ x.L, d.ok w
theorem dropc {α : Type} {cs L R : List α} {a c : Nat} (h1 : (cs.drop a).take c = L) (h2 : cs.drop (a + c) = R) : cs.drop a = L ++ R := by
  rw [← h1, ← h2, ← List.drop_drop]; exact (List.take_append_drop _ _).symm
section
variable {H : Type} {enc : TypeId × Value → H} {w : World} {base : Nat} {spare : Nat → Bool} {held : Bool}
theorem fields_of {P : Program} {t : TypeId} {fs : Array Field} {fuel : Nat} {cs : List Value} {x : DataW H × List MemPlace} (ht : P.underlying t = some (.struct fs)) (h : DataW.trod enc P w base spare held fuel t cs = some x) :
    cs.length = P.cellsOf t ∧ ∃ n, ∀ (i : Nat) (f : Field), fs[i]? = some f → ∃ y, DataW.trod enc P w base spare held n f.type ((cs.drop f.offset).take (P.cellsOf f.type)) = some y := by
  obtain ⟨xs, n, _, _, hl, hx, hf⟩ := DataW.trod_struct ht h
  refine ⟨hl, n, fun i f hi => ?_⟩
  have := hf i f hi
  have hlt : i < xs.length := by rw [hx]; exact (Array.getElem?_eq_some_iff.1 hi).1
  rw [List.getElem?_eq_getElem hlt] at this
  exact ⟨_, this⟩
theorem trod_id21 {t : TypeId} {fs : Array Field} {fuel : Nat} {cs : List Value} {y : DataW H × List MemPlace} (he : Try.prog.underlying t = some (.struct fs)) (hone : oneCellFields Try.prog fs = true) (hC : Try.prog.cellsOf t = fs.size) (hk : intFields Try.prog fs [.u8, .u16, .u32] = true)
    (h : DataW.trod enc Try.prog w base spare held fuel t cs = some y) : ∃ x : Id, cs = idc x ∧ x.ok := by
  obtain ⟨zs, g1, g2, g3⟩ := trod_flat he hone hC hk h
  obtain ⟨x, hx, hok⟩ := flat_id zs g1 g3
  exact ⟨x, g2.trans hx.symm, hok⟩
theorem flat_sp : Flat spc [.i32, .i32] (fun _ => True) := by
  intro zs hl hw
  match zs, hl with
  | [a, b], _ => exact ⟨⟨a, b⟩, rfl, trivial⟩
theorem trod_sp {fuel : Nat} {cs : List Value} {y : DataW H × List MemPlace} (h : DataW.trod enc Try.prog w base spare held fuel 51 cs = some y) : ∃ x : Sp, cs = spc x ∧ True := by
  obtain ⟨zs, g1, g2, g3⟩ := trod_flat Try.underlying51 (by kernel_rfl) (by kernel_rfl) (by kernel_rfl) h
  obtain ⟨x, hx, hok⟩ := flat_sp zs g1 g3
  exact ⟨x, g2.trans hx.symm, trivial⟩
theorem trod_mb {fuel : Nat} {cs : List Value} {y : DataW H × List MemPlace} (h : DataW.trod enc Try.prog w base spare held fuel 57 cs = some y) : ∃ x : Mb, cs = memc x ∧ x.ok := by
  obtain ⟨zs, g1, g2, g3⟩ := trod_flat Try.underlying57 (by kernel_rfl) (by kernel_rfl) (by kernel_rfl) h
  obtain ⟨x, hx, hok⟩ := flat_mem zs g1 g3
  exact ⟨x, g2.trans hx.symm, hok⟩
theorem cells1 {t : TypeId} {cs : List Value} {L : List Value} (hC : Try.prog.cellsOf t = 1) {o : Nat} (h : (cs.drop o).take (Try.prog.cellsOf t) = L) : (cs.drop o).take 1 = L := by rw [← hC]; exact h
theorem trod_ds {fuel : Nat} {cs : List Value} {y : DataW H × List MemPlace} (h : DataW.trod enc Try.prog w base spare held fuel 55 cs = some y) : ∃ d : DsV, cs = dsc d ∧ d.ok w := by
  obtain ⟨hl, n, hf⟩ := fields_of Try.underlying55 h
  rw [show Try.prog.cellsOf 55 = 4 by kernel_rfl] at hl
  obtain ⟨_, e0⟩ := hf 0 _ rfl
  obtain ⟨_, e1⟩ := hf 1 _ rfl
  obtain ⟨_, e2⟩ := hf 2 _ rfl
  obtain ⟨_, e3⟩ := hf 3 _ rfl
  obtain ⟨z0, h0, _, _⟩ := DataW.trod_int Try.underlying5 e0
  obtain ⟨z1, h1, _, _⟩ := DataW.trod_int Try.underlying25 e1
  obtain ⟨z2, h2, _, _⟩ := DataW.trod_int Try.underlying5 e2
  obtain ⟨A, l, c, h3, hc, hm, hr, _⟩ := trod_sl (encf := spc) (ok := fun _ => True) (c := 2) (by omega) spc_len Try.underlying53 (by kernel_rfl) (fun ht => trod_sp ht) e3
  refine ⟨⟨z0, z1, z2, A, l, c⟩, ?_, hr, hc, hm⟩
  have k0 := cells1 (show Try.prog.cellsOf 5 = 1 by kernel_rfl) h0
  have k1 := cells1 (show Try.prog.cellsOf 25 = 1 by kernel_rfl) h1
  have k2 := cells1 (show Try.prog.cellsOf 5 = 1 by kernel_rfl) h2
  have k3 := cells1 (show Try.prog.cellsOf 53 = 1 by kernel_rfl) h3
  exact dropc (a := 0) (c := 1) k0 (dropc (a := 1) (c := 1) k1 (dropc (a := 2) (c := 1) k2 (dropc (a := 3) (c := 1) k3 (List.drop_eq_nil_of_le (by omega)))))
theorem trod_ev {fuel : Nat} {cs : List Value} {y : DataW H × List MemPlace} (h : DataW.trod enc Try.prog w base spare held fuel 34 cs = some y) : ∃ (e : Id) (VA : Option Addr) (V : List Int) (Vc : Nat) (DA : Option Addr) (D : List Int) (Dc : Nat), cs = idc e ++ ([.slice VA V.length Vc] ++ ([.slice DA D.length Dc] ++ [])) ∧ (V.length ≤ Vc ∧ Vc ≤ maxLen) ∧ (D.length ≤ Dc ∧ Dc ≤ maxLen) ∧ Rd i32c 1 w.heap.size w VA V ∧ Rd u8c 1 w.heap.size w DA D := by
  obtain ⟨hl, n, hf⟩ := fields_of Try.underlying34 h
  rw [show Try.prog.cellsOf 34 = 5 by kernel_rfl] at hl
  obtain ⟨_, e0⟩ := hf 0 _ rfl
  obtain ⟨_, e1⟩ := hf 1 _ rfl
  obtain ⟨_, e2⟩ := hf 2 _ rfl
  obtain ⟨e, h0, _⟩ := trod_id21 Try.underlying30 (by kernel_rfl) (by kernel_rfl) (by kernel_rfl) e0
  obtain ⟨VA, V, Vc, h1, hc1, hm1, hr1, _⟩ := trod_sl (encf := i32c) (ok := fun z => (Lit.int .i32 z).wf = true) (c := 1) (by omega) (fun _ => rfl) Try.underlying31 (by kernel_rfl) (fun ht => by
    obtain ⟨z, g1, _, g3⟩ := DataW.trod_int Try.underlying21 ht
    exact ⟨z, g1, g3⟩) e1
  obtain ⟨DA, D, Dc, h2, hc2, hm2, hr2, _⟩ := trod_sl (encf := u8c) (ok := fun z => (Lit.int .u8 z).wf = true) (c := 1) (by omega) (fun _ => rfl) Try.underlying32 (by kernel_rfl) (fun ht => by
    obtain ⟨z, g1, _, g3⟩ := DataW.trod_int Try.underlying5 ht
    exact ⟨z, g1, g3⟩) e2
  refine ⟨e, VA, V, Vc, DA, D, Dc, ?_, ⟨hc1, hm1⟩, ⟨hc2, hm2⟩, hr1, hr2⟩
  have k0 : (cs.drop 0).take 3 = idc e := by rw [← show Try.prog.cellsOf 30 = 3 by kernel_rfl]; exact h0
  have k1 := cells1 (show Try.prog.cellsOf 31 = 1 by kernel_rfl) h1
  have k2 := cells1 (show Try.prog.cellsOf 32 = 1 by kernel_rfl) h2
  exact dropc (a := 0) (c := 3) k0 (dropc (a := 3) (c := 1) k1 (dropc (a := 4) (c := 1) k2 (List.drop_eq_nil_of_le (by omega))))
theorem trod_ms {fuel : Nat} {cs : List Value} {y : DataW H × List MemPlace} (h : DataW.trod enc Try.prog w base spare held fuel 39 cs = some y) : ∃ x : MsV, cs = msc x ∧ x.ok w := by
  obtain ⟨hl, n, hf⟩ := fields_of Try.underlying39 h
  rw [show Try.prog.cellsOf 39 = 17 by kernel_rfl] at hl
  obtain ⟨_, e0⟩ := hf 0 _ rfl
  obtain ⟨_, e1⟩ := hf 1 _ rfl
  obtain ⟨_, e2⟩ := hf 2 _ rfl
  obtain ⟨_, e3⟩ := hf 3 _ rfl
  obtain ⟨_, e4⟩ := hf 4 _ rfl
  obtain ⟨_, e5⟩ := hf 5 _ rfl
  obtain ⟨_, e6⟩ := hf 6 _ rfl
  obtain ⟨_, e7⟩ := hf 7 _ rfl
  obtain ⟨_, e8⟩ := hf 8 _ rfl
  obtain ⟨_, e9⟩ := hf 9 _ rfl
  obtain ⟨_, e10⟩ := hf 10 _ rfl
  obtain ⟨z0, h0, _, _⟩ := DataW.trod_int Try.underlying5 e0
  obtain ⟨z1, h1, _, _⟩ := DataW.trod_int Try.underlying5 e1
  obtain ⟨z2, h2, _, _⟩ := DataW.trod_int Try.underlying25 e2
  obtain ⟨z3, h3, _, _⟩ := DataW.trod_int Try.underlying5 e3
  obtain ⟨LA, L, Lc, h4, hc4, hm4, hr4, ho4⟩ := trod_sl (encf := dsc) (ok := DsV.ok w) (c := 4) (by omega) dsc_len Try.underlying26 (by kernel_rfl) (fun ht => trod_ds ht) e4
  obtain ⟨TA, T, Tc, h5, hc5, hm5, hr5, _⟩ := trod_sl (encf := memc) (ok := Mb.ok) (c := 3) (by omega) memc_len Try.underlying27 (by kernel_rfl) (fun ht => trod_mb ht) e5
  obtain ⟨e, VA, V, Vc, DA, D, Dc, h6, hv6, hd6, hr6, hr6'⟩ := trod_ev e6
  obtain ⟨z7, h7, _, _⟩ := DataW.trod_int Try.underlying5 e7
  obtain ⟨o, h8, _⟩ := trod_id21 Try.underlying35 (by kernel_rfl) (by kernel_rfl) (by kernel_rfl) e8
  obtain ⟨MA, M, Mc, h9, hc9, hm9, hr9, _⟩ := trod_sl (encf := idc) (ok := Id.ok) (c := 3) (by omega) idc_len Try.underlying36 (by kernel_rfl) (fun ht => trod_id21 Try.underlying35 (by kernel_rfl) (by kernel_rfl) (by kernel_rfl) ht) e9
  obtain ⟨IA, I, Ic, h10, hc10, hm10, hr10, _⟩ := trod_sl (encf := idc) (ok := Id.ok) (c := 3) (by omega) idc_len Try.underlying37 (by kernel_rfl) (fun ht => trod_id21 Try.underlying30 (by kernel_rfl) (by kernel_rfl) (by kernel_rfl) ht) e10
  refine ⟨⟨z0, z1, z2, z3, LA, L, Lc, TA, T, Tc, e, VA, V, Vc, DA, D, Dc, z7, o, MA, M, Mc, IA, I, Ic⟩, ?_, ⟨hr4, fun d hd => (ho4 d hd).1, hr5, hr6, hr6', hr9, hr10⟩, ⟨hc4, hm4⟩, ⟨hc5, hm5⟩, hv6, hd6, ⟨hc9, hm9⟩, ⟨hc10, hm10⟩, ho4⟩
  have k0 := cells1 (show Try.prog.cellsOf 5 = 1 by kernel_rfl) h0
  have k1 := cells1 (show Try.prog.cellsOf 5 = 1 by kernel_rfl) h1
  have k2 := cells1 (show Try.prog.cellsOf 25 = 1 by kernel_rfl) h2
  have k3 := cells1 (show Try.prog.cellsOf 5 = 1 by kernel_rfl) h3
  have k4 := cells1 (show Try.prog.cellsOf 26 = 1 by kernel_rfl) h4
  have k5 := cells1 (show Try.prog.cellsOf 27 = 1 by kernel_rfl) h5
  have k6 : (cs.drop 6).take 5 = idc e ++ ([.slice VA V.length Vc] ++ ([.slice DA D.length Dc] ++ [])) := by rw [← show Try.prog.cellsOf 34 = 5 by kernel_rfl]; exact h6
  have k7 := cells1 (show Try.prog.cellsOf 5 = 1 by kernel_rfl) h7
  have k8 : (cs.drop 12).take 3 = idc o := by rw [← show Try.prog.cellsOf 35 = 3 by kernel_rfl]; exact h8
  have k9 := cells1 (show Try.prog.cellsOf 36 = 1 by kernel_rfl) h9
  have k10 := cells1 (show Try.prog.cellsOf 37 = 1 by kernel_rfl) h10
  exact dropc (a := 0) (c := 1) k0 (dropc (a := 1) (c := 1) k1 (dropc (a := 2) (c := 1) k2 (dropc (a := 3) (c := 1) k3 (dropc (a := 4) (c := 1) k4 (dropc (a := 5) (c := 1) k5 (dropc (a := 6) (c := 5) k6 (dropc (a := 11) (c := 1) k7 (dropc (a := 12) (c := 3) k8 (dropc (a := 15) (c := 1) k9 (dropc (a := 16) (c := 1) k10 (List.drop_eq_nil_of_le (by omega))))))))))))
/-- a message by value -/
theorem open_ms {r : Reach} {b0 : Nat} {v : Value} {d : DataW H} {p : List MemPlace} (hv : Value.okWide Try.prog w r b0 39 v) (h : DataW.Trod enc Try.prog w base spare held 39 v d p) : ∃ x : MsV, v = msv x ∧ x.ok w := by
  obtain ⟨cs, rfl, _⟩ := okWide_struct Try.underlying39 hv
  obtain ⟨fuel, hf⟩ := h
  obtain ⟨x, hx, hok⟩ := trod_ms hf
  refine ⟨x, ?_, hok⟩
  simp only [Value.cells] at hx
  unfold msv
  congr 1
  exact Array.toList_inj.1 hx
/-- an outbox by value -/
theorem open_bx {r : Reach} {b0 : Nat} {v : Value} {d : DataW H} {p : List MemPlace} (hv : Value.okWide Try.prog w r b0 24 v) (h : DataW.Trod enc Try.prog w base spare held 24 v d p) :
    ∃ (rm x : Int) (A : Option Addr) (l : List MsV) (c : Nat), v = .agg #[.int .i64 rm, .slice A l.length c, .int .i64 x] ∧ l.length ≤ c ∧ c ≤ maxLen ∧ OutR w.heap.size w A l ∧ ∀ m ∈ l, m.ok w := by
  obtain ⟨cs, rfl, _⟩ := okWide_struct Try.underlying24 hv
  obtain ⟨fuel, hf0⟩ := h
  obtain ⟨hl, n, hf⟩ := fields_of Try.underlying24 hf0
  rw [show Try.prog.cellsOf 24 = 3 by kernel_rfl] at hl
  obtain ⟨_, e0⟩ := hf 0 _ rfl
  obtain ⟨_, e1⟩ := hf 1 _ rfl
  obtain ⟨_, e2⟩ := hf 2 _ rfl
  obtain ⟨z0, h0, _, _⟩ := DataW.trod_int Try.underlying3 e0
  obtain ⟨A, l, c, h1, hc, hm, hr, ho⟩ := trod_sl (encf := msc) (ok := MsV.ok w) (c := 17) (by omega) msc_len Try.underlying22 (by kernel_rfl) (fun ht => trod_ms ht) e1
  obtain ⟨z2, h2, _, _⟩ := DataW.trod_int Try.underlying3 e2
  refine ⟨z0, z2, A, l, c, ?_, hc, hm, ⟨hr, fun m hm => (ho m hm).rd⟩, ho⟩
  have k0 := cells1 (show Try.prog.cellsOf 3 = 1 by kernel_rfl) h0
  have k1 := cells1 (show Try.prog.cellsOf 22 = 1 by kernel_rfl) h1
  have k2 := cells1 (show Try.prog.cellsOf 3 = 1 by kernel_rfl) h2
  have hcs : cs.toList = [.int .i64 z0, .slice A l.length c, .int .i64 z2] := dropc (a := 0) (c := 1) k0 (dropc (a := 1) (c := 1) k1 (dropc (a := 2) (c := 1) k2 (List.drop_eq_nil_of_le (by have h3 : cs.toList.length = 3 := hl; omega))))
  congr 1
  exact Array.toList_inj.1 hcs
end
end Go.Proofs.Ytbengmgfddnkhaa
