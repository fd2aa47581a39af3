/-
  Ids as keys of a map; the set of a list of ids.
-/
import Derived.Test.YtfdppebbpcjhjaaIds
import Derived.Maps.OwnSet
import Derived.DeepKeys4
namespace Go.Proofs.Ytfdppebbpcjhjaa
open Go.RowKit Go.Maps

theorem Try.laidOutB : laidOutB Try.prog = true := by kernel_rfl
theorem Try.idRow : (35 : TypeId) < Try.prog.types.size := of_decide_eq_true (by kernel_rfl)
theorem Try.posTypes : (0 : Nat) < Try.prog.types.size := of_decide_eq_true (by kernel_rfl)
theorem Try.idWide : (match Try.prog.underlying 35 with | some (.array _ _) | some (.struct _) => true | _ => false) = true := by rw [Try.underlying35]
theorem idLaw : Keyed Try.prog 35 := Keyed.of_law (deep_law_laid Try.laidOutB (m := 2) (by omega) Try.idRow (by kernel_rfl) Try.idWide)
def idLit (x : Id) : Lit := .string (keyBytes [.int .u8 x.n, .int .u16 x.i, .int .u32 x.s])
theorem Try.idKt : Try.prog.keyType 35 = true := by kernel_rfl
theorem Try.idCells : Try.prog.cellsOf 35 = 3 := by kernel_rfl
theorem Try.u8Cells : Try.prog.cellsOf 5 = 1 := by kernel_rfl
theorem Try.u16Cells : Try.prog.cellsOf 22 = 1 := by kernel_rfl
theorem Try.u32Cells : Try.prog.cellsOf 28 = 1 := by kernel_rfl
theorem Try.someTypes : ∃ m, Try.prog.types.size = m + 1 := ⟨Try.prog.types.size - 1, by have := Try.posTypes; omega⟩
theorem idKey {x : Id} (h : x.ok) : keyOf Try.prog 35 (idv x) = some (idLit x) := by
  obtain ⟨⟨a1, a2⟩, ⟨b1, b2⟩, c1, c2⟩ := h
  obtain ⟨m, hm⟩ := Try.someTypes
  unfold keyOf
  simp only [Try.underlying35]
  rw [if_pos (by simp [Try.idKt, Value.formed, Try.underlying35, Try.idCells]), hm]
  unfold Program.keyLits
  simp [idLit, Try.underlying35, Value.cells, Try.idCells, Try.u8Cells, Try.u16Cells, Try.u32Cells, Program.keyLits, Try.underlying5, Try.underlying22, Try.underlying28, Lit.wf, IntKind.min, IntKind.max, IntKind.signed, IntKind.bits, a1, a2, b1, b2, c1, c2]
theorem idLit_inj {x y : Id} (hx : x.ok) (hy : y.ok) (h : idLit x = idLit y) : x = y := by
  have h1 := idKey hx
  rw [h] at h1
  have := idLaw.inj h1 (idKey hy)
  obtain ⟨a, b, c⟩ := x
  obtain ⟨a', b', c'⟩ := y
  simp [idv] at this
  obtain ⟨rfl, rfl, rfl⟩ := this
  rfl
/-- the set of a list of ids -/
def idSet (acc : List Id) : DataW Unit := setOf (.agg []) (acc.map idLit)
theorem idSet_nil : idSet [] = .map [] := by simp [idSet, setOf]
theorem idSet_snoc (acc : List Id) (x : Id) : idSet (acc ++ [x]) = (idSet acc).put (idLit x) (.agg []) := by
  unfold idSet; rw [List.map_append, List.map_cons, List.map_nil, setOf_snoc]
theorem has_idSet {acc : List Id} (ha : ∀ y ∈ acc, y.ok) {x : Id} (hx : x.ok) : Maps.has (idSet acc) (idLit x) = decide (x ∈ acc) := by
  unfold idSet
  rw [has_setOf _ _ _ (fun y hy => by obtain ⟨z, hz, rfl⟩ := List.mem_map.1 hy; exact idLaw.key (idKey (ha z hz))), List.any_map]
  rw [Bool.eq_iff_iff, List.any_eq_true, decide_eq_true_iff]
  constructor
  · rintro ⟨y, hy, h⟩
    have e : idLit y = idLit x := by
      by_cases e : idLit y = idLit x
      · exact e
      · have h' : (idLit y).sameKey (idLit x) = true := h
        rw [sameKey_ne e] at h'; cases h'
    exact idLit_inj (ha y hy) hx e ▸ hy
  · intro h
    exact ⟨x, h, by show (idLit x).sameKey (idLit x) = true; exact WideAt.sameKey_self (idLaw.key (idKey hx))⟩
end Go.Proofs.Ytfdppebbpcjhjaa
