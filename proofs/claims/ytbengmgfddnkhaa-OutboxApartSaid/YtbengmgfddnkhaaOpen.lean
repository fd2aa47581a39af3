/-
  Reading arguments whose fields are slices.
-/
import Derived.Test.YtbengmgfddnkhaaFrame
namespace Go.Proofs.Ytbengmgfddnkhaa
open Go.RowKit Go.ChangeShapes Go.WideShapes Go.ChangeAt Go.Deep
section
variable {P : Program} {H : Type} {enc : TypeId × Value → H} {w : World} {base : Nat} {spare : Nat → Bool} {held : Bool}
/-- a slice's one cell -/
theorem trod_sl {α : Type} [Inhabited α] {encf : α → List Value} {ok : α → Prop} {t e : TypeId} {c : Nat} {cs0 : List Value} {y0 : DataW H × List MemPlace} {fuel : Nat} (hc : 0 < c) (hlen : ∀ x, (encf x).length = c)
    (ht : P.underlying t = some (.slice e)) (hC : P.cellsOf e = c)
    (helem : ∀ {fuel : Nat} {cs : List Value} {y : DataW H × List MemPlace}, DataW.trod enc P w base spare held fuel e cs = some y → ∃ x : α, cs = encf x ∧ ok x)
    (hf : DataW.trod enc P w base spare held fuel t cs0 = some y0) :
    ∃ (A : Option Addr) (l : List α) (cap : Nat), cs0 = [.slice A l.length cap] ∧ l.length ≤ cap ∧ cap ≤ maxLen ∧ Rd encf c w.heap.size w A l ∧ ∀ x ∈ l, ok x := by
  rcases open_slice ht hf with ⟨hcs, _⟩ | ⟨a, len0, cap0, m, n, D, Pl, hcs, _, hl, hm, hmm, _, hi⟩
  · exact ⟨none, [], 0, hcs, Nat.le_refl _, Nat.zero_le _, Rd.nil_, by simp⟩
  · have hlm : len0 ≤ m := by rw [hmm]; split <;> omega
    have hx : ∀ i, i < len0 → ∃ x : α, ok x ∧ ∀ (j : Nat) (u : Value), (encf x)[j]? = some u → w.cell? ((a.add (i * c)).add j) = some u := by
      intro i hilt
      obtain ⟨cs', hc', ht'⟩ := hi i (by omega)
      obtain ⟨x, hx, hok⟩ := helem ht'
      rw [hC] at hc'
      exact ⟨x, hok, fun j u hu => cellsAt hc' j u (by rw [hx]; exact hu)⟩
    obtain ⟨g, hg⟩ := choose_lt hx
    refine ⟨some a, (List.range len0).map g, cap0, by simpa using hcs, by simp; exact hl, hm, ?_, ?_⟩
    · intro hl0
      simp only [List.length_map, List.length_range] at hl0
      have hspot : a.spot = none ∧ a.block < w.heap.size := by
        have h0 := hg 0 hl0
        have hne : 0 < (encf (g 0)).length := by rw [hlen]; exact hc
        have hc0 := h0.2 0 _ (List.getElem?_eq_getElem hne)
        simp only [Nat.zero_mul, Addr.add, if_true] at hc0
        unfold World.cell? at hc0
        split at hc0
        · rename_i c1 _ _ hh
          split at hc0
          · cases hc0
          · rename_i hsp
            refine ⟨by simpa using hsp, ?_⟩
            rcases Nat.lt_or_ge a.block w.heap.size with hlt | hge
            · exact hlt
            · rw [Array.getElem?_eq_none hge] at hh; cases hh
        · cases hc0
      refine ⟨a.block, a.off, ?_, hspot.2, ?_⟩
      · obtain ⟨ab, ao, asp⟩ := a
        simp at hspot ⊢
        exact hspot.1
      · intro k x hx j u hu
        have hk : k < len0 := by
          have := (List.getElem?_eq_some_iff.1 hx).1
          simpa using this
        have hxg : x = g k := by simp [hk] at hx; exact hx.symm
        subst hxg
        have := (hg k hk).2 j u hu
        rw [add_add] at this
        obtain ⟨ab, ao, asp⟩ := a
        simp at hspot
        obtain ⟨rfl, _⟩ := hspot
        unfold Addr.add at this
        split at this
        · rename_i h0
          rw [show ao + k * c + j = ao by omega]; exact this
        · rw [show ao + k * c + j = ao + (k * c + j) by omega]; exact this
    · intro x hx
      obtain ⟨i, hi', rfl⟩ := List.mem_map.1 hx
      exact (hg i (List.mem_range.1 hi')).1
/-- a slice of integers, its one cell -/
theorem trod_ints {k : IntKind} {t e : TypeId} {cs0 : List Value} {y0 : DataW H × List MemPlace} {fuel : Nat} (ht : P.underlying t = some (.slice e)) (he : P.underlying e = some (.int k)) (hC : P.cellsOf e = 1) (hf : DataW.trod enc P w base spare held fuel t cs0 = some y0) :
    ∃ (A : Option Addr) (l : List Int) (cap : Nat), cs0 = [.slice A l.length cap] ∧ l.length ≤ cap ∧ cap ≤ maxLen ∧ Rd (fun z : Int => [Value.int k z]) 1 w.heap.size w A l ∧ ∀ x ∈ l, (Lit.int k x).wf = true :=
  trod_sl (encf := fun z : Int => [Value.int k z]) (ok := fun z => (Lit.int k z).wf = true) (by omega) (fun _ => rfl) ht hC (fun ht' => by
    obtain ⟨z, h1, _, h3⟩ := DataW.trod_int he ht'
    exact ⟨z, h1, h3⟩) hf
/-- a struct of a slice of integers and an integer, each of one cell -/
theorem open_ints_int {k k2 : IntKind} {t e : TypeId} {fs : Array Field} {f0 f1 : Field} {r : Reach} {b0 : Nat} {v : Value} {d : DataW H} {p : List MemPlace}
    (ht : P.underlying t = some (.struct fs)) (hone : oneCellFields P fs = true) (hC : P.cellsOf t = fs.size) (hfs : fs = #[f0, f1]) (h0 : P.underlying f0.type = some (.slice e)) (he : P.underlying e = some (.int k)) (hCe : P.cellsOf e = 1) (h1 : P.underlying f1.type = some (.int k2))
    (hv : Value.okWide P w r b0 t v) (h : DataW.Trod enc P w base spare held t v d p) :
    ∃ (A : Option Addr) (l : List Int) (cap : Nat) (z : Int), v = .agg #[.slice A l.length cap, .int k2 z] ∧ l.length ≤ cap ∧ cap ≤ maxLen ∧ Rd (fun z : Int => [Value.int k z]) 1 w.heap.size w A l ∧ (∀ x ∈ l, (Lit.int k x).wf = true) ∧ (Lit.int k2 z).wf = true := by
  obtain ⟨cs, rfl, _⟩ := okWide_struct ht hv
  obtain ⟨fuel, hf⟩ := h
  obtain ⟨ys, n, _, _, hlen, hyl, hff⟩ := DataW.trod_struct ht hf
  rw [hC, hfs] at hlen
  subst hfs
  have e0 := hff 0 f0 rfl
  have e1 := hff 1 f1 rfl
  obtain ⟨o0, c0⟩ := hone_of hone 0 f0 rfl
  obtain ⟨o1, c1⟩ := hone_of hone 1 f1 rfl
  rw [o0, c0] at e0
  rw [o1, c1] at e1
  obtain ⟨l, hl⟩ : ∃ l, l = (Value.agg cs).cells.toList := ⟨_, rfl⟩
  rw [← hl] at hlen e0 e1
  obtain ⟨a, b, rfl⟩ : ∃ a b, l = [a, b] := by
    match l, hlen with
    | [a, b], _ => exact ⟨a, b, rfl⟩
  obtain ⟨y0, y1, rfl⟩ : ∃ a b, ys = [a, b] := by
    match ys, hyl with
    | [a, b], _ => exact ⟨a, b, rfl⟩
  obtain ⟨A, l, cap, hA, hc, hm, hr, hw⟩ := trod_ints h0 he hCe (e0.trans rfl)
  obtain ⟨z, hz, _, hwz⟩ := DataW.trod_int h1 (e1.trans rfl)
  have hz' : a = .slice A l.length cap := by simpa using hA
  have hz2 : b = .int k2 z := by simpa using hz
  subst hz' hz2
  refine ⟨A, l, cap, z, ?_, hc, hm, hr, hw, hwz⟩
  have : cs.toList = [.slice A l.length cap, .int k2 z] := by
    simpa [Value.cells] using hl.symm
  congr 1
  rw [← Array.toArray_toList (xs := cs), this]
end
end Go.Proofs.Ytbengmgfddnkhaa
