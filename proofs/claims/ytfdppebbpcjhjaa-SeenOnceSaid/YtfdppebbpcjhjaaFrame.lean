/-
  From a contract 'the call returns true, and nothing that was there has changed' to the given statement; and what an argument's reading says of its value.
-/
import Derived.Test.YtfdppebbpcjhjaaBase
import Derived.ProofKit
import Derived.Deep.Slices
import Derived.Deep.Fields
import Derived.SizedLaws
namespace Go.Proofs.Ytfdppebbpcjhjaa
open Go.RowKit Go.ChangeShapes Go.WideShapes Go.ChangeAt Go.Deep

theorem Try.own : ownKnob Try.prog.godebug = none := by kernel_rfl
theorem Try.laidOut : laidOutB Try.prog = true := by kernel_rfl

section
variable {H : Type} {enc : TypeId × Value → H} {P : Program}

theorem trodAll_below (hl : laidOutB P = true) {W W' : World} (hb : Below W.heap.size W W') {sp : Nat → Bool} : ∀ {ts : List TypeId} {vs : List Value} {ds : List (DataW H)} {ps : List MemPlace}, (∀ t ∈ ts, P.readableRec t = true ∧ t < P.types.size) →
    DataW.TrodAll enc P W 0 (fun _ => true) true ts vs ds ps → (∀ p ∈ ps, p.block < W.heap.size) → (∀ p ∈ ps, sp p.block = true) → DataW.TrodAll enc P W' 0 sp true ts vs ds ps
  | [], [], [], _, _, h, _, _ => h
  | t :: ts, v :: vs, d :: ds, _, ht, h, hlt, hsp => by
    obtain ⟨p, q, h1, h2, rfl⟩ := h
    obtain ⟨hr, hrow⟩ := ht t (by simp)
    exact ⟨p, q, WideElems.Trod_stays hl hr hrow h1 (fun x hx => hb.same (hlt x (by simp [hx]))) (fun x hx => hsp x (by simp [hx])), trodAll_below hl hb (fun t ht' => ht t (by simp [ht'])) h2 (fun x hx => hlt x (by simp [hx])) (fun x hx => hsp x (by simp [hx])), rfl⟩
  | [], [], _ :: _, _, _, h, _, _ => h.elim
  | [], _ :: _, _, _, _, h, _, _ => by cases h
  | _ :: _, [], _, _, _, h, _, _ => by cases h
  | _ :: _, _ :: _, [], _, _, h, _, _ => by cases h

theorem law_post (hl : laidOutB P = true) {f : Func} {s : ChangeSpec} {apart fresh handsOn again : Bool} {W W' : World} {args : Array Value} {ds gs : List (DataW H)} {before : List MemPlace} {tb : TypeId}
    (hW : DataW.Whole enc P f.params.toList s.vars apart W args.toList ds gs before) (hvars : s.vars = [])
    (hts : (f.params.toList.all fun t => P.readableRec t && decide (t < P.types.size)) = true) (hrt : f.resultTypes = #[tb]) (htb : P.underlying tb = some .bool)
    (hfn : s.fn H (ds ++ gs) = { results := [.lit (.bool true)], args := ds }) (hb : Below W.heap.size W W') :
    s.post enc P f apart fresh handsOn again W args (.bool true) W' := by
  have hts' : ∀ t ∈ f.params.toList, P.readableRec t = true ∧ t < P.types.size := fun t ht => by
    have := List.all_eq_true.1 hts t ht
    simpa using this
  have hlt : ∀ p ∈ before, p.block < W.heap.size := fun p hp => hW.lt p hp
  have hold : ∀ p ∈ before, (fun b => decide (b < W.heap.size)) p.block = true := fun p hp => by simpa using hlt p hp
  obtain ⟨pa, pv, hA, hV, hps, hz, hn⟩ := hW
  have hpv : gs = [] ∧ pv = [] := by
    rw [hvars] at hV
    cases gs with
    | nil => exact ⟨rfl, hV⟩
    | cons g gs => cases hV
  obtain ⟨rfl, rfl⟩ := hpv
  rw [List.append_nil] at hps
  subst hps
  have hres : ∀ (b : Nat) (sp : Nat → Bool) (hd : Bool), DataW.TrodAll enc P W' b sp hd f.resultTypes.toList ((Value.bool true).resultList f.resultTypes.size) (s.fn H (ds ++ [])).results [] := fun b sp hd => by
    rw [hfn, hrt]
    exact trodAll_mk1 (shut_bool htb true)
  have hargs : ∀ sp : Nat → Bool, (∀ p ∈ before, sp p.block = true) → DataW.TrodAll enc P W' 0 sp true f.params.toList args.toList (s.fn H (ds ++ [])).args before := fun sp hsp => by
    rw [hfn]
    exact trodAll_below hl hb hts' hA hlt hsp
  have hvars' : ∀ sp : Nat → Bool, DataW.TrodVars enc P W' sp s.vars (s.fn H (ds ++ [])).vars [] := fun sp => by
    rw [hfn, hvars]; exact rfl
  have hW2 : DataW.Whole enc P f.params.toList s.vars apart W args.toList ds [] before := ⟨before, [], hA, hV, by simp, hz, hn⟩
  refine ⟨ds, [], before, [], before, [], hW2, hres _ _ _, hargs _ hold, hvars' _, World.keptBut_mono (fun p hp => ⟨hp, .inr (.inl hp)⟩) (hb.frame (· ∈ before)), fun _ => ⟨?_, ?_⟩⟩
  · intro j t r ht hr
    rw [hrt] at ht hr
    cases j with
    | zero =>
      have e1 : tb = t := by simpa using ht
      have e2 : Value.bool true = r := by simpa [Value.resultList] using hr
      subst e1 e2
      exact okWide_bool_mk htb true
    | succ j => simp at ht
  · refine ⟨_, _, [] ++ before ++ [], ⟨[] ++ before, [], trodAll_append (hargs _ (fun _ _ => rfl)) (hres _ _ _), hvars' _, rfl, ?_, ?_⟩, ?_⟩
    · intro b off hp
      have hin : MemPlace.cell b off ∈ before := by simpa using hp
      rw [hb.frozen (hlt _ hin)]
      exact hz b off hin
    · intro ha
      simpa using hn ha
    · intro p hp _
      simpa using hp

variable {w : World} {base : Nat} {spare : Nat → Bool} {held : Bool}

/-! One element: fields that are integers, each of one cell. -/
def intFields (P : Program) (fs : Array Field) (ks : List IntKind) : Bool := decide (ks.length = fs.size) && (List.range fs.size).all fun j => match fs[j]?, ks[j]? with
  | some f, some k => (match P.underlying f.type with | some (.int k') => decide (k' = k) | _ => false)
  | _, _ => false
theorem intFields_at {fs : Array Field} {ks : List IntKind} (h : intFields P fs ks = true) : ks.length = fs.size ∧ ∀ (j : Nat) (f : Field), fs[j]? = some f → ∃ k, ks[j]? = some k ∧ P.underlying f.type = some (.int k) := by
  unfold intFields at h
  rw [Bool.and_eq_true, decide_eq_true_iff] at h
  refine ⟨h.1, fun j f hf => ?_⟩
  have hj : j < fs.size := (Array.getElem?_eq_some_iff.1 hf).1
  have := List.all_eq_true.1 h.2 j (List.mem_range.2 hj)
  rw [hf] at this
  rw [List.getElem?_eq_getElem (by omega)] at this ⊢
  refine ⟨_, rfl, ?_⟩
  dsimp only at this
  split at this
  · rename_i k' he; rw [he]; rw [decide_eq_true_iff] at this; rw [this]
  · cases this

/-- a type of data with so many integers: 'enc' writes it out, and every list of numbers in their kinds is one -/
def Flat {α : Type} (enc : α → List Value) (ks : List IntKind) (ok : α → Prop) : Prop :=
  ∀ zs : List Int, zs.length = ks.length → (∀ (j : Nat) (k : IntKind) (z : Int), ks[j]? = some k → zs[j]? = some z → (Lit.int k z).wf = true) → ∃ x : α, enc x = List.zipWith Value.int ks zs ∧ ok x

theorem trod_flat {t : TypeId} {fs : Array Field} {ks : List IntKind} {fuel : Nat} {cs : List Value} {x : DataW H × List MemPlace} (ht : P.underlying t = some (.struct fs)) (hone : oneCellFields P fs = true) (hC : P.cellsOf t = fs.size)
    (hk : intFields P fs ks = true) (h : DataW.trod enc P w base spare held fuel t cs = some x) :
    ∃ zs : List Int, zs.length = ks.length ∧ cs = List.zipWith Value.int ks zs ∧ ∀ (j : Nat) (k : IntKind) (z : Int), ks[j]? = some k → zs[j]? = some z → (Lit.int k z).wf = true := by
  obtain ⟨hkl, hkf⟩ := intFields_at hk
  obtain ⟨ys, n, _, _, hlen, hyl, hf⟩ := DataW.trod_struct ht h
  rw [hC] at hlen
  have hcell : ∀ j, j < fs.size → ∃ z : Int, ∀ k, ks[j]? = some k → cs[j]? = some (.int k z) ∧ (Lit.int k z).wf = true := by
    intro j hj
    obtain ⟨f, hfj⟩ : ∃ f, fs[j]? = some f := ⟨_, Array.getElem?_eq_getElem hj⟩
    obtain ⟨k, hkj, hu⟩ := hkf j f hfj
    obtain ⟨ho, hc1⟩ := hone_of hone j f hfj
    have h1 := hf j f hfj
    rw [ho, hc1] at h1
    have hone' : (cs.drop j).take 1 = [cs[j]'(by omega)] := by
      rw [List.drop_eq_getElem_cons (by omega)]; rfl
    rw [hone', List.getElem?_eq_getElem (show j < ys.length by omega)] at h1
    obtain ⟨z, e1, _, e2⟩ := DataW.trod_int hu h1
    refine ⟨z, fun k' hk' => ?_⟩
    rw [hkj] at hk'; cases hk'
    refine ⟨?_, e2⟩
    rw [List.getElem?_eq_getElem (by omega)]
    injection e1 with e1 _
    rw [e1]
  obtain ⟨g, hg⟩ := choose_lt hcell
  refine ⟨(List.range fs.size).map g, by simp [hkl], ?_, ?_⟩
  · apply List.ext_getElem?
    intro j
    by_cases hj : j < fs.size
    · obtain ⟨k, hkj⟩ : ∃ k, ks[j]? = some k := ⟨_, List.getElem?_eq_getElem (by omega)⟩
      rw [(hg j hj k hkj).1, List.getElem?_zipWith, hkj]
      simp [hj]
    · rw [List.getElem?_eq_none (by omega), List.getElem?_eq_none (by simp; omega)]
  · intro j k z hk' hz
    have hj : j < fs.size := by
      rw [← hkl]; exact (List.getElem?_eq_some_iff.1 hk').1
    have : z = g j := by simp [hj] at hz; exact hz.symm
    rw [this]
    exact (hg j hj k hk').2

/-- a struct of integers by value -/
theorem open_flat {α : Type} {encf : α → List Value} {ks : List IntKind} {ok : α → Prop} (hfl : Flat encf ks ok) {t : TypeId} {fs : Array Field} {r : Reach} {b0 : Nat} {v : Value} {d : DataW H} {p : List MemPlace}
    (ht : P.underlying t = some (.struct fs)) (hone : oneCellFields P fs = true) (hC : P.cellsOf t = fs.size) (hk : intFields P fs ks = true)
    (hv : Value.okWide P w r b0 t v) (h : DataW.Trod enc P w base spare held t v d p) : ∃ x : α, v = .agg (encf x).toArray ∧ ok x := by
  obtain ⟨cs, rfl, _⟩ := okWide_struct ht hv
  obtain ⟨fuel, hf⟩ := h
  obtain ⟨zs, h1, h2, h3⟩ := trod_flat ht hone hC hk hf
  obtain ⟨x, hx, hok⟩ := hfl zs h1 h3
  refine ⟨x, ?_, hok⟩
  rw [hx, ← h2]
  simp [Value.cells]

theorem cellsAt {a : Addr} {c : Nat} {cs : List Value} (h : w.cells? base a c = some cs) : ∀ (j : Nat) (u : Value), cs[j]? = some u → w.cell? (a.add j) = some u := by
  intro j u hu
  obtain ⟨_, hl, hat⟩ := World.cells?_some h
  have hj : j < c := by rw [← hl]; exact (List.getElem?_eq_some_iff.1 hu).1
  rw [hat j hj, hu]

/-- a slice whose elements each read as one of α -/
theorem open_sl {α : Type} [Inhabited α] {encf : α → List Value} {ok : α → Prop} {t e : TypeId} {c : Nat} {r : Reach} {b0 : Nat} {v : Value} {d : DataW H} {p : List MemPlace} (hc : 0 < c) (hlen : ∀ x, (encf x).length = c)
    (ht : P.underlying t = some (.slice e)) (hC : P.cellsOf e = c)
    (helem : ∀ {fuel : Nat} {cs : List Value} {y : DataW H × List MemPlace}, DataW.trod enc P w base spare held fuel e cs = some y → ∃ x : α, cs = encf x ∧ ok x)
    (hv : Value.okWide P w r b0 t v) (h : DataW.Trod enc P w base spare held t v d p) :
    ∃ (A : Option Addr) (l : List α) (cap : Nat), v = .slice A l.length cap ∧ l.length ≤ cap ∧ cap ≤ maxLen ∧ Rd encf c w.heap.size w A l ∧ ∀ x ∈ l, ok x := by
  obtain ⟨a0, len0, cap0, rfl⟩ := okWide_slice ht hv
  obtain ⟨fuel, hf⟩ := h
  rcases open_slice ht hf with ⟨hcs, _⟩ | ⟨a, len, cap, m, n, D, Pl, hcs, _, hl, hm, hmm, _, hi⟩
  · simp only [Value.cells, List.cons.injEq, and_true] at hcs
    injection hcs with h1 h2 h3
    subst h1 h2 h3
    exact ⟨none, [], 0, rfl, Nat.le_refl _, Nat.zero_le _, Rd.nil_, by simp⟩
  · simp only [Value.cells, List.cons.injEq, and_true] at hcs
    injection hcs with h1 h2 h3
    subst h1 h2 h3
    have hlm : len0 ≤ m := by rw [hmm]; split <;> omega
    have hx : ∀ i, i < len0 → ∃ x : α, ok x ∧ ∀ (j : Nat) (u : Value), (encf x)[j]? = some u → w.cell? ((a.add (i * c)).add j) = some u := by
      intro i hilt
      obtain ⟨cs', hc', ht'⟩ := hi i (by omega)
      obtain ⟨x, hx, hok⟩ := helem ht'
      rw [hC] at hc'
      exact ⟨x, hok, fun j u hu => cellsAt hc' j u (by rw [hx]; exact hu)⟩
    obtain ⟨g, hg⟩ := choose_lt hx
    refine ⟨some a, (List.range len0).map g, cap0, by simp, by simp; exact hl, hm, ?_, ?_⟩
    · intro hl0
      simp only [List.length_map, List.length_range] at hl0
      have hspot : a.spot = none ∧ a.block < w.heap.size := by
        have h0 := hg 0 hl0
        have hne : 0 < (encf (g 0)).length := by rw [hlen]; exact hc
        have hc0 := h0.2 0 _ (List.getElem?_eq_getElem hne)
        simp only [Nat.zero_mul, Addr.add, if_true] at hc0
        unfold World.cell? at hc0
        split at hc0
        · rename_i c1 _ _ hh
          split at hc0
          · cases hc0
          · rename_i hsp
            refine ⟨by simpa using hsp, ?_⟩
            rcases Nat.lt_or_ge a.block w.heap.size with hlt | hge
            · exact hlt
            · rw [Array.getElem?_eq_none hge] at hh; cases hh
        · cases hc0
      refine ⟨a.block, a.off, ?_, hspot.2, ?_⟩
      · obtain ⟨ab, ao, asp⟩ := a
        simp at hspot ⊢
        exact hspot.1
      · intro k x hx j u hu
        have hk : k < len0 := by
          have := (List.getElem?_eq_some_iff.1 hx).1
          simpa using this
        have hxg : x = g k := by simp [hk] at hx; exact hx.symm
        subst hxg
        have := (hg k hk).2 j u hu
        rw [add_add] at this
        obtain ⟨ab, ao, asp⟩ := a
        simp at hspot
        obtain ⟨rfl, _⟩ := hspot
        unfold Addr.add at this
        split at this
        · rename_i h0
          rw [show ao + k * c + j = ao by omega]; exact this
        · rw [show ao + k * c + j = ao + (k * c + j) by omega]; exact this
    · intro x hx
      obtain ⟨i, hi', rfl⟩ := List.mem_map.1 hx
      exact (hg i (List.mem_range.1 hi')).1

/-- a slice of structs of integers -/
theorem open_flats {α : Type} [Inhabited α] {encf : α → List Value} {ks : List IntKind} {ok : α → Prop} (hfl : Flat encf ks ok) {t e : TypeId} {fs : Array Field} {c : Nat} {r : Reach} {b0 : Nat} {v : Value} {d : DataW H} {p : List MemPlace} (hc : 0 < c) (hlen : ∀ x, (encf x).length = c)
    (ht : P.underlying t = some (.slice e)) (he : P.underlying e = some (.struct fs)) (hone : oneCellFields P fs = true) (hC : P.cellsOf e = fs.size) (hcs : fs.size = c) (hk : intFields P fs ks = true)
    (hv : Value.okWide P w r b0 t v) (h : DataW.Trod enc P w base spare held t v d p) :
    ∃ (A : Option Addr) (l : List α) (cap : Nat), v = .slice A l.length cap ∧ l.length ≤ cap ∧ cap ≤ maxLen ∧ Rd encf c w.heap.size w A l ∧ ∀ x ∈ l, ok x :=
  open_sl hc hlen ht (hC.trans hcs) (fun ht' => by
    obtain ⟨zs, h1, h2, h3⟩ := trod_flat he hone hC hk ht'
    obtain ⟨x, hx, hok⟩ := hfl zs h1 h3
    exact ⟨x, h2.trans hx.symm, hok⟩) hv h

/-- a slice of integers -/
theorem open_ints1 {k : IntKind} {t e : TypeId} {r : Reach} {b0 : Nat} {v : Value} {d : DataW H} {p : List MemPlace} (ht : P.underlying t = some (.slice e)) (he : P.underlying e = some (.int k)) (hC : P.cellsOf e = 1)
    (hv : Value.okWide P w r b0 t v) (h : DataW.Trod enc P w base spare held t v d p) :
    ∃ (A : Option Addr) (l : List Int) (cap : Nat), v = .slice A l.length cap ∧ l.length ≤ cap ∧ cap ≤ maxLen ∧ Rd (fun z : Int => [Value.int k z]) 1 w.heap.size w A l ∧ ∀ x ∈ l, (Lit.int k x).wf = true :=
  open_sl (encf := fun z : Int => [Value.int k z]) (ok := fun z => (Lit.int k z).wf = true) (by omega) (fun _ => rfl) ht hC (fun ht' => by
    obtain ⟨z, h1, _, h3⟩ := DataW.trod_int he ht'
    exact ⟨z, h1, h3⟩) hv h
end

theorem wf_u8 {n : Int} (h : (Lit.int .u8 n).wf = true) : 0 ≤ n ∧ n ≤ 255 := by simpa [Lit.wf, IntKind.min, IntKind.max, IntKind.signed, IntKind.bits] using h
theorem wf_u16 {n : Int} (h : (Lit.int .u16 n).wf = true) : 0 ≤ n ∧ n ≤ 65535 := by simpa [Lit.wf, IntKind.min, IntKind.max, IntKind.signed, IntKind.bits] using h
theorem wf_u32 {n : Int} (h : (Lit.int .u32 n).wf = true) : 0 ≤ n ∧ n ≤ 4294967295 := by simpa [Lit.wf, IntKind.min, IntKind.max, IntKind.signed, IntKind.bits] using h
theorem wf_u64 {n : Int} (h : (Lit.int .u64 n).wf = true) : 0 ≤ n ∧ n ≤ 18446744073709551615 := by simpa [Lit.wf, IntKind.min, IntKind.max, IntKind.signed, IntKind.bits] using h
theorem wf_i64 {n : Int} (h : (Lit.int .i64 n).wf = true) : -9223372036854775808 ≤ n ∧ n ≤ 9223372036854775807 := by simpa [Lit.wf, IntKind.min, IntKind.max, IntKind.signed, IntKind.bits] using h
theorem wf_i32 {n : Int} (h : (Lit.int .i32 n).wf = true) : -2147483648 ≤ n ∧ n ≤ 2147483647 := by simpa [Lit.wf, IntKind.min, IntKind.max, IntKind.signed, IntKind.bits] using h

end Go.Proofs.Ytfdppebbpcjhjaa
