/-
  A loop over an iterator whose yields are a known stream: the iterator's contract counts its rounds; an iterator without end is left by its body.
-/
import Derived.Test.YthockpallaoelaaBase
import Derived.RangeFuncNested
import Derived.RangeFuncBound
import Derived.RangeFuncCalls
import Derived.RangeFuncLeaves
import Derived.RangeFuncBox
import Derived.OwnWalkIn
import Derived.TacticsInMore
import Derived.LoopNIn
import Derived.LoopIn
namespace Go.Proofs.Ythockpallaoelaa
open Go.RowKit
section
variable {F : Fence} {n : Nat} {P : Program}

/-- an iterator that yields st 0, st 1, ..: N of them, or without end ('inf': then its caller stops it ahead of N) -/
def Seqs (F : Fence) (n : Nat) (P : Program) (g : Nat) (lb : Array Value) (st : Nat → Array Value) (Kp : World → World → Prop) (N : Nat) (inf : Bool) (w : World) : Prop :=
  ∀ (l : Nat) (J Jx : Nat → World → Prop) (W : World), Below w.heap.size w W → AbidesFrom W.heap.size J → AbidesFrom W.heap.size Jx →
    (inf = true → ∀ k W1, J k W1 → k < N) →
    (∀ k W1, J k W1 → k < N → YieldAt F (n - 1) P l (st k) W1 fun e W' => (e = .returned (.bool true) ∧ J (k + 1) W' ∧ Kp W1 W') ∨ (e = .returned (.bool false) ∧ Jx (k + 1) W')) →
    J 0 W →
    CallsIn F n P g (#[.func (.yield l) #[] #[]] ++ lb) W fun e W' => (∃ v, e = .returned v) ∧ ((inf = false ∧ J N W') ∨ ∃ k, Jx k W')

/-- how the body of a round may be left -/
def leftAt (B : Nat) (Kp : World → World → Prop) (I : Nat → World → Prop) (Ix : Code → Nat → World → Prop) (k : Nat) (W : World) : Exit → Act → World → Prop
  | .normal, _, W' => KeepsFrom B W W' ∧ Kp W W' ∧ I k W'
  | .ret, _, W' => KeepsFrom B W W' ∧ Ix .ret k W'
  | .exit id, _, W' => KeepsFrom B W W' ∧ Ix (.exit id) k W'
  | .goto t, _, W' => KeepsFrom B W W' ∧ Ix (.goto t) k W'
  | .panic _, _, _ => False
  | .outgrown, _, _ => False

theorem wp_seqs {g : Operand} {ps : Array Tmp} {assign body : Code} {Q : Exit → Act → World → Prop} {a : Act} {w : World}
    (hro : F.round = none) (h1 : 1 ≤ n) {gf : Nat} {lb : Array Value} (hg : a.eval g = .func (.func gf) #[] lb) (hFg : F.fn gf) (eg : ∀ args w, (callFunc gf args).run P w = .ok (.enter gf args) w)
    {st : Nat → Array Value} {Kp : World → World → Prop} {N : Nat} {inf : Bool} {w0 : World} (hseq : Seqs F (n - 1) P gf lb st Kp N inf w0)
    (hKt : ∀ {A B C : World}, Kp A B → Kp B C → Kp A C) (hKb : ∀ (W : World) (l : Nat) (o o' : Obj), w.heap.size ≤ l → W.heap[l]? = some o → o.isCells = false → o.isWalk = false → Kp W (W.putObj l o')) (hb0 : Below w0.heap.size w0 w) (hps : ∀ k, (st k).size = ps.size)
    (I : Nat → World → Prop) (Ix : Code → Nat → World → Prop) (hI : OwnFrom w.heap.size I) (hIx : ∀ c, OwnFrom w.heap.size (Ix c)) (h0 : I 0 w) (hinf : inf = true → ∀ k W, I k W → k < N) (a₁ : Nat → Act)
    (hassign : ∀ (l k : Nat) (W : World) (K : Act → World → Prop), K (a₁ k) W →
      assign.wpIn (F.inRound l) (n - 1 - 1) P (Exit.then K (fun _ _ _ => False)) { tmps := (ps.zip (st k)).foldl (fun t (p, v) => t.setIfInBounds p v) a.tmps, defers := [] } W)
    (hbody : ∀ (l k : Nat) (W : World), I k W → k < N → body.wpIn (F.inRound l) (n - 1 - 1) P (leftAt w.heap.size Kp I Ix (k + 1) W) (a₁ k) W)
    (hdone : ∀ (D : Nat) (W : World), w.heap.size ≤ D → inf = false → I N W → W.heap[D]? = some (.deferred (some [])) → Q .normal { a with defers := { target := .collected D, args := #[] } :: a.defers } W)
    (hstop : ∀ (D : Nat) (c : Code) (k : Nat) (W : World), w.heap.size ≤ D → Ix c k W → W.heap[D]? = some (.deferred (some [])) → c.wpIn F n P Q { a with defers := { target := .collected D, args := #[] } :: a.defers } W) :
    (Code.rangeFunc g ps assign body).wpIn F n P Q a w := by
  refine wpIn_rangeFunc fun fn hfn => ?_
  rw [hro]
  have ⟨rec, hrec⟩ : ∃ rec : LoopState → Option Code → Loop, rec = fun s p => { state := s, pending := p, fn, tmps := a.tmps, params := ps, assign, body, defers := w.heap.size } := ⟨_, rfl⟩
  -- the two blocks of the loop's own: D for what its rounds defer, L for its record
  have ⟨D, hD⟩ : ∃ D, D = w.heap.size := ⟨_, rfl⟩
  have ⟨V, hV⟩ : ∃ V, V = (w.alloc (.deferred (some []))).alloc (.loop (rec .ready none)) := ⟨_, rfl⟩
  have vL : V.heap[D + 1]? = some (.loop (rec .ready none)) := by
    have h := World.alloc_heap_new (w.alloc (.deferred (some []))) (.loop (rec .ready none))
    rw [hV, hD]; simpa using h
  have vD : V.heap[D]? = some (.deferred (some [])) := by
    rw [hV, hD]; exact (Below.heap_alloc _ _ _ (by simp)).trans (World.alloc_heap_new w _)
  have vb : Below w0.heap.size w0 V := by rw [hV]; exact hb0.trans ((((Below.refl _ w).alloc (Nat.le_refl _) _).alloc (by simp) _).mono hb0.size)
  have vI : I 0 V := by rw [hV]; exact hI.alloc _ (hI.alloc _ h0)
  have vS : V.heap.size = D + 1 + 1 := by rw [hV, hD]; simp
  have put : ∀ (W : World) (o o' : Obj), W.heap[D + 1]? = some o → o.isCells = false → o.isWalk = false → (W.putObj (D + 1) o').heap[D + 1]? = some o' ∧ (∀ x, W.heap[D]? = some x → (W.putObj (D + 1) o').heap[D]? = some x) ∧ Kp W (W.putObj (D + 1) o') :=
    fun W o o' h hc hw => ⟨World.putObj_heap_same (Array.getElem?_eq_some_iff.1 h).1, fun x hx => (World.putObj_heap_other (by omega)).trans hx, hKb W (D + 1) o o' (by omega) h hc hw⟩
  rw [← hD] at hI hIx hbody hdone hstop
  have carry : ∀ {A B : World} {row : Option Nat}, A.grownBy B row → (∀ r, row = some r → V.heap.size ≤ r ∧ ∃ o : Obj, A.heap[r]? = some o ∧ o.isWalk = true) → ∀ (c : Nat) (o : Obj), c < V.heap.size → A.heap[c]? = some o → B.heap[c]? = some o :=
    fun {A B row} hg hr c o hc ho => (hg.block c (Array.getElem?_eq_some_iff.1 ho).1 (fun e => by have := (hr c e.symm).1; omega)).trans ho
  have abide : ∀ {A B : World} {row : Option Nat}, A.grownBy B row → (∀ r, row = some r → V.heap.size ≤ r ∧ ∃ o : Obj, A.heap[r]? = some o ∧ o.isWalk = true) → (∀ r, row = some r → D ≤ r ∧ ∃ o : Obj, A.heap[r]? = some o ∧ o.isCells = false) :=
    fun _ hr r e => by obtain ⟨hB, o, ho, hw⟩ := hr r e; exact ⟨by omega, o, ho, Obj.not_cells_of_walk hw⟩
  refine ⟨D + 1, [{ target := .collected D, args := #[] }], V, { target := .fn (.func gf) lb, args := #[.func (.yield (D + 1)) #[] #[]] }, V, gf, #[.func (.yield (D + 1)) #[] #[]] ++ lb, V, ?_, ?_, ?_, ?_, fun _ => h1, ?_⟩
  · rw [hV, hrec, hD]; exact run_enterLoop_outer _ _ _ _ _
  · simp only [resolve, hg]; simp [go_sem]
  · intro f' hf'; simp [Target.leads] at hf'; subst hf'; exact hFg
  · simp [invoke, go_sem, eg]
  · refine (hseq (D + 1) (fun k W => I k W ∧ W.heap[D + 1]? = some (.loop (rec .ready none)) ∧ W.heap[D]? = some (.deferred (some [])))
      (fun k W => ∃ c, Ix c k W ∧ W.heap[D + 1]? = some (.loop (rec .done (some c))) ∧ W.heap[D]? = some (.deferred (some []))) V vb
      (fun k A B row hs hg hr => ⟨hI k A B row hs.1 hg (abide hg hr), carry hg hr _ _ (by omega) hs.2.1, carry hg hr _ _ (by omega) hs.2.2⟩)
      (fun k A B row hs hg hr => hs.elim fun c hs => ⟨c, hIx c k A B row hs.1 hg (abide hg hr), carry hg hr _ _ (by omega) hs.2.1, carry hg hr _ _ (by omega) hs.2.2⟩)
      (fun e k W hs => hinf e k W hs.1) ?_ ⟨vI, vL, vD⟩).mono ?_
    · rintro k W ⟨hi, hl, hd⟩ hk
      have hy := run_yield (P := P) (args := st k) hl (by rw [hrec]; exact hps k)
      rw [hrec] at hy
      obtain ⟨p1, p2, p3⟩ := put W _ (.loop { rec .ready none with state := .busy }) hl rfl rfl
      refine ⟨fn, _, assign, body, hy, roundIn_of_wpIn hfn (hassign _ k W _ ⟨_, run_beginRound hl (by rw [hrec]), ?_⟩)⟩
      refine wpIn_mono (hbody _ k _ (hI.putObj _ hi (by omega) hl rfl) hk) ?_
      -- the round's end: what it says, and the record then
      have fin : ∀ (j : Option Code) (U : World), KeepsFrom D (W.putObj (D + 1) (.loop { rec .ready none with state := .busy })) U → ∃ o, U.heap[D + 1]? = some o ∧ o.isCells = false ∧ o.isWalk = false ∧
          (Instr.endRound (D + 1) j).run P U = .ok (.bool j.isNone) (U.putObj (D + 1) (.loop (rec (if j.isNone then .ready else .done) j))) ∧ (U.heap[D]? = some (.deferred (some []))) := fun j U hU => by
        have u1 := hU.same _ _ (by omega) p1 rfl
        have hr := run_endRound (P := P) j u1
        rw [hrec] at hr ⊢
        exact ⟨_, u1, rfl, rfl, hr, hU.same _ _ (Nat.le_refl _) (p2 _ hd) rfl⟩
      have jump : ∀ (c : Code) (U : World), KeepsFrom D (W.putObj (D + 1) (.loop { rec .ready none with state := .busy })) U → Ix c (k + 1) U →
          ∃ v U', (Instr.endRound (D + 1) (some c)).run P U = .ok v U' ∧ v = .bool false ∧ ∃ c, Ix c (k + 1) U' ∧ U'.heap[D + 1]? = some (.loop (rec .done (some c))) ∧ U'.heap[D]? = some (.deferred (some [])) := fun c U hU hx => by
        obtain ⟨o, u1, u2, u3, u4, u5⟩ := fin (some c) U hU
        obtain ⟨q1, q2, _⟩ := put U o (.loop (rec .done (some c))) u1 u2 u3
        exact ⟨_, _, u4, rfl, c, (hIx c).putObj _ hx (by omega) u1 u2, q1, q2 _ u5⟩
      rintro e a3 U hp
      cases e with
      | normal =>
        obtain ⟨hU, hp3, hi3⟩ := hp
        obtain ⟨o, u1, u2, u3, u4, u5⟩ := fin none U hU
        obtain ⟨q1, q2, q3⟩ := put U o (.loop (rec .ready none)) u1 u2 u3
        exact ⟨_, _, u4, .inl ⟨rfl, ⟨hI.putObj _ hi3 (by omega) u1 u2, q1, q2 _ u5⟩, hKt (hKt p3 hp3) q3⟩⟩
      | ret => obtain ⟨v, U', u4, rfl, hx⟩ := jump .ret U hp.1 hp.2; exact ⟨_, _, u4, .inr ⟨rfl, hx⟩⟩
      | exit id => obtain ⟨v, U', u4, rfl, hx⟩ := jump (.exit id) U hp.1 hp.2; exact ⟨_, _, u4, .inr ⟨rfl, hx⟩⟩
      | goto t => obtain ⟨v, U', u4, rfl, hx⟩ := jump (.goto t) U hp.1 hp.2; exact ⟨_, _, u4, .inr ⟨rfl, hx⟩⟩
      | panic ch => exact hp.elim
      | outgrown => exact hp.elim
    · rintro e U ⟨⟨v, rfl⟩, (⟨hi0, hi, hl, hd⟩ | ⟨k, c, hi, hl, hd⟩)⟩
      · have hr := run_endLoop (P := P) hl (by rw [hrec]; simp)
        obtain ⟨_, q2, _⟩ := put U _ (.loop { rec .ready none with state := .exhausted }) hl rfl rfl
        rw [hrec] at hr q2
        refine ⟨none, _, hr, hdone D _ (Nat.le_refl _) hi0 ?_ (q2 _ hd)⟩
        exact hI.putObj _ hi (by omega) hl rfl
      · have hr := run_endLoop (P := P) hl (by rw [hrec]; simp)
        obtain ⟨_, q2, _⟩ := put U _ (.loop { rec .done (some c) with state := .exhausted }) hl rfl rfl
        rw [hrec] at hr q2
        refine ⟨some c, _, hr, hstop D c k _ (Nat.le_refl _) ?_ (q2 _ hd)⟩
        exact (hIx c).putObj _ hi (by omega) hl rfl
end
end Go.Proofs.Ythockpallaoelaa
