/-
  Put and Take, way by way (21).
-/
import Derived.Test.YtbengmgfddnkhaaPut
import Derived.Test.YtbengmgfddnkhaaTake21
namespace Go.Proofs.Ytbengmgfddnkhaa
open Go.RowKit
theorem OutX.cap {base : Nat} {W : World} {A : Option Addr} {n c : Nat} {l : List MsV} (h : OutX base W (.slice A n c) l) : n = l.length ∧ n ≤ c ∧ c ≤ maxLen := by
  rcases h.out.2 with ⟨hv, h0⟩ | ⟨g, cap, cur, hv, _, _, hn, hm, _, _⟩
  · injection hv with h1 h2 h3
    refine ⟨by omega, by omega, by unfold maxLen; omega⟩
  · injection hv with h1 h2 h3
    refine ⟨h2, by omega, by omega⟩
abbrev bxa (r : Int) (A : Option Addr) (n c : Nat) (x : Int) : Value := .agg #[.int .i64 r, .slice A n c, .int .i64 x]
theorem put_fits (r x : Int) (A : Option Addr) (l : List MsV) (n c : Nat) (m : MsV) (w : World) (hr : OutR w.heap.size w A l) (hf : ∀ d ∈ l, d.few) (hn : l.length = n) (hlen : n ≤ 1000) (hm : m.rd w.heap.size w) (hmf : m.few) (hlt : (n : Int) < r) :
    Calls Try.prog 12 #[bxa r A n c x, msv m] w fun e w' => ∃ A' c' t, e = .returned (bxa r A' (n + 1) c' x) ∧ t.map MsV.abs = l.map MsV.abs ++ [m.abs] ∧ OutX w.heap.size w' (.slice A' (n + 1) c') t ∧ Below w.heap.size w w' := by
  subst hn
  refine (put_any r x A l c m w hr hf hlen hm hmf).mono ?_
  rintro e w' ⟨⟨r2, A2, l2, c2, x2⟩, rfl, hab, hown, hb⟩
  rw [put_yes (b := ⟨r, A, l, c, x⟩) hlt] at hab
  injection hab with e1 e2 e3
  simp only at e1 e2 e3
  subst e1 e3
  have hl : l2.length = l.length + 1 := by have := congrArg List.length e2; simpa using this
  rw [BxV.own] at hown
  simp only [hl] at hown
  exact ⟨A2, c2, l2, by rw [← hl], e2, hown, hb⟩
theorem put_full (r x : Int) (A : Option Addr) (l : List MsV) (n c : Nat) (m : MsV) (w : World) (hr : OutR w.heap.size w A l) (hf : ∀ d ∈ l, d.few) (hn : l.length = n) (hlen : n ≤ 1000) (hm : m.rd w.heap.size w) (hmf : m.few) (hlt : ¬(n : Int) < r) :
    Calls Try.prog 12 #[bxa r A n c x, msv m] w fun e w' => ∃ A' c' t, e = .returned (bxa r A' n c' (wrap64 (x + 1))) ∧ t.map MsV.abs = l.map MsV.abs ∧ OutX w.heap.size w' (.slice A' n c') t ∧ Below w.heap.size w w' := by
  subst hn
  refine (put_any r x A l c m w hr hf hlen hm hmf).mono ?_
  rintro e w' ⟨⟨r2, A2, l2, c2, x2⟩, rfl, hab, hown, hb⟩
  rw [put_no (b := ⟨r, A, l, c, x⟩) hlt] at hab
  injection hab with e1 e2 e3
  simp only at e1 e2 e3
  subst e1 e3
  have hl : l2.length = l.length := by have := congrArg List.length e2; simpa using this
  rw [BxV.own] at hown
  simp only [hl] at hown
  exact ⟨A2, c2, l2, by rw [← hl], e2, hown, hb⟩
theorem take_cons (r x : Int) (A : Option Addr) (m : MsV) (t : List MsV) (n c : Nat) (w : World) (hr : OutR w.heap.size w A (m :: t)) (hf : ∀ d ∈ m :: t, d.few) (hn : t.length = n) (hlen : n + 1 ≤ 1000) (hc : n + 1 ≤ c) (hcm : c ≤ maxLen) :
    Calls Try.prog 9 #[bxa r A (n + 1) c x] w fun e w' => ∃ (m' : MsV) (A' : Option Addr) (c' : Nat) (t' : List MsV), e = .returned (.tuple #[msv m', bxa r A' n c' x, .bool true]) ∧ m'.abs = m.abs ∧ t'.map MsV.abs = t.map MsV.abs ∧ m'.own w.heap.size w' ∧ OutX w.heap.size w' (.slice A' n c') t' ∧ Below w.heap.size w w' := by
  subst hn
  refine (take_any r x A (m :: t) c w hr hf (by simpa using hlen) (by simpa using hc)).mono ?_
  rintro e w' ⟨m', ⟨r2, A2, l2, c2, x2⟩, rfl, hma, hab, hmo, hown, hb⟩
  have hab' : (⟨r2, l2.map MsV.abs, x2⟩ : Bx) = ⟨r, t.map MsV.abs, x⟩ := hab
  injection hab' with e1 e2 e3
  subst e1 e3
  have hl : l2.length = t.length := by have := congrArg List.length e2; simpa using this
  rw [BxV.own] at hown
  simp only [hl] at hown
  exact ⟨m', A2, c2, l2, by rw [← hl]; rfl, hma, e2, hmo, hown, hb⟩
theorem take_none (r x : Int) (A : Option Addr) (c : Nat) (w : World) :
    Calls Try.prog 9 #[bxa r A 0 c x] w fun e w' => ∃ (m' : MsV) (A' : Option Addr) (c' : Nat), e = .returned (.tuple #[msv m', bxa r A' 0 c' x, .bool false]) ∧ m'.abs = nilMs ∧ m'.own w.heap.size w' ∧ OutX w.heap.size w' (.slice A' 0 c') [] ∧ Below w.heap.size w w' := by
  have hr : OutR w.heap.size w A [] := ⟨Rd.nil_, (fun m hm => by cases hm)⟩
  refine (take_any0 r x A c w hr).mono ?_
  rintro e w' ⟨m', ⟨r2, A2, l2, c2, x2⟩, rfl, hma, hab, hmo, hown, hb⟩
  have hab' : (⟨r2, l2.map MsV.abs, x2⟩ : Bx) = ⟨r, [], x⟩ := hab
  injection hab' with e1 e2 e3
  subst e1 e3
  obtain rfl : l2 = [] := by simpa using e2
  exact ⟨m', A2, c2, rfl, hma, hmo, hown, hb⟩
theorem bx_few {l : List MsV} (h : ∀ m ∈ l.map MsV.abs, m.few) : ∀ m ∈ l, m.few := fun m hm => MsV.few_abs.2 (h _ (List.mem_map.2 ⟨m, hm, rfl⟩))
theorem few_map {l : List MsV} (h : ∀ m ∈ l, m.few) : ∀ m ∈ l.map MsV.abs, m.few := fun m hm => by
  obtain ⟨x, hx, rfl⟩ := List.mem_map.1 hm
  exact MsV.few_abs.1 (h x hx)
/-- a cell of a message -/
theorem stM_cells {W : World} {g : Nat} {m : MsV} (h : Ob W g (msA m) 39) {k : Int} (hk : m.abs.k = k) : W.cell? ⟨g, 0, none⟩ = some (.int .u8 k) := by
  subst hk; exact h.blk.2.1 0 _ rfl
end Go.Proofs.Ytbengmgfddnkhaa
