/-
  Behind whatever comes no member falls: plain laws (14).
-/
import Derived.Test.YtgkdljfhmflmjaaMergeL
import Derived.Test.YtgkdljfhmflmjaaChanged
namespace Go.Proofs.Ytgkdljfhmflmjaa
open Go.RowKit
def riseP (m n : Mb) : Prop := m.i ≤ n.i ∧ (m.s = 3 → n.i = m.i → n.s = 3) ∧ n.s ≤ 3 ∧ (n.i = 0 ↔ n.s = 0)
theorem rise_refl {m : Mb} (h : goodM m) : riseP m m := by
  obtain ⟨⟨⟨a0, a1⟩, ⟨b0, b1⟩, c0, c1⟩, g1, g2⟩ := h
  refine ⟨by omega, fun h _ => h, ?_, ?_⟩
  · by_cases h0 : m.i = 0
    · have := g1 h0; omega
    · have := g2 h0; omega
  · constructor
    · intro h0; exact (g1 h0).1
    · intro hs
      by_cases h0 : m.i = 0
      · exact h0
      · have := g2 h0; omega
theorem rise_heard {m : Mb} {inc : Int} (h : goodM m) (h0 : 0 ≤ inc) (h1 : inc ≤ 65535) : riseP m (heardM inc m) ∧ goodM (heardM inc m) := by
  unfold heardM
  split
  · rename_i hc
    have hp : 0 < inc := by obtain ⟨⟨⟨a0, _⟩, _⟩, _⟩ := h; omega
    refine ⟨⟨by dsimp only; omega, ?_, by dsimp only; omega, by dsimp only; omega⟩, ⟨⟨by dsimp only; omega, by dsimp only; omega, by dsimp only; omega⟩, ?_, ?_⟩⟩
    · intro hs he; dsimp only at he ⊢; omega
    · intro hi; dsimp only at hi; omega
    · intro _; dsimp only; omega
  · exact ⟨rise_refl h, h⟩
theorem rise_left {m : Mb} {inc : Int} (h : goodM m) (h0 : 0 ≤ inc) (h1 : inc ≤ 65535) : riseP m (leftM inc m) ∧ goodM (leftM inc m) := by
  have hh := h
  obtain ⟨⟨⟨a0, a1⟩, ⟨b0, b1⟩, c0, c1⟩, g1, g2⟩ := h
  unfold leftM
  split
  · refine ⟨⟨by dsimp only; omega, ?_, by dsimp only; omega, by dsimp only; omega⟩, ⟨⟨by dsimp only; omega, by dsimp only; omega, by dsimp only; omega⟩, ?_, ?_⟩⟩
    · intro hs he; rfl
    · intro hi; dsimp only at hi; omega
    · intro _; dsimp only; omega
  · split
    · refine ⟨⟨by dsimp only; omega, ?_, by dsimp only; omega, by dsimp only; omega⟩, ⟨⟨by dsimp only; omega, by dsimp only; omega, by dsimp only; omega⟩, ?_, ?_⟩⟩
      · intro hs he; rfl
      · intro hi; dsimp only at hi; omega
      · intro _; dsimp only; omega
    · exact ⟨rise_refl hh, hh⟩
theorem rise_mrg {m : Mb} {o : List Mb} {self : Int} {j : Nat} (h : goodM m) (ho : Good o) : riseP m (mrg1 o self j m) ∧ goodM (mrg1 o self j m) ∧ ((j : Int) = self → mrg1 o self j m = m) := by
  have hh := h
  obtain ⟨⟨⟨a0, a1⟩, ⟨b0, b1⟩, c0, c1⟩, g1, g2⟩ := h
  unfold mrg1
  split
  · rename_i y hy
    obtain ⟨⟨⟨d0, d1⟩, ⟨e0, e1⟩, f0, f1⟩, k1, k2⟩ := ho y (List.mem_of_getElem? hy)
    split
    · rename_i hc
      obtain ⟨hc1, hc2⟩ := hc
      have hn : m.i < y.i ∨ (y.i = m.i ∧ 0 < y.i ∧ m.s < y.s) := by simpa [newerM] using hc2
      have hp : ¬ y.i = 0 := by omega
      have := k2 hp
      refine ⟨⟨by dsimp only; omega, ?_, by dsimp only; omega, by dsimp only; omega⟩, ⟨⟨by dsimp only; omega, by dsimp only; omega, by dsimp only; omega⟩, ?_, ?_⟩, fun he => absurd he hc1⟩
      · intro hs he; dsimp only at he ⊢; omega
      · intro hi; dsimp only at hi; omega
      · intro _; dsimp only; omega
    · exact ⟨rise_refl hh, hh, fun _ => rfl⟩
  · exact ⟨rise_refl hh, hh, fun _ => rfl⟩
theorem rise_tick {m : Mb} {self after : Int} {j : Nat} (h : goodM m) : riseP m (tick1 self after j m) ∧ goodM (tick1 self after j m) ∧ ((j : Int) = self → tick1 self after j m = m) := by
  have hh := h
  obtain ⟨⟨⟨a0, a1⟩, ⟨b0, b1⟩, c0, c1⟩, g1, g2⟩ := h
  unfold tick1
  split
  · exact ⟨rise_refl hh, hh, fun _ => rfl⟩
  · rename_i hu
    have hs : m.s = 1 ∨ m.s = 2 := by
      cases hb : upB m
      · exact absurd (Or.inr hb) hu
      · simpa [upB] using hb
    have hj : ¬ (j : Int) = self := fun he => hu (Or.inl he)
    have hi : ¬ m.i = 0 := fun h0 => by have := g1 h0; omega
    have hq : 0 ≤ q1 m.q ∧ q1 m.q ≤ 255 := by unfold q1; split <;> omega
    split
    · refine ⟨⟨by dsimp only; omega, ?_, by dsimp only; omega, by dsimp only; omega⟩, ⟨⟨by dsimp only; omega, by dsimp only; omega, by dsimp only; omega⟩, ?_, ?_⟩, fun he => absurd he hj⟩
      · intro hs3 _; omega
      · intro h0; dsimp only at h0; omega
      · intro _; dsimp only; omega
    · refine ⟨⟨by dsimp only; omega, ?_, by dsimp only; omega, by dsimp only; omega⟩, ⟨⟨by dsimp only; omega, by dsimp only; omega, by dsimp only; omega⟩, ?_, ?_⟩, fun he => absurd he hj⟩
      · intro hs3 _; omega
      · intro h0; dsimp only at h0; omega
      · intro _; dsimp only; omega
/-- what the inner loop of PulseRise asks of the table behind an op -/
def Rises (self : Int) (fix : Bool) (x n : List Mb) : Prop := n.length = x.length ∧ ∀ (j : Nat) (m y : Mb), x[j]? = some m → n[j]? = some y → riseP m y ∧ (fix = true → (j : Int) = self → y = m)
theorem modL_get {l : List Mb} {k j : Nat} {f : Mb → Mb} {m : Mb} (hm : l[j]? = some m) : (modL l k f)[j]? = some (if j = k then f m else m) := by
  unfold modL
  split
  · rename_i x hx
    by_cases h : j = k
    · subst h
      rw [hx] at hm; cases hm
      rw [if_pos rfl, List.getElem?_set_self (List.getElem?_eq_some_iff.1 hx).1]
    · rw [if_neg h, List.getElem?_set_ne (by omega), hm]
  · rename_i hx
    by_cases h : j = k
    · subst h; rw [hx] at hm; cases hm
    · rw [if_neg h, hm]
theorem modL_lenR {l : List Mb} {k : Nat} {f : Mb → Mb} : (modL l k f).length = l.length := by
  unfold modL; split <;> simp
theorem get_of_len {x n : List Mb} (hl : n.length = x.length) {j : Nat} {y : Mb} (hy : n[j]? = some y) : ∃ m, x[j]? = some m := by
  have := (List.getElem?_eq_some_iff.1 hy).1
  exact ⟨_, List.getElem?_eq_getElem (by omega)⟩
theorem rises_mod {x : List Mb} {k : Nat} {f : Mb → Mb} (self : Int) (hx : Good x) (hf : ∀ m, goodM m → riseP m (f m) ∧ goodM (f m)) : Rises self false x (modL x k f) ∧ Good (modL x k f) := by
  refine ⟨⟨modL_lenR, fun j m y hm hy => ⟨?_, fun h => by cases h⟩⟩, fun y hy => ?_⟩
  · rw [modL_get hm] at hy
    cases hy
    have hg := hx m (List.mem_of_getElem? hm)
    split
    · exact (hf m hg).1
    · exact rise_refl hg
  · obtain ⟨j, hj⟩ := List.mem_iff_getElem?.1 hy
    obtain ⟨m, hm⟩ := get_of_len modL_lenR hj
    rw [modL_get hm] at hj
    cases hj
    have hg := hx m (List.mem_of_getElem? hm)
    split
    · exact (hf m hg).2
    · exact hg
theorem rises_map {x : List Mb} {g : Nat → Mb → Mb} (self : Int) (hx : Good x) (hg : ∀ j m, goodM m → riseP m (g j m) ∧ goodM (g j m) ∧ ((j : Int) = self → g j m = m)) : Rises self true x (x.mapIdx g) ∧ Good (x.mapIdx g) := by
  have hl : (x.mapIdx g).length = x.length := by simp
  refine ⟨⟨hl, fun j m y hm hy => ?_⟩, fun y hy => ?_⟩
  · rw [List.getElem?_mapIdx, hm] at hy
    cases hy
    have h := hg j m (hx m (List.mem_of_getElem? hm))
    exact ⟨h.1, fun _ => h.2.2⟩
  · obtain ⟨j, hj⟩ := List.mem_iff_getElem?.1 hy
    obtain ⟨m, hm⟩ := get_of_len hl hj
    rw [List.getElem?_mapIdx, hm] at hj
    cases hj
    exact (hg j m (hx m (List.mem_of_getElem? hm))).2.1
theorem rises_heard {x : List Mb} {k : Nat} {inc : Int} (self : Int) (hx : Good x) (h0 : 0 ≤ inc) (h1 : inc ≤ 65535) : Rises self false x (modL x k (heardM inc)) ∧ Good (modL x k (heardM inc)) := rises_mod self hx (fun _ hm => rise_heard hm h0 h1)
theorem rises_left {x : List Mb} {k : Nat} {inc : Int} (self : Int) (hx : Good x) (h0 : 0 ≤ inc) (h1 : inc ≤ 65535) : Rises self false x (modL x k (leftM inc)) ∧ Good (modL x k (leftM inc)) := rises_mod self hx (fun _ hm => rise_left hm h0 h1)
theorem rises_merge {x o : List Mb} {self : Int} (hx : Good x) (ho : Good o) : Rises self true x (mergeL x o self) ∧ Good (mergeL x o self) := rises_map self hx (fun _ _ hm => rise_mrg hm ho)
theorem rises_tick {x : List Mb} {self after : Int} (hx : Good x) : Rises self true x (tickL x self after) ∧ Good (tickL x self after) := rises_map self hx (fun _ _ hm => rise_tick hm)
end Go.Proofs.Ytgkdljfhmflmjaa
