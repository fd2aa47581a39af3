/-
  A map of ids to int that the call fills by 'm[x]++': what it reads as, and the laws of its operations (08, SeenOnce).
-/
import Derived.Test.YtfdppebbpcjhjaaKey
import Derived.Maps.OwnOps
import Derived.Maps.RangeWalk
import Derived.WideKeyEntry
import Derived.OrdersHeld
namespace Go.Proofs.Ytfdppebbpcjhjaa
open Go.RowKit Go.Maps
open Go.ChangeMaps Go.MapKept Go.WideElems
theorem idKeyLaw : WideMaps.KeyLaw Try.prog 35 := deep_law_laid Try.laidOutB (m := 2) (by omega) Try.idRow (by kernel_rfl) Try.idWide
theorem Try.zeroInt (w : World) : (zeroValue 3).run Try.prog w = .ok (.int .i64 0) w := by kernel_rfl
abbrev i64d (z : Int) : DataW Unit := .lit (.int .i64 z)
/-- the map in which each of acc has 1 -/
def met (acc : List Id) : DataW Unit := setOf (i64d 1) (acc.map idLit)
theorem met_nil : met [] = .map [] := by simp [met, setOf]
theorem met_snoc (acc : List Id) (x : Id) : met (acc ++ [x]) = (met acc).put (idLit x) (i64d 1) := by
  unfold met; rw [List.map_append, List.map_cons, List.map_nil, setOf_snoc]
theorem met_isMap (acc : List Id) (ha : ∀ y ∈ acc, y.ok) : IsMap (met acc) :=
  (tidy_setOf _ _ (fun y hy => by obtain ⟨z, hz, rfl⟩ := List.mem_map.1 hy; exact idLaw.key (idKey (ha z hz)))).isMap
theorem has_met {acc : List Id} (ha : ∀ y ∈ acc, y.ok) {x : Id} (hx : x.ok) : Maps.has (met acc) (idLit x) = decide (x ∈ acc) := by
  unfold met
  rw [has_setOf _ _ _ (fun y hy => by obtain ⟨z, hz, rfl⟩ := List.mem_map.1 hy; exact idLaw.key (idKey (ha z hz))), List.any_map]
  rw [Bool.eq_iff_iff, List.any_eq_true, decide_eq_true_iff]
  constructor
  · rintro ⟨y, hy, h⟩
    have e : idLit y = idLit x := by
      by_cases e : idLit y = idLit x
      · exact e
      · have h' : (idLit y).sameKey (idLit x) = true := h
        rw [sameKey_ne e] at h'; cases h'
    exact idLit_inj (ha y hy) hx e ▸ hy
  · intro h
    exact ⟨x, h, by show (idLit x).sameKey (idLit x) = true; exact WideAt.sameKey_self (idLaw.key (idKey hx))⟩
/-- a key that is there is one of acc -/
theorem has_met_id {acc : List Id} (ha : ∀ y ∈ acc, y.ok) {kl : Lit} (h : Maps.has (met acc) kl = true) : ∃ x ∈ acc, kl = idLit x := by
  unfold met at h
  rw [has_setOf _ _ _ (fun y hy => by obtain ⟨z, hz, rfl⟩ := List.mem_map.1 hy; exact idLaw.key (idKey (ha z hz))), List.any_eq_true] at h
  obtain ⟨y, hy, hs⟩ := h
  obtain ⟨x, hx, rfl⟩ := List.mem_map.1 hy
  refine ⟨x, hx, ?_⟩
  by_cases e : idLit x = kl
  · exact e.symm
  · rw [sameKey_ne e] at hs; cases hs
theorem met_at (acc : List Id) (ha : ∀ y ∈ acc, y.ok) {x : Id} (hx : x.ok) : (met acc).atKey (idLit x) (i64d 0) = i64d (if x ∈ acc then 1 else 0) := by
  rcases h : decide (x ∈ acc) with _ | _
  · have h' : x ∉ acc := by simpa using h
    rw [if_neg h', atKey_of_not_has]
    rw [has_met ha hx, h]
  · have h' : x ∈ acc := by simpa using h
    rw [if_pos h']
    clear h
    have key : ∀ n, ∀ l : List Id, l.length = n → (∀ y ∈ l, y.ok) → x ∈ l → (met l).atKey (idLit x) (i64d 0) = i64d 1 := by
      intro n
      induction n with
      | zero =>
        intro l hl _ hm
        cases l with
        | nil => cases hm
        | cons y t => simp at hl
      | succ n ih =>
        intro l hl hok hm
        rcases List.eq_nil_or_concat l with rfl | ⟨t, y, rfl⟩
        · cases hm
        · rw [List.concat_eq_append] at hl hok hm ⊢
          have hok' : ∀ z ∈ t, z.ok := fun z hz => hok z (by simp [hz])
          rw [met_snoc]
          by_cases e : y = x
          · subst e
            exact atKey_put_same (met_isMap t hok') (idLaw.key (idKey hx)) _ _
          · rw [atKey_put_other (fun e' => e (idLit_inj (hok y (by simp)) hx e'.symm))]
            refine ih t (by simpa using hl) hok' ?_
            rcases List.mem_append.1 hm with hm | hm
            · exact hm
            · exact absurd (by simpa using hm : x = y).symm e
    exact key _ acc rfl ha h'
theorem i64d_inj {a b : Int} (h : i64d a = i64d b) : a = b := by injection h with h; injection h
section
variable {w : World} {b n : Nat} {acc : List Id} {x : Id}
/-- the look-up -/
theorem met_look (hown : w.ownsMap Try.prog 35 (plainElem Try.prog 3) b n (met acc)) (ha : ∀ y ∈ acc, y.ok) (hx : x.ok) :
    (Instr.lookup 45 (.map (some b)) (idv x) false).run Try.prog w = .ok (.int .i64 (if x ∈ acc then 1 else 0)) w := by
  obtain ⟨c, hrun, hat, _⟩ := hown.lookup_int idLaw Try.underlying45 Try.underlying3 (Try.zeroInt w) (idKey hx)
  have := i64d_inj ((met_at acc ha hx).symm.trans hat)
  rw [← this] at hrun
  exact hrun
end
end Go.Proofs.Ytfdppebbpcjhjaa
