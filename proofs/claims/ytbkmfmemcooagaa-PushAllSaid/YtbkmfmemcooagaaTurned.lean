/-
  Draws that are turned by whole rounds pick the same.
-/
import Derived.Test.YtbkmfmemcooagaaPickL
namespace Go.Proofs.Ytbkmfmemcooagaa
def fac : Nat → Nat
  | 0 => 1
  | n + 1 => fac n * (n + 1)
theorem fac_pos : ∀ n, 1 ≤ fac n
  | 0 => Nat.le_refl _
  | n + 1 => Nat.mul_pos (fac_pos n) (by omega)
theorem fac_le {n : Nat} (h : n ≤ 12) : fac n ≤ 479001600 := (by decide : ∀ m, m < 13 → fac m ≤ 479001600) n (by omega)
theorem fac_dvd {m : Nat} (h1 : 1 ≤ m) : ∀ n, m ≤ n → m ∣ fac n
  | 0, h => by omega
  | n + 1, h => by
    by_cases e : m = n + 1
    · subst e; exact Nat.dvd_mul_left _ _
    · exact Nat.dvd_trans (fac_dvd h1 n (by omega)) (Nat.dvd_mul_right _ _)
/-- a draw turned by r whole rounds of R -/
def tv (ds : List Int) (R r j : Nat) : Int := (if j < ds.length then ds.getD j 0 % R else 0) + ((r * R : Nat) : Int)
theorem tv_same {ds : List Int} (hds : ∀ x ∈ ds, 0 ≤ x) {R m : Nat} (hm : m ∣ R) (r j : Nat) : (tv ds R r j).toNat % m = (ds.getD j 0).toNat % m := by
  obtain ⟨q, rfl⟩ := hm
  unfold tv
  have h0 : (r * (m * q)) = m * (r * q) := by rw [Nat.mul_left_comm]
  split
  · rename_i h
    obtain ⟨d, hd⟩ : ∃ d : Nat, ds.getD j 0 = d := by
      have : ds.getD j 0 ∈ ds := by rw [List.getD_eq_getElem?_getD, List.getElem?_eq_getElem h]; exact List.getElem_mem h
      exact ⟨(ds.getD j 0).toNat, by have := hds _ this; omega⟩
    rw [hd, ← Int.natCast_emod, ← Int.natCast_add, Int.toNat_natCast, Int.toNat_natCast, h0, Nat.add_mul_mod_self_left, Nat.mod_mul_right_mod]
  · rename_i h
    have : ds.getD j 0 = 0 := by rw [List.getD_eq_getElem?_getD, List.getElem?_eq_none (by omega)]; rfl
    rw [this, Int.zero_add, Int.toNat_natCast, h0, Nat.mul_mod_right]
    simp
theorem pick_turned (l ds bs : List Int) (hds : ∀ x ∈ ds, 0 ≤ x) (r : Nat) : pickL l.length l ((List.range l.length).map (tv ds (fac l.length) r) ++ bs) = pickL l.length l ds := by
  apply pickL_same
  intro k hk _
  have : ((List.range l.length).map (tv ds (fac l.length) r) ++ bs).getD k 0 = tv ds (fac l.length) r k := by
    rw [List.getD_eq_getElem?_getD, List.getElem?_append_left (by simp; exact hk)]
    simp [hk]
  rw [this]
  exact tv_same hds (fac_dvd (by omega) _ (by omega)) r k
theorem tv_bound {ds : List Int} {R r j : Nat} (hR : 1 ≤ R) : ((r * R : Nat) : Int) ≤ tv ds R r j ∧ tv ds R r j < (((r + 1) * R : Nat) : Int) := by
  unfold tv
  rw [Nat.add_mul]
  split
  · have h1 := Int.emod_nonneg (ds.getD j 0) (b := (R : Int)) (by omega)
    have h2 := Int.emod_lt_of_pos (ds.getD j 0) (b := (R : Int)) (by omega)
    omega
  · omega
end Go.Proofs.Ytbkmfmemcooagaa
