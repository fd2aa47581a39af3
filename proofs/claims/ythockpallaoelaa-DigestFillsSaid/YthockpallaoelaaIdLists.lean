/-
  Lists of ids: plain functions, and the contracts of slices.IndexFunc, slices.ContainsFunc at ids, of ident.Has, and of grapevinelaw07.Same.
-/
import Derived.Test.YthockpallaoelaaIds
import Derived.Deep.QuietTactic
import Derived.BigQuiet
namespace Go.Proofs.Ythockpallaoelaa
open Go.RowKit

def idxOf (p : Id → Bool) (l : List Id) : Int := match l.findIdx? p with | some k => (k : Int) | none => -1
theorem idx_hit {p : Id → Bool} {l : List Id} {k : Nat} {x : Id} (h : ∀ j y, j < k → l[j]? = some y → p y = false) (hx : l[k]? = some x) (hp : p x = true) : idxOf p l = k := by
  have : l.findIdx? p = some k := by
    rw [List.findIdx?_eq_some_iff_getElem]
    obtain ⟨hk, he⟩ := List.getElem?_eq_some_iff.1 hx
    refine ⟨hk, by rw [he]; exact hp, fun j hj => ?_⟩
    rw [h j l[j] hj (List.getElem?_eq_getElem (by omega))]
    simp
  simp [idxOf, this]
theorem idx_miss {p : Id → Bool} {l : List Id} (h : ∀ j y, j < l.length → l[j]? = some y → p y = false) : idxOf p l = -1 := by
  have : l.findIdx? p = none := by
    rw [List.findIdx?_eq_none_iff]
    intro x hx
    obtain ⟨j, hj, he⟩ := List.mem_iff_getElem.1 hx
    exact h j x hj (by rw [List.getElem?_eq_getElem hj, he])
  simp [idxOf, this]
theorem idx_le (p : Id → Bool) (l : List Id) : -1 ≤ idxOf p l ∧ idxOf p l < l.length ∨ l.length = 0 ∧ idxOf p l = -1 := by
  unfold idxOf
  rcases h : l.findIdx? p with _ | k
  · simp; omega
  · have := (List.findIdx?_eq_some_iff_getElem.1 h).1
    simp; omega
theorem snoc_all {p : Id → Bool} {l : List Id} {k : Nat} {x : Id} (h : ∀ j y, j < k → l[j]? = some y → p y = false) (hx : l[k]? = some x) (hp : p x = false) : ∀ j y, j < k + 1 → l[j]? = some y → p y = false := by
  intro j y hj hy
  rcases Nat.lt_succ_iff_lt_or_eq.1 hj with h1 | rfl
  · exact h j y h1 hy
  · rw [hx] at hy; cases hy; exact hp
def hasB (l : List Id) (x : Id) : Bool := l.any fun y => decide (y = x)
theorem has_idx (l : List Id) (x : Id) : decide (0 ≤ idxOf (fun y => decide (y = x)) l) = hasB l x := by
  unfold idxOf hasB
  rcases h : l.findIdx? (fun y => decide (y = x)) with _ | k
  · rw [List.findIdx?_eq_none_iff] at h
    symm
    simpa using h
  · obtain ⟨hk, he, _⟩ := List.findIdx?_eq_some_iff_getElem.1 h
    have : decide (0 ≤ ((k : Nat) : Int)) = true := by simp
    show decide (0 ≤ ((k : Nat) : Int)) = _
    rw [this]
    symm
    rw [List.any_eq_true]
    exact ⟨l[k], List.getElem_mem hk, he⟩

/-! The closure of Has: y == x. -/
set_option maxHeartbeats 400000 in
theorem has1_any (x y : Id) (c : Nat) (w : World) (hc : c < w.heap.size) (h0 : w.cell? ⟨c, 0, none⟩ = some (.int .u8 y.n)) (h1 : w.cell? ⟨c, 1, none⟩ = some (.int .u16 y.i)) (h2 : w.cell? ⟨c, 2, none⟩ = some (.int .u32 y.s)) :
    Calls Try.prog 30 #[idv x, .pointer (some ⟨c, 0, none⟩)] w fun e w' => e = .returned (.bool (decide (x = y))) ∧ Below w.heap.size w w' := by
  go_enter Try.func30, Try.ntmps30
  go_wp2
  all_goals go_ret
  all_goals refine ⟨ret_bool ?_, (Below.refl _ _).alloc (Nat.le_refl _) _⟩
  all_goals simp [id_ext, *]

set_option maxHeartbeats 800000 in
theorem idxhas1_any (l : List Id) (y : Id) (A : Option Addr) (cap c : Nat) (w : World) (hr : Rd idc 3 w.heap.size w A l) (hlen : l.length ≤ 140737488355328) (hc : c < w.heap.size) (h0 : w.cell? ⟨c, 0, none⟩ = some (.int .u8 y.n)) (h1 : w.cell? ⟨c, 1, none⟩ = some (.int .u16 y.i)) (h2 : w.cell? ⟨c, 2, none⟩ = some (.int .u32 y.s)) :
    Calls Try.prog 38 #[.slice A l.length cap, .func (.func 30) #[] #[.pointer (some ⟨c, 0, none⟩)]] w fun e w' => e = .returned (.int .i64 (idxOf (fun x => decide (x = y)) l)) ∧ Below w.heap.size w w' := by
  go_enter Try.func38, Try.ntmps38
  go_wp2_with fail
  go_loopw [8] (fun i wr => ∃ k : Nat, k ≤ l.length ∧ i = .int .i64 k ∧ Below w.heap.size w wr ∧ Hid (∀ j x, j < k → l[j]? = some x → decide (x = y) = false)) (fun i _ => l.length - (intOf i).toNat)
  case atStart => exact ⟨0, Nat.zero_le _, rfl, Below.refl _ _, fun j x hj => absurd hj (Nat.not_lt_zero _)⟩
  case round =>
    obtain ⟨k, hk, rfl, hb, HH⟩ := hrel
    by_cases hlt : k < l.length
    · obtain ⟨x, hx⟩ : ∃ x, l[k]? = some x := ⟨_, List.getElem?_eq_getElem hlt⟩
      obtain ⟨b, o, rfl, hbb, e0, e1, e2⟩ := (hr.below hb).id3 hx
      have g0 := (hb.cell (p := ⟨c, 0, none⟩) hc).trans h0
      have g1 := (hb.cell (p := ⟨c, 1, none⟩) hc).trans h1
      have g2 := (hb.cell (p := ⟨c, 2, none⟩) hc).trans h2
      have hcw : c < wr.heap.size := Nat.lt_of_lt_of_le hc hb.size
      have hsz := hb.size
      have HX := Lib.hid hx
      clear hx hr h0 h1 h2
      have hcc := has1_any x y c wr hcw g0 g1 g2
      cases hp : (decide (x = y))
      all_goals
        rw [hp] at hcc
        have HP := Lib.hid hp
        have HC := Lib.hid hcc
        clear hp hcc
        go_wp2_with (go_at_call 30; refine HC.out.mono ?_; rintro e w1 ⟨rfl, hb1⟩)
      · go_roundw
        case rel => exact ⟨k + 1, by omega, by go_num, Gw.call hb hb1, snoc_all (p := fun x => decide (x = y)) HH.out HX.out HP.out⟩
        case measure => simp [intOf]; omega
      · go_ret
        exact ⟨ret_int (by rw [idx_hit (p := fun x => decide (x = y)) HH.out HX.out HP.out]), Gw.call hb hb1⟩
    · obtain rfl : k = l.length := by omega
      go_wp2_with fail
      go_ret
      exact ⟨ret_int (by rw [idx_miss (p := fun x => decide (x = y)) HH.out]), hb⟩

theorem put1_any (x y : Id) (c : Nat) (w : World) (hc : c < w.heap.size) (h0 : w.cell? ⟨c, 0, none⟩ = some (.int .u8 y.n)) (h1 : w.cell? ⟨c, 1, none⟩ = some (.int .u16 y.i)) (h2 : w.cell? ⟨c, 2, none⟩ = some (.int .u32 y.s)) :
    Calls Try.prog 39 #[idv x, .pointer (some ⟨c, 0, none⟩)] w fun e w' => e = .returned (.bool (lessB y x)) ∧ Below w.heap.size w w' := by
  go_enter Try.func39, Try.ntmps39
  go_wp2_with (go_at_call 40; refine (less_any y x _).mono ?_; rintro e w1 ⟨rfl, hb1⟩)
  go_ret
  exact ⟨rfl, Gw.call ((Below.refl _ _).alloc (Nat.le_refl _) _) hb1⟩

set_option maxHeartbeats 800000 in
theorem idxput1_any (l : List Id) (y : Id) (A : Option Addr) (cap c : Nat) (w : World) (hr : Rd idc 3 w.heap.size w A l) (hlen : l.length ≤ 140737488355328) (hc : c < w.heap.size) (h0 : w.cell? ⟨c, 0, none⟩ = some (.int .u8 y.n)) (h1 : w.cell? ⟨c, 1, none⟩ = some (.int .u16 y.i)) (h2 : w.cell? ⟨c, 2, none⟩ = some (.int .u32 y.s)) :
    Calls Try.prog 38 #[.slice A l.length cap, .func (.func 39) #[] #[.pointer (some ⟨c, 0, none⟩)]] w fun e w' => e = .returned (.int .i64 (idxOf (fun x => lessB y x) l)) ∧ Below w.heap.size w w' := by
  go_enter Try.func38, Try.ntmps38
  go_wp2_with fail
  go_loopw [8] (fun i wr => ∃ k : Nat, k ≤ l.length ∧ i = .int .i64 k ∧ Below w.heap.size w wr ∧ Hid (∀ j x, j < k → l[j]? = some x → lessB y x = false)) (fun i _ => l.length - (intOf i).toNat)
  case atStart => exact ⟨0, Nat.zero_le _, rfl, Below.refl _ _, fun j x hj => absurd hj (Nat.not_lt_zero _)⟩
  case round =>
    obtain ⟨k, hk, rfl, hb, HH⟩ := hrel
    by_cases hlt : k < l.length
    · obtain ⟨x, hx⟩ : ∃ x, l[k]? = some x := ⟨_, List.getElem?_eq_getElem hlt⟩
      obtain ⟨b, o, rfl, hbb, e0, e1, e2⟩ := (hr.below hb).id3 hx
      have g0 := (hb.cell (p := ⟨c, 0, none⟩) hc).trans h0
      have g1 := (hb.cell (p := ⟨c, 1, none⟩) hc).trans h1
      have g2 := (hb.cell (p := ⟨c, 2, none⟩) hc).trans h2
      have hcw : c < wr.heap.size := Nat.lt_of_lt_of_le hc hb.size
      have hsz := hb.size
      have HX := Lib.hid hx
      clear hx hr h0 h1 h2
      have hcc := put1_any x y c wr hcw g0 g1 g2
      cases hp : (lessB y x)
      all_goals
        rw [hp] at hcc
        have HP := Lib.hid hp
        have HC := Lib.hid hcc
        clear hp hcc
        go_wp2_with (go_at_call 39; refine HC.out.mono ?_; rintro e w1 ⟨rfl, hb1⟩)
      · go_roundw
        case rel => exact ⟨k + 1, by omega, by go_num, Gw.call hb hb1, snoc_all (p := fun x => lessB y x) HH.out HX.out HP.out⟩
        case measure => simp [intOf]; omega
      · go_ret
        exact ⟨ret_int (by rw [idx_hit (p := fun x => lessB y x) HH.out HX.out HP.out]), Gw.call hb hb1⟩
    · obtain rfl : k = l.length := by omega
      go_wp2_with fail
      go_ret
      exact ⟨ret_int (by rw [idx_miss (p := fun x => lessB y x) HH.out]), hb⟩

set_option maxHeartbeats 400000 in
theorem has_any (l : List Id) (x : Id) (A : Option Addr) (cap : Nat) (w : World) (hr : Rd idc 3 w.heap.size w A l) (hlen : l.length ≤ 140737488355328) :
    Calls Try.prog 12 #[.slice A l.length cap, idv x] w fun e w' => e = .returned (.bool (hasB l x)) ∧ Below w.heap.size w w' := by
  have hcf : ∀ (W : World) (c : Nat), Rd idc 3 W.heap.size W A l → c < W.heap.size → W.cell? ⟨c, 0, none⟩ = some (.int .u8 x.n) → W.cell? ⟨c, 1, none⟩ = some (.int .u16 x.i) → W.cell? ⟨c, 2, none⟩ = some (.int .u32 x.s) →
      Calls Try.prog 29 #[.slice A l.length cap, .func (.func 30) #[] #[.pointer (some ⟨c, 0, none⟩)]] W fun e w' => e = .returned (.bool (hasB l x)) ∧ Below W.heap.size W w' := by
    intro W c hR hc h0 h1 h2
    go_enter Try.func29, Try.ntmps29
    go_wp2_with (go_at_call 38; refine (idxhas1_any l x A cap c W hR hlen hc h0 h1 h2).mono ?_; rintro e w1 ⟨rfl, hb1⟩)
    go_ret
    exact ⟨ret_bool (has_idx l x), hb1⟩
  have HF := Lib.hid hcf
  clear hcf
  go_enter Try.func12, Try.ntmps12
  go_wp2_with (go_at_call 29; refine (HF.out _ w.heap.size (hr.up ((Below.refl _ _).alloc (Nat.le_refl _) _)) (by simp) (by go_simp) (by go_simp) (by go_simp)).mono ?_; rintro e w1 ⟨rfl, hb1⟩)
  go_ret
  exact ⟨rfl, Gw.call ((Below.refl _ _).alloc (Nat.le_refl _) _) hb1⟩

end Go.Proofs.Ythockpallaoelaa
