/-
  Rows and reports of nothing (19).
-/
import Derived.Test.YtcclnfpegepcnaaCloneMk
import Derived.IntWalk
namespace Go.Proofs.Ytcclnfpegepcnaa
open Go.RowKit
def zeroI : Id := ⟨0, 0, 0⟩
theorem zeroes_id (n : Nat) : (List.replicate n zeroI).flatMap idc = (madeCells (Value.agg #[.int .u8 0, .int .u16 0, .int .u32 0]).cells (n * 3)).toList := by
  apply List.ext_getElem?
  intro j
  by_cases hj : j < n * 3
  · have hk : j / 3 < n := by omega
    have h1 := flat_at idc_len (List.replicate n zeroI) (j / 3) zeroI (by rw [List.getElem?_replicate, if_pos hk]) (j % 3) (by omega)
    rw [show j / 3 * 3 + j % 3 = j by omega] at h1
    rw [h1]
    unfold madeCells
    rw [Array.toList_map, List.getElem?_map, Array.toList_range, List.getElem?_range hj]
    have : j % 3 = 0 ∨ j % 3 = 1 ∨ j % 3 = 2 := by omega
    rcases this with h | h | h <;> simp [idc, zeroI, Value.cells, h]
  · rw [List.getElem?_eq_none (by rw [flat_len idc_len, List.length_replicate]; omega), List.getElem?_eq_none (by unfold madeCells; simp; omega)]
/-- a row of nothing, the first k of n places marked -/
def blk (n k : Nat) : List Id := (List.range n).map fun j => if j < k then ⟨(j : Int), 0, 0⟩ else zeroI
def blank (n : Nat) : List Id := (List.range n).map fun (j : Nat) => (⟨(j : Int), 0, 0⟩ : Id)
theorem blk_len (n k : Nat) : (blk n k).length = n := by simp [blk]
theorem blank_len (n : Nat) : (blank n).length = n := by simp [blank]
theorem blk_zero (n : Nat) : blk n 0 = List.replicate n zeroI := by
  refine List.ext_getElem (by simp [blk]) fun i h1 h2 => ?_
  simp [blk]
theorem blk_all (n : Nat) : blk n n = blank n := by
  refine List.ext_getElem (by simp [blk, blank]) fun i h1 h2 => ?_
  have : i < n := by simpa [blk] using h1
  simp [blk, blank, this]
theorem blk_at {n k : Nat} (h : k < n) : (blk n k)[k]? = some zeroI := by
  simp [blk, h]
theorem blk_step {n k : Nat} (h : k < n) : (blk n k).set k ⟨(k : Int), 0, 0⟩ = blk n (k + 1) := by
  refine List.ext_getElem (by simp [blk]) fun i h1 h2 => ?_
  rw [List.getElem_set]
  by_cases hi : k = i
  · subst hi; simp [blk]
  · rw [if_neg hi]
    by_cases hlt : i < k
    · simp [blk, hlt, show i < k + 1 by omega]
    · simp [blk, hlt, show ¬ i < k + 1 by omega]
theorem blank_at {n k : Nat} (h : k < n) : (blank n)[k]? = some ⟨(k : Int), 0, 0⟩ := by simp [blank, h]
set_option maxRecDepth 100000 in
set_option maxHeartbeats 4000000 in
theorem blank_any (n : Nat) (w : World) (h2 : n ≤ 256) :
    Calls Try.prog 32 #[.int .i64 n] w fun e w' => ∃ A' c', e = .returned (.slice A' n c') ∧ Own idc 3 40 w.heap.size w' (.slice A' n c') (blank n) ∧ Below w.heap.size w w' := by
  obtain ⟨i0, hi0, hz0, hz1, hz2⟩ := info_parts Try.infoMk
  go_enter Try.func32, Try.ntmps32
  go_wp2_with (at_make; refine wpList_make_full _ rfl _ _ 29 rfl w.heap.size 40 i0 _ 3 Try.underlying29 hi0 hz0 hz1 _ _ _ _ n rfl rfl rfl rfl (by rw [hz2]; omega) (by unfold maxLen; omega) (Nat.le_refl _) ?_; intro w3 hown3 hg3)
  have o3 : Own idc 3 40 w.heap.size w3 (.slice (some ⟨w.heap.size, 0, none⟩) n n) (blk n 0) := by unfold Own; rw [blk_len, blk_zero, zeroes_id]; exact hown3
  have b3 := Gw.none_ hg3
  clear hown3 hg3
  go_loopw [9] (fun i wr => ∃ k : Nat, k ≤ n ∧ i = .int .i64 k ∧ Own idc 3 40 w.heap.size wr (.slice (some ⟨w.heap.size, 0, none⟩) n n) (blk n k) ∧ Below w.heap.size w wr) (fun i _ => n - (intOf i).toNat)
  case atStart => exact ⟨0, Nat.zero_le _, rfl, o3, b3⟩
  case round =>
    clear o3 b3
    obtain ⟨k, hk, rfl, o3, bl⟩ := hrel
    by_cases hlt : k < n
    · have ki : (k : Int) < (n : Int) := by omega
      have wk : IntKind.u8.wrap (k : Int) = (k : Int) := IntWalk.u8_in _ (by omega)
      have f3 := fun j => Own.free o3 j
      have e0 := Own.at_ idc_len o3 (blk_at hlt) (j := 0) rfl
      rw [Nat.add_zero] at e0
      have p0 := Own.put1 idc_len o3 (blk_at hlt) (j := 0) (by omega) ⟨(k : Int), 0, 0⟩ (.int .u8 k) rfl
      rw [Nat.add_zero, blk_step hlt] at p0
      go_wp2_with fail
      go_roundw
      case rel => exact ⟨k + 1, hlt, by go_num, p0, Gw.st bl (Nat.le_refl _) _⟩
      case measure => simp [intOf]; omega
    · obtain rfl : k = n := by omega
      rw [blk_all] at o3
      go_wp2_with fail
      go_ret
      exact ⟨_, _, rfl, o3, bl⟩
end Go.Proofs.Ytcclnfpegepcnaa
