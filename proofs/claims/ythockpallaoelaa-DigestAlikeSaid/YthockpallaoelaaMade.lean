/-
  Made: ids put one by one.
-/
import Derived.Test.YthockpallaoelaaIdSets
import Derived.Test.YthockpallaoelaaStep
namespace Go.Proofs.Ythockpallaoelaa
open Go.RowKit

theorem Own.cap {α : Type} {enc : α → List Value} {sz : Nat} {E : TypeId} {base n c : Nat} {w : World} {A : Option Addr} {l : List α} (h : Own enc sz E base w (.slice A n c) l) : n = l.length ∧ n ≤ c := by
  obtain ⟨A', c', hv, hle⟩ := h.len
  injection hv with h1 h2 h3
  subst h2 h3
  exact ⟨rfl, hle⟩

set_option maxHeartbeats 2000000 in
theorem made_any (l : List Id) (A : Option Addr) (cap : Nat) (w : World) (hr : Rd idc 3 w.heap.size w A l) (hlen : l.length ≤ 1000) :
    Calls Try.prog 16 #[.slice A l.length cap] w fun e w' => ∃ A' c', e = .returned (.slice A' (madeL l).length c') ∧ Own idc 3 30 w.heap.size w' (.slice A' (madeL l).length c') (madeL l) ∧ Below w.heap.size w w' := by
  go_enter Try.func16, Try.ntmps16
  go_wp2_with fail
  go_loopw [3, 8] (fun v i wr => ∃ (k : Nat) (A' : Option Addr) (c' : Nat), k ≤ l.length ∧ i = .int .i64 k ∧ v = .slice A' (madeL (l.take k)).length c' ∧ Own idc 3 30 w.heap.size wr (.slice A' (madeL (l.take k)).length c') (madeL (l.take k)) ∧ Below w.heap.size w wr) (fun _ i _ => l.length - (intOf i).toNat)
  case atStart => exact ⟨0, none, 0, Nat.zero_le _, rfl, rfl, Own.nil_, Below.refl _ _⟩
  case round =>
    obtain ⟨k, A', c', hk, rfl, rfl, hown, hb⟩ := hrel
    by_cases hlt : k < l.length
    · obtain ⟨x, hx⟩ : ∃ x, l[k]? = some x := ⟨_, List.getElem?_eq_getElem hlt⟩
      obtain ⟨b, o, rfl, hbb, e0, e1, e2⟩ := (hr.below hb).id3 hx
      have hm : (madeL (l.take k)).length ≤ 1000 := by have := made_len (l.take k); simp at this; omega
      have hcap := (Own.cap hown).2
      have hsz := hb.size
      have hs : madeL (l.take (k + 1)) = putL (madeL (l.take k)) x := by
        rw [List.take_add_one, hx]; exact made_snoc _ _
      have HS := Lib.hid hs
      clear hs hx hr
      have hown1 := Own.alloc hown (.cells #[.int .u8 x.n, .int .u16 x.i, .int .u32 x.s] 30)
      generalize madeL (l.take k) = m at *
      have HP := Lib.hid (put_any m x A' c' (wr.alloc (.cells #[.int .u8 x.n, .int .u16 x.i, .int .u32 x.s] 30)) (hown1.rd idc_len) (by omega) hcap)
      go_wp2_with (go_at_call 31; (with_reducible refine HP.out.mono ?_); rintro e w1 ⟨A2, c2, rfl, hown2, hb1⟩)
      go_roundw
      case rel =>
        refine ⟨k + 1, A2, c2, by omega, by go_num, by rw [HS.out], ?_, Gw.call (Gw.al hb _) hb1⟩
        rw [HS.out]
        exact hown2.base_le (by simp; omega)
      case measure => simp [intOf]; omega
    · obtain rfl : k = l.length := by omega
      go_wp2_with fail
      go_ret
      rw [List.take_length] at hown ⊢
      exact ⟨_, _, rfl, hown, hb⟩
end Go.Proofs.Ythockpallaoelaa
