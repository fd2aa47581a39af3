/-
  outbox.each of messages (21).
-/
import Derived.Test.YtbengmgfddnkhaaMessg
namespace Go.Proofs.Ytbengmgfddnkhaa
open Go.RowKit
set_option maxRecDepth 100000 in
set_option maxHeartbeats 4000000 in
theorem eachMs (l : List MsV) (A : Option Addr) (cap : Nat) (w : World) (hr : OutR w.heap.size w A l) (hf : ∀ d ∈ l, d.few) (hlen : l.length ≤ 100000) :
    Calls Try.prog 19 #[.slice A l.length cap, .func (.func 18) #[] #[]] w fun e w' => ∃ A' c' ds, e = .returned (.slice A' l.length c') ∧ ds.map MsV.abs = l.map MsV.abs ∧ OutX w.heap.size w' (.slice A' l.length c') ds ∧ Below w.heap.size w w' := by
  obtain ⟨i0, hi0, hz0, hz1, hz2⟩ := info_parts Try.info21Ms
  have HD := Lib.hid hr.row
  have HF := Lib.hid hf
  replace hr := hr.out
  clear hf
  go_enter Try.func19, Try.ntmps19
  go_wp2_with (first | (at_make; refine wpList_make_own _ rfl _ _ 22 rfl w.heap.size 39 i0 _ 17 Try.underlying22 hi0 hz0 hz1 _ _ _ l.length rfl rfl rfl (by rw [hz2]; omega) (by unfold maxLen; omega) (Nat.le_refl _) ?_; intro w3 hown3 hg3) | fail)
  have o3 : OutX w.heap.size w3 (.slice (some ⟨w.heap.size, 0, none⟩) 0 l.length) [] := ⟨hown3, (fun d hd => by cases hd)⟩
  have b3 := Gw.none_ hg3
  clear hown3 hg3
  go_loopw [5, 13] (fun v i wr => ∃ (k : Nat) (A' : Option Addr) (c' : Nat) (ds : List MsV), k ≤ l.length ∧ i = .int .i64 k ∧ v = .slice A' k c' ∧ Hid (ds.map MsV.abs = (l.take k).map MsV.abs) ∧ OutX w.heap.size wr (.slice A' k c') ds ∧ Below w.heap.size w wr) (fun _ i _ => l.length - (intOf i).toNat)
  case atStart => exact ⟨0, _, _, [], Nat.zero_le _, rfl, rfl, Lib.hid rfl, o3, b3⟩
  case round =>
    clear o3 b3
    obtain ⟨k, A1, c1, ds, hk, rfl, rfl, HA, own, bl⟩ := hrel
    by_cases hlt : k < l.length
    · obtain ⟨x, hx⟩ : ∃ x, l[k]? = some x := ⟨_, List.getElem?_eq_getElem hlt⟩
      obtain ⟨b, o, rfl, hb, hc⟩ := (hr.below bl).at_ hx
      have ki : (k : Int) < (l.length : Int) := by omega
      have SN : Hid (∀ y : MsV, y.abs = x.abs → (ds ++ [y]).map MsV.abs = (l.take (k + 1)).map MsV.abs) := Lib.hid fun y hy => by
        rw [List.take_add_one, hx, List.map_append, List.map_append, HA.out, Option.toList_some]
        show _ = _ ++ [x.abs]
        rw [← hy]; rfl
      have HKL : Hid (k = ds.length) := Lib.hid (by
        have := congrArg List.length HA.out
        rw [List.length_map, List.length_map, List.length_take] at this
        omega)
      have hxr := HD.out x (List.mem_of_getElem? hx)
      have hxf := HF.out x (List.mem_of_getElem? hx)
      have CX := Lib.hid (fun W h => message_any x W h hxf)
      have b1 := Gw.al bl (.cells (msA x) 39)
      have X := Ob.new wr (msA x) 39
      have o1 := own.below (Below.alloc (Below.refl _ _) (Nat.le_refl _) (.cells (msA x) 39))
      clear hx own bl
      go_wp2_with (first | (with_reducible refine ldM x b (o + k * 17) hc rfl _ rfl rfl ?_) | (with_reducible refine ldM x _ 0 (obM X) rfl _ rfl rfl ?_) | (with_reducible refine stM_new x _ rfl _ _ rfl rfl rfl rfl ?_) | fail)
      refine (CX.out _ (hxr.up b1)).mono ?_
      rintro e w4 ⟨y, rfl, hya, hyo, hb4⟩
      have b2 := Gw.call b1 hb4
      have o2 := o1.below hb4
      have hyo2 := hyo.base_le b1.size
      have HY := Lib.hid hya
      clear b1 o1 hb4 hya hyo CX hxr hxf hc X
      have LT := Rd.litM w4 y
      have b4 := Gw.al b2 (.cells (msA y) 39)
      have al4 := Below.alloc (Below.refl w4.heap.size w4) (Nat.le_refl _) (.cells (msA y) 39)
      have o4 := o2.below al4
      have hyo4 := hyo2.below al4
      clear b2 o2 al4 hyo2
      go_wp2_with (first | (with_reducible refine bsM y rfl _ rfl rfl ?_) | (at_builtin; refine wpList_app _ rfl _ _ 22 rfl w.heap.size 39 i0 _ 176 Try.underlying22 hi0 hz0 hz1 hz2 rfl (by omega) msc_len msc_one (.slice A1 k c1) ds rfl o4.out k HKL.out _ _ 1 1 [y] rfl rfl LT (by omega) (by omega) b4.size ?_; intro A5 c5 w5 o5 hg) | fail)
      have b5 := Gw.gr b4 hg o4.out.lt
      have o6 := o4.snoc hg o5 hyo4
      go_roundw
      case rel => exact ⟨k + 1, A5, c5, ds ++ [y], hlt, by go_num, rfl, Lib.hid (SN.out y HY.out), o6, b5⟩
      case measure => simp [intOf]; omega
    · obtain rfl : k = l.length := by omega
      rw [List.take_length] at HA
      go_wp2_with fail
      go_ret
      exact ⟨A1, c1, ds, rfl, HA.out, own, bl⟩
end Go.Proofs.Ytbengmgfddnkhaa
