/-
  The document's answers of layer 17: Newer, Marks, Lacks.
-/
import Derived.Test.YthockpallaoelaaRight17
import Derived.Test.YthockpallaoelaaNewer
import Derived.Test.YthockpallaoelaaDigMarks
import Derived.Test.YthockpallaoelaaRef07
namespace Go.Proofs.Ythockpallaoelaa
open Go.RowKit
set_option maxHeartbeats 2000000 in
theorem refnewer_any (x y : Id) (w : World) : Calls Try.prog 23 #[idv x, idv y] w fun e w' => e = .returned (.bool (newerB x y)) ∧ Below w.heap.size w w' := by
  have b0 := Gw.al (Gw.al (Below.refl w.heap.size w) (.cells #[.int .u8 x.n, .int .u16 x.i, .int .u32 x.s] 43)) (.cells #[.int .u8 y.n, .int .u16 y.i, .int .u32 y.s] 43)
  by_cases h0 : x.n = y.n
  · have t0 : (x.n != y.n) = false := by rw [h0]; simp
    by_cases h1 : x.i = y.i
    · have t1 : (x.i == y.i) = true := by rw [h1]; simp
      have t2 : decide (y.i < x.i) = false := by rw [h1]; simp
      have hres : newerB x y = decide (y.s < x.s) := by
        unfold newerB; rw [decide_eq_decide]; constructor
        · rintro ⟨_, h | ⟨_, h⟩⟩ <;> omega
        · exact fun h => ⟨h0, .inr ⟨h1, h⟩⟩
      rw [hres]
      clear h0 h1 hres
      go_enter Try.func23, Try.ntmps23
      go_wp2_with fail
      go_ret
      exact ⟨rfl, b0⟩
    · have t1 : (x.i == y.i) = false := by rw [beq_eq_false_iff_ne]; exact h1
      have hres : newerB x y = decide (y.i < x.i) := by
        unfold newerB; rw [decide_eq_decide]; constructor
        · rintro ⟨_, h | ⟨h, _⟩⟩
          · exact h
          · exact absurd h h1
        · exact fun h => ⟨h0, .inl h⟩
      rw [hres]
      clear h0 h1 hres
      by_cases h2 : y.i < x.i
      · have t2 : decide (y.i < x.i) = true := by simpa using h2
        rw [t2]
        clear h2
        go_enter Try.func23, Try.ntmps23
        go_wp2_with fail
        go_ret
        exact ⟨rfl, b0⟩
      · have t2 : decide (y.i < x.i) = false := by simpa using h2
        rw [t2]
        clear h2
        go_enter Try.func23, Try.ntmps23
        go_wp2_with fail
        go_ret
        exact ⟨rfl, b0⟩
  · have t0 : (x.n != y.n) = true := by rw [bne_iff_ne]; exact h0
    have hres : newerB x y = false := by
      unfold newerB; rw [decide_eq_false_iff_not]; exact fun h => h0 h.1
    rw [hres]
    clear h0 hres
    go_enter Try.func23, Try.ntmps23
    go_wp2_with fail
    go_ret
    exact ⟨rfl, b0⟩
theorem marks_yes {rows : List Rw} {k : Nat} {r : Rw} (h : rows[k]? = some r) (hr : 0 < r.i) : marksL (rows.take (k + 1)) = marksL (rows.take k) ++ [⟨k, r.i, r.p⟩] := by
  unfold marksL; rw [kn_yes h hr, List.map_append]; rfl
theorem marks_no {rows : List Rw} {k : Nat} {r : Rw} (h : rows[k]? = some r) (hr : ¬ 0 < r.i) : marksL (rows.take (k + 1)) = marksL (rows.take k) := by
  unfold marksL; rw [kn_no h hr]
theorem marks_le (rows : List Rw) (k : Nat) : (marksL (rows.take k)).length ≤ k := by
  have := marks_len (rows.take k)
  rw [List.length_take] at this
  omega
set_option maxRecDepth 100000 in
set_option maxHeartbeats 4000000 in
theorem refmarks_any (rows : List Rw) (A : Option Addr) (cap : Nat) (w : World) (hr : Rd rowc 3 w.heap.size w A rows) (hlen : rows.length ≤ 256) :
    Calls Try.prog 20 #[.slice A rows.length cap] w fun e w' => ∃ A' c', e = .returned (.slice A' (marksL rows).length c') ∧ Own idc 3 43 w.heap.size w' (.slice A' (marksL rows).length c') (marksL rows) ∧ Below w.heap.size w w' := by
  obtain ⟨i0, hi0, hz0, hz1, hz2⟩ := info_parts Try.infoMark
  go_enter Try.func20, Try.ntmps20
  go_wp2_with fail
  go_loopw [3, 4] (fun v i wr => ∃ (k : Nat) (acc : List Id) (A' : Option Addr) (c' : Nat), k ≤ rows.length ∧ i = .int .i64 k ∧ v = .slice A' acc.length c' ∧ Hid (marksL (rows.take k) = acc) ∧ Own idc 3 43 w.heap.size wr (.slice A' acc.length c') acc ∧ Below w.heap.size w wr) (fun _ i _ => rows.length - (intOf i).toNat)
  case atStart => exact ⟨0, [], none, 0, Nat.zero_le _, rfl, rfl, Lib.hid rfl, Own.nil_, Below.refl _ _⟩
  case round =>
    obtain ⟨k, acc, A', c', hk, rfl, rfl, HA, hown, hb⟩ := hrel
    have ACCL := marks_le rows k
    rw [HA.out] at ACCL
    by_cases hlt : k < rows.length
    · obtain ⟨r, hx⟩ : ∃ r, rows[k]? = some r := ⟨_, List.getElem?_eq_getElem hlt⟩
      obtain ⟨b, o, rfl, hbb, e0, e1, e2⟩ := row_at (hr.below hb) hx
      have k255 : (k : Int) ≤ 255 := by omega
      by_cases hp : 0 < r.i
      · have STP := Lib.hid (marks_yes hx hp)
        have tp : decide (0 < r.i) = true := by simpa using hp
        clear hx hr hp
        go_wp2_with fail
        refine (refmark_any r k _).mono ?_
        rintro e w1 ⟨rfl, hb1⟩
        have own1 := hown.below hb1
        have bl := Gw.call hb hb1
        have hs1 := bl.size
        clear hb1
        go_wp2_with (at_builtin; refine wpList_app _ rfl _ _ 45 rfl w.heap.size 43 i0 _ 8 Try.underlying45 hi0 hz0 hz1 hz2 rfl (by omega) idc_len idc_one _ acc rfl (own1.alloc _) acc.length rfl _ _ 1 1 [⟨k, r.i, r.p⟩] rfl rfl (Rd.lit idc_len w1 _ rfl _ _ [⟨k, r.i, r.p⟩] rfl) (by omega) (by omega) (by rw [World.size_alloc]; omega) ?_; intro A2 c2 w3 hown3 hg3)
        have hg3' : (w1.alloc (.cells #[.int .u8 k, .int .u16 r.i, .int .u32 r.p] 43)).grownBy w3 (Value.slice A' acc.length c').ownBlock := hg3
        clear hg3
        have lown := Own.lt hown
        go_roundw
        case rel =>
          refine ⟨k + 1, acc ++ [⟨k, r.i, r.p⟩], A2, c2, hlt, by go_num, by simp, Lib.hid (by rw [STP.out, HA.out]), by simpa using hown3, ?_⟩
          exact Gw.gr (Gw.al bl _) hg3' lown
        case measure => simp [intOf]; omega
      · have STP := Lib.hid (marks_no hx hp)
        have tp : decide (0 < r.i) = false := by simpa using hp
        clear hx hr hp
        go_wp2_with fail
        go_roundw
        case rel => exact ⟨k + 1, acc, A', c', hlt, by go_num, rfl, Lib.hid (by rw [STP.out, HA.out]), hown, hb⟩
        case measure => simp [intOf]; omega
    · obtain rfl : k = rows.length := by omega
      have hl : marksL rows = acc := by rw [← HA.out, List.take_length]
      go_wp2_with fail
      go_ret
      rw [hl]
      exact ⟨A', c', rfl, hown, hb⟩
end Go.Proofs.Ythockpallaoelaa
