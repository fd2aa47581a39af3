/-
  stable.copied and stable.Forget (19).
-/
import Derived.Test.YtcclnfpegepcnaaNewRep
namespace Go.Proofs.Ytcclnfpegepcnaa
open Go.RowKit
def nilR : RsV := ⟨none, [], 0⟩
theorem zeroes_sl (n : Nat) : (List.replicate n nilR).flatMap rsc = (madeCells (Value.slice none 0 0).cells (n * 1)).toList := by
  apply List.ext_getElem?
  intro j
  by_cases hj : j < n
  · have h1 := flat_at rsc_len (List.replicate n nilR) j nilR (by rw [List.getElem?_replicate, if_pos hj]) 0 (by omega)
    rw [Nat.mul_one, Nat.add_zero] at h1
    rw [h1]
    unfold madeCells
    rw [Array.toList_map, List.getElem?_map, Array.toList_range, List.getElem?_range (by omega)]
    have h0 : j % 1 = 0 := Nat.mod_one j
    simp [rsc, nilR, Value.cells, h0]
  · rw [List.getElem?_eq_none (by rw [flat_len rsc_len, List.length_replicate]; omega), List.getElem?_eq_none (by unfold madeCells; simp; omega)]
theorem repx_nil {base : Nat} {W : World} {v : Value} {n : Nat} (h : Own rsc 1 29 base W v (List.replicate n nilR)) : RepX base W v (List.replicate n nilR) := by
  refine ⟨h, fun x hx => ?_, ?_⟩
  · rw [List.eq_of_mem_replicate hx]; exact Own.nil_
  · rw [List.pairwise_iff_getElem]
    intro i j hi hj hij
    rw [List.getElem_replicate]
    intro k hk
    simp [nilR, RsV.v, Value.ownBlock] at hk
def part (rows : List (List Id)) (k : Nat) : List (List Id) := rows.take k ++ List.replicate (rows.length - k) []
theorem part_len {rows : List (List Id)} {k : Nat} (h : k ≤ rows.length) : (part rows k).length = rows.length := by simp [part]; omega
theorem part_step {rows : List (List Id)} {k : Nat} {row : List Id} (h : rows[k]? = some row) : (part rows k).set k row = part rows (k + 1) := by
  have hk : k < rows.length := (List.getElem?_eq_some_iff.1 h).1
  unfold part
  have e : List.replicate (rows.length - k) ([] : List Id) = [] :: List.replicate (rows.length - (k + 1)) [] := by
    rw [← List.replicate_succ]; congr 1; omega
  rw [List.take_add_one, h, Option.toList_some, e, List.set_append_right _ _ (by simp; omega)]
  simp [Nat.min_eq_left (Nat.le_of_lt hk)]
theorem map_set {rs : List RsV} {rows : List (List Id)} {k : Nat} {x : RsV} (h : rs.map RsV.l = rows) : (rs.set k x).map RsV.l = rows.set k x.l := by rw [← h, List.map_set]
theorem RepX.free {base g n c : Nat} {W : World} {rs : List RsV} (h : RepX base W (.slice (some ⟨g, 0, none⟩) n c) rs) (j : Nat) : W.frozen? ⟨g, j, none⟩ = false := Own.free h.out j
theorem RepX.cell {base g n c k : Nat} {W : World} {rs : List RsV} {x : RsV} (h : RepX base W (.slice (some ⟨g, 0, none⟩) n c) rs) (hk : rs[k]? = some x) : W.cell? ⟨g, k, none⟩ = some (.slice x.A x.l.length x.c) := by
  have := Own.at_ rsc_len h.out hk (j := 0) rfl
  rwa [Nat.mul_one, Nat.add_zero] at this
/-- a row of a later world is apart from all -/
theorem RepX.newer {base : Nat} {W W' : World} {v : Value} {rs : List RsV} {x : RsV} (h : RepX base W v rs) (ho : Own idc 3 40 W.heap.size W' x.v x.l) : ∀ y ∈ rs, Apart y.v x.v ∧ Apart x.v y.v := fun y hy => by
  have := Apart.newer (h.row y hy) ho
  exact ⟨this.symm, this⟩
set_option maxRecDepth 100000 in
set_option maxHeartbeats 4000000 in
theorem copied_any (rows : List (List Id)) (A : Option Addr) (ca n : Nat) (w : World) (hln : rows.length = n) (hr : Rep w.heap.size w A rows) (hn : n ≤ 1000) (hl : ∀ r ∈ rows, r.length ≤ 1000) :
    Calls Try.prog 30 #[.slice A n ca] w fun e w' => ∃ A' c', e = .returned (.slice A' n c') ∧ RepO w.heap.size w' (.slice A' n c') rows ∧ Below w.heap.size w w' := by
  obtain ⟨i0, hi0, hz0, hz1, hz2⟩ := info_parts Try.infoMkS
  have HLN := Lib.hid hln
  have HL := Lib.hid hl
  clear hln hl
  go_enter Try.func30, Try.ntmps30
  go_wp2_with (at_make; refine wpList_make_full _ rfl _ _ 35 rfl w.heap.size 29 i0 _ 1 Try.underlying35 hi0 hz0 hz1 _ _ _ _ n rfl rfl rfl rfl (by rw [hz2]; omega) (by unfold maxLen; omega) (Nat.le_refl _) ?_; intro w3 hown3 hg3)
  have o3 : Own rsc 1 29 w.heap.size w3 (.slice (some ⟨w.heap.size, 0, none⟩) n n) (List.replicate n nilR) := by unfold Own; rw [List.length_replicate, zeroes_sl]; exact hown3
  have x3 := repx_nil o3
  have b3 := Gw.none_ hg3
  clear hown3 hg3 o3
  go_loopw [11] (fun i wr => ∃ k : Nat, k ≤ n ∧ i = .int .i64 k ∧ RepO w.heap.size wr (.slice (some ⟨w.heap.size, 0, none⟩) n n) (part rows k) ∧ Below w.heap.size w wr) (fun i _ => n - (intOf i).toNat)
  case atStart => exact ⟨0, Nat.zero_le _, rfl, ⟨_, by simp [part, nilR, HLN.out], x3⟩, b3⟩
  case round =>
    clear x3 b3
    obtain ⟨k, hk, rfl, ⟨rs, hrs, rx⟩, bl⟩ := hrel
    by_cases hlt : k < n
    · obtain ⟨row, hrow⟩ : ∃ row, rows[k]? = some row := ⟨_, List.getElem?_eq_getElem (by have := HLN.out; omega)⟩
      have HROW := Lib.hid hrow
      have hrl := HL.out row (List.mem_of_getElem? hrow)
      obtain ⟨b, o, A1, c1, rfl, hb0, hc, rrow⟩ := (hr.below bl).at_ hrow
      have ki : (k : Int) < (n : Int) := by omega
      obtain ⟨x0, hx0⟩ : ∃ x, rs[k]? = some x := ⟨_, List.getElem?_eq_getElem (by have := rep_len hrs; rw [part_len (by have := HLN.out; omega), HLN.out] at this; omega)⟩
      have HX0 := Lib.hid hx0
      clear hrow hx0
      go_wp2_with fail
      refine (cloneMk_any row A1 c1 _ (rrow.mono bl.size) (by omega)).mono ?_
      rintro e w2 ⟨A2, c2, rfl, o2, hb⟩
      have hf := Lib.hid (rx.newer (x := ⟨A2, row, c2⟩) o2)
      have rx2 := rx.keep hb
      have b2 := Gw.call bl hb
      have f2 := fun j => rx2.free j
      have e2 := rx2.cell HX0.out
      have o2' : Own idc 3 40 w.heap.size w2 (RsV.v ⟨A2, row, c2⟩) row := o2.base_le bl.size
      clear hb bl rx hc o2
      go_wp2_with fail
      have rx3 := rx2.put HX0.out o2' hf.out
      go_roundw
      case rel => exact ⟨k + 1, hlt, by go_num, ⟨_, by rw [map_set hrs]; exact part_step HROW.out, rx3⟩, Gw.st b2 (Nat.le_refl _) _⟩
      case measure => simp [intOf]; omega
    · obtain rfl : k = n := by omega
      go_wp2_with fail
      go_ret
      exact ⟨_, _, rfl, ⟨rs, by rw [hrs]; unfold part; rw [HLN.out]; simp [← HLN.out], rx⟩, bl⟩
def forgetL (rows : List (List Id)) (m : Nat) : List (List Id) := if m < rows.length then rows.set m (blank rows.length) else rows
set_option maxRecDepth 100000 in
set_option maxHeartbeats 4000000 in
theorem forget_any (rows : List (List Id)) (A : Option Addr) (ca n : Nat) (mem : Int) (w : World) (hln : rows.length = n) (hr : Rep w.heap.size w A rows) (hn : n ≤ 256) (hl : ∀ r ∈ rows, r.length ≤ 1000) (hm : 0 ≤ mem ∧ mem ≤ 255) :
    Calls Try.prog 19 #[.slice A n ca, .int .u8 mem] w fun e w' => ∃ A' c', e = .returned (.slice A' n c') ∧ RepO w.heap.size w' (.slice A' n c') (forgetL rows mem.toNat) ∧ Below w.heap.size w w' := by
  have HLN := Lib.hid hln
  have HC := Lib.hid (fun W h => copied_any rows A ca n W hln h (by omega) hl)
  obtain ⟨m, rfl⟩ := Int.eq_ofNat_of_zero_le hm.1
  have hm2 : m ≤ 255 := by omega
  have wm : IntKind.i64.wrap (m : Int) = (m : Int) := IntWalk.i64_in _ (by omega)
  have hmi : (if (256 : Int) < (n : Int) then (256 : Int) else (n : Int)) = (n : Int) := by split <;> omega
  simp only [Int.toNat_natCast]
  clear hln hl hm
  go_enter Try.func19, Try.ntmps19
  go_wp2_with fail
  refine (HC.out _ hr).mono ?_
  rintro e w1 ⟨A1, c1, rfl, ⟨rs, hrs, rx⟩, b1⟩
  clear HC hr
  by_cases hlt : m < n
  · have t1 : decide ((m : Int) < (n : Int)) = true := by simp; omega
    have hmn : (m : Int) < (n : Int) := by omega
    have hrl : rs.length = n := by have := rep_len hrs; rw [HLN.out] at this; exact this.symm
    obtain ⟨x0, hx0⟩ : ∃ x, rs[m]? = some x := ⟨_, List.getElem?_eq_getElem (by omega)⟩
    have HX0 := Lib.hid hx0
    have hFL : Hid (forgetL rows m = rows.set m (blank n)) := Lib.hid (by unfold forgetL; rw [HLN.out, if_pos hlt])
    obtain ⟨g, rfl⟩ : ∃ g, A1 = some ⟨g, 0, none⟩ := by
      rcases rx.out.2 with ⟨_, h0⟩ | ⟨g, cap, cur, hv, _⟩
      · omega
      · injection hv with hA _ _
        exact ⟨g, hA⟩
    clear hx0 hrl
    go_wp2_with fail
    refine (blank_any n _ hn).mono ?_
    rintro e w2 ⟨A2, c2, rfl, o2, hb⟩
    have o2x : Own idc 3 40 w1.heap.size w2 (RsV.v ⟨A2, blank n, c2⟩) (blank n) := by
      show Own idc 3 _ _ _ (.slice A2 (blank n).length c2) _
      rw [blank_len]; exact o2
    have hf := Lib.hid (rx.newer (x := ⟨A2, blank n, c2⟩) o2x)
    have rx2 := rx.keep hb
    have b2 := Gw.call b1 hb
    have f2 := fun j => rx2.free j
    have e2 := rx2.cell HX0.out
    have hg := (Own.row rx2.out).2.1
    clear hb rx
    go_wp2_with fail
    go_ret
    have rx3 := rx2.put HX0.out (o2x.base_le b1.size) hf.out
    simp only [blank_len] at rx3
    exact ⟨_, _, rfl, ⟨_, by rw [map_set hrs, hFL.out], rx3⟩, Gw.st b2 hg _⟩
  · have t1 : decide ((m : Int) < (n : Int)) = false := by simp; omega
    have hFL : Hid (forgetL rows m = rows) := Lib.hid (by unfold forgetL; rw [HLN.out, if_neg hlt])
    go_wp2_with fail
    go_ret
    exact ⟨_, _, rfl, ⟨rs, by rw [hFL.out]; exact hrs, rx⟩, b1⟩
end Go.Proofs.Ytcclnfpegepcnaa
