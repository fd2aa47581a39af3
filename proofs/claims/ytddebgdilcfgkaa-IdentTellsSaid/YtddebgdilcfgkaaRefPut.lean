/-
  The reference's Put does what the program's does.
-/
import Derived.Test.YtddebgdilcfgkaaRef07
namespace Go.Proofs.Ytddebgdilcfgkaa
open Go.RowKit

theorem putAt_lo {l : List Id} {x : Id} {j : Nat} {y : Id} (hj : j < putAt l x) (hy : l[j]? = some y) : lessB x y = false := by
  unfold putAt at hj
  obtain ⟨hjl, he⟩ := List.getElem?_eq_some_iff.1 hy
  rcases h : l.findIdx? (fun y => lessB x y) with _ | k
  · rw [List.findIdx?_eq_none_iff] at h
    exact h y (by rw [← he]; exact List.getElem_mem hjl)
  · rw [h] at hj
    obtain ⟨_, _, h3⟩ := List.findIdx?_eq_some_iff_getElem.1 h
    have := h3 j hj
    rw [he] at this
    simpa using this
theorem putAt_hi {l : List Id} {x : Id} {y : Id} (hy : l[putAt l x]? = some y) : lessB x y = true := by
  have hl := (List.getElem?_eq_some_iff.1 hy).1
  unfold putAt at hy hl
  rcases h : l.findIdx? (fun y => lessB x y) with _ | k
  · rw [h] at hl; simp at hl
  · rw [h] at hy
    obtain ⟨h1, h2, _⟩ := List.findIdx?_eq_some_iff_getElem.1 h
    simp only [Option.getD_some] at hy
    rw [List.getElem?_eq_getElem h1] at hy
    injection hy with hy
    rw [← hy]; exact h2
/-- what stands in the new list after k places, the id to be put at m -/
def outK (l : List Id) (x : Id) (m k : Nat) : List Id := if k ≤ m then l.take k else l.take m ++ [x] ++ (l.take k).drop m
theorem outK_lo {l : List Id} {x z : Id} {m k : Nat} (h : k < m) (hz : l[k]? = some z) : outK l x m (k + 1) = outK l x m k ++ [z] := by
  unfold outK; rw [if_pos (by omega), if_pos (by omega), take_snoc hz]
theorem outK_at {l : List Id} {x z : Id} {m : Nat} (hz : l[m]? = some z) : outK l x m (m + 1) = outK l x m m ++ [x] ++ [z] := by
  have hm : m < l.length := (List.getElem?_eq_some_iff.1 hz).1
  unfold outK
  rw [if_neg (by omega), if_pos (by omega), take_snoc hz, List.drop_append_of_le_length (by simp; omega)]
  simp
theorem outK_hi {l : List Id} {x z : Id} {m k : Nat} (h : m < k) (hz : l[k]? = some z) : outK l x m (k + 1) = outK l x m k ++ [z] := by
  have hm : k < l.length := (List.getElem?_eq_some_iff.1 hz).1
  unfold outK
  rw [if_neg (by omega), if_neg (by omega), take_snoc hz, List.drop_append_of_le_length (by simp; omega)]
  simp
theorem outK_len {l : List Id} {x : Id} {m k : Nat} (hk : k ≤ l.length) : (outK l x m k).length ≤ k + 1 := by
  unfold outK; split
  · simp; omega
  · simp; omega

set_option maxHeartbeats 2000000 in
theorem ref_put_has (l : List Id) (x : Id) (A : Option Addr) (cap : Nat) (w : World) (hr : Rd idc 3 w.heap.size w A l) (hlen : l.length ≤ 1000000) (hh : hasB l x = true) :
    Calls Try.prog 21 #[.slice A l.length cap, idv x] w fun e w' => ∃ A' c', e = .returned (.slice A' l.length c') ∧ Own idc 3 25 w.heap.size w' (.slice A' l.length c') l ∧ Below w.heap.size w w' := by
  obtain ⟨i0, hi, hz0, hz1, hz2⟩ := info_parts Try.infoId
  have HH := Lib.hid hh
  clear hh
  have X := Blk.new w #[.int .u8 x.n, .int .u16 x.i, .int .u32 x.s] 25
  have b := Gw.al (Below.refl w.heap.size w) (.cells #[.int .u8 x.n, .int .u16 x.i, .int .u32 x.s] 25)
  go_enter Try.func21, Try.ntmps21
  go_wp2_with fail
  refine (ref_has_any l x A cap _ (hr.up b) (by omega)).mono ?_
  rintro e w1 ⟨rfl, hb⟩
  rw [HH.out]
  replace X := X.call hb
  replace b := Gw.call b hb
  clear hb
  go_wp2_with fail
  go_loopw [5, 6, 7] (fun v d i wr => ∃ (k : Nat) (A' : Option Addr) (c' : Nat), k ≤ l.length ∧ i = .int .i64 k ∧ d = .bool true ∧ v = .slice A' k c' ∧ Own idc 3 25 (w.heap.size + 1) wr (.slice A' k c') (l.take k) ∧ Below w.heap.size w wr ∧ Blk wr w.heap.size [.int .u8 x.n, .int .u16 x.i, .int .u32 x.s]) (fun _ _ i _ => l.length - (intOf i).toNat)
  case atStart => exact ⟨0, none, 0, Nat.zero_le _, rfl, rfl, rfl, by rw [List.take_zero]; exact Own.nil_, b, X⟩
  case round =>
    obtain ⟨k, A1, c1, hk, rfl, rfl, rfl, hown, hb, B⟩ := hrel
    by_cases hlt : k < l.length
    · obtain ⟨z, hz⟩ : ∃ z, l[k]? = some z := ⟨_, List.getElem?_eq_getElem hlt⟩
      obtain ⟨bb, o, rfl, hbb, e0, e1, e2⟩ := (hr.below hb).id3 hz
      have hsz := hb.size
      have HZ := Lib.hid hz
      have htl : (l.take k).length = k := by simp; omega
      have HTL := Lib.hid htl
      clear hz hr htl
      go_wp2_with fail
      go_quiet (fail)
      go_wp2_with (at_builtin; refine wpList_app _ rfl (.tmp 31) (.tmp 36) _ rfl (w.heap.size + 1) 25 i0 _ 8 Try.underlying34 hi hz0 hz1 hz2 rfl (by omega) idc_len idc_one _ _ rfl ((Own.below hown (Gw.drewN (Below.refl _ _) _)).alloc _) k HTL.out.symm _ _ 1 1 [z] rfl rfl (Rd.lit idc_len (wr.drewN _) _ (by first | rfl | simp) _ 25 [z] (by rfl)) (by omega) (by omega) (by simp; omega) ?_; intro A5 c5 w5 hown5 hg5)
      have b5 := Gw.gr (Gw.al (Gw.drewN hb _) _) hg5 (fun k hk => Nat.le_of_succ_le (Own.lt hown k hk))
      have B5 := ((B.drewN _).alloc _).grown hg5 (fun k hk => by have := Own.lt hown k hk; omega)
      go_roundw
      case rel => exact ⟨k + 1, A5, c5, by omega, by go_num, rfl, rfl, by rw [take_snoc HZ.out]; exact hown5, b5, B5⟩
      case measure => simp [intOf]; omega
    · obtain rfl : k = l.length := by omega
      go_wp2_with fail
      go_ret
      rw [List.take_length] at hown
      exact ⟨_, _, rfl, hown.base_le (by omega), hb⟩

set_option maxHeartbeats 4000000 in
theorem ref_put_new (l : List Id) (x : Id) (A : Option Addr) (cap : Nat) (w : World) (hr : Rd idc 3 w.heap.size w A l) (hlen : l.length ≤ 1000000) (hh : hasB l x = false) :
    Calls Try.prog 21 #[.slice A l.length cap, idv x] w fun e w' => ∃ A' c', e = .returned (.slice A' (l.length + 1) c') ∧ Own idc 3 25 w.heap.size w' (.slice A' (l.length + 1) c') (l.take (putAt l x) ++ [x] ++ l.drop (putAt l x)) ∧ Below w.heap.size w w' := by
  obtain ⟨i0, hi, hz0, hz1, hz2⟩ := info_parts Try.infoId
  have HH := Lib.hid hh
  clear hh
  obtain ⟨m, hm⟩ : ∃ m, m = putAt l x := ⟨_, rfl⟩
  have hml : m ≤ l.length := by rw [hm]; exact putAt_le l x
  have hlo : ∀ j y, j < m → l[j]? = some y → lessB x y = false := fun j y hj hy => putAt_lo (by rw [← hm]; exact hj) hy
  have hhi : ∀ y, l[m]? = some y → lessB x y = true := fun y hy => putAt_hi (by rw [← hm]; exact hy)
  have HLO := Lib.hid hlo
  have HHI := Lib.hid hhi
  rw [← hm]
  clear hm hlo hhi
  have X := Blk.new w #[.int .u8 x.n, .int .u16 x.i, .int .u32 x.s] 25
  have b := Gw.al (Below.refl w.heap.size w) (.cells #[.int .u8 x.n, .int .u16 x.i, .int .u32 x.s] 25)
  go_enter Try.func21, Try.ntmps21
  go_wp2_with fail
  refine (ref_has_any l x A cap _ (hr.up b) (by omega)).mono ?_
  rintro e w1 ⟨rfl, hb⟩
  rw [HH.out]
  replace X := X.call hb
  replace b := Gw.call b hb
  clear hb
  go_wp2_with fail
  go_loopw [5, 6, 7] (fun v d i wr => ∃ (k n : Nat) (A' : Option Addr) (c' : Nat) (dn : Bool), k ≤ l.length ∧ i = .int .i64 k ∧ d = .bool dn ∧ v = .slice A' n c' ∧ Hid (dn = decide (m < k)) ∧ Hid (n = (outK l x m k).length) ∧ n ≤ k + 1 ∧ Own idc 3 25 (w.heap.size + 1) wr (.slice A' n c') (outK l x m k) ∧ Below w.heap.size w wr ∧ Blk wr w.heap.size [.int .u8 x.n, .int .u16 x.i, .int .u32 x.s]) (fun _ _ i _ => l.length - (intOf i).toNat)
  case atStart => exact ⟨0, 0, none, 0, false, Nat.zero_le _, rfl, rfl, rfl, (by simp : false = decide (m < 0)), (by simp [outK] : 0 = (outK l x m 0).length), by omega, by rw [show outK l x m 0 = [] by simp [outK]]; exact Own.nil_, b, X⟩
  case round =>
    obtain ⟨k, n, A1, c1, dn, hk, rfl, rfl, rfl, HD, HN, hn, hown, hb, B⟩ := hrel
    have hsz := hb.size
    have hB1 := B.lt
    obtain ⟨f0, f1, f2⟩ := B.c3
    by_cases hlt : k < l.length
    · obtain ⟨z, hz⟩ : ∃ z, l[k]? = some z := ⟨_, List.getElem?_eq_getElem hlt⟩
      obtain ⟨bb, o, rfl, hbb, e0, e1, e2⟩ := (hr.below hb).id3 hz
      have HZ := Lib.hid hz
      clear hz hr
      have kw : (k : Int) < (l.length : Int) := by omega
      have hcc := fun W => ref_less_any x z W
      by_cases hkm : m < k
      · have hd : dn = true := by rw [HD.out]; simpa using hkm
        subst hd
        go_wp2_with fail
        go_quiet (fail)
        go_wp2_with (at_builtin; refine wpList_app _ rfl (.tmp 31) (.tmp 36) _ rfl (w.heap.size + 1) 25 i0 _ 8 Try.underlying34 hi hz0 hz1 hz2 rfl (by omega) idc_len idc_one _ _ rfl ((Own.below hown (Gw.drewN (Below.refl _ _) _)).alloc _) n HN.out _ _ 1 1 [z] rfl rfl (Rd.lit idc_len (wr.drewN _) _ (by first | rfl | simp) _ 25 [z] (by rfl)) (by omega) (by omega) (by simp; omega) ?_; intro A5 c5 w5 hown5 hg5)
        have b5 := Gw.gr (Gw.al (Gw.drewN hb _) _) hg5 (fun k hk => Nat.le_of_succ_le (Own.lt hown k hk))
        have B5 := ((B.drewN _).alloc _).grown hg5 (fun k hk => by have := Own.lt hown k hk; omega)
        go_roundw
        case rel => exact ⟨k + 1, n + 1, A5, c5, true, by omega, by go_num, rfl, rfl, (by simp; omega : true = decide (m < k + 1)), (by rw [outK_hi hkm HZ.out, List.length_append, ← HN.out]; rfl : n + 1 = (outK l x m (k + 1)).length), by omega, by rw [outK_hi hkm HZ.out]; exact hown5, b5, B5⟩
        case measure => simp [intOf]; omega
      · have hd : dn = false := by rw [HD.out]; simpa using hkm
        subst hd
        by_cases hkm2 : k < m
        · have hp := HLO.out k z hkm2 HZ.out
          rw [hp] at hcc
          have HC := Lib.hid hcc
          clear hcc hp
          go_wp2_with fail
          go_region_with (go_at_call 14; refine (HC.out _).mono ?_; rintro e w2 ⟨rfl, hb2⟩)
          all_goals
            have b2 := Gw.call (Below.drew hb) hb2
            have B2 := (B.drew).call hb2
            have hown2 := Own.below (Own.drew hown) hb2
            have s2 := b2.size
            obtain ⟨e0', e1', e2'⟩ : w2.cell? ⟨bb, o + k * 3, none⟩ = some (.int .u8 z.n) ∧ w2.cell? ⟨bb, o + k * 3 + 1, none⟩ = some (.int .u16 z.i) ∧ w2.cell? ⟨bb, o + k * 3 + 2, none⟩ = some (.int .u32 z.s) := ⟨(hb2.cell (p := ⟨bb, _, none⟩) (by show bb < wr.heap.size; omega)).trans e0, (hb2.cell (p := ⟨bb, _, none⟩) (by show bb < wr.heap.size; omega)).trans e1, (hb2.cell (p := ⟨bb, _, none⟩) (by show bb < wr.heap.size; omega)).trans e2⟩
            go_wp2_with (at_builtin; refine wpList_app _ rfl (.tmp 31) (.tmp 36) _ rfl (w.heap.size + 1) 25 i0 _ 8 Try.underlying34 hi hz0 hz1 hz2 rfl (by omega) idc_len idc_one _ _ rfl (hown2.alloc _) n HN.out _ _ 1 1 [z] rfl rfl (Rd.lit idc_len w2 _ (by first | rfl | simp) _ 25 [z] (by rfl)) (by omega) (by omega) (by simp; omega) ?_; intro A5 c5 w5 hown5 hg5)
            have b5 := Gw.gr (Gw.al b2 _) hg5 (fun k hk => Nat.le_of_succ_le (Own.lt hown k hk))
            have B5 := (B2.alloc _).grown hg5 (fun k hk => by have := Own.lt hown k hk; omega)
            go_roundw
            case rel => exact ⟨k + 1, n + 1, A5, c5, false, by omega, by go_num, rfl, rfl, (by simp; omega : false = decide (m < k + 1)), (by rw [outK_lo hkm2 HZ.out, List.length_append, ← HN.out]; rfl : n + 1 = (outK l x m (k + 1)).length), by omega, by rw [outK_lo hkm2 HZ.out]; exact hown5, b5, B5⟩
            case measure => simp [intOf]; omega
        · obtain rfl : k = m := by omega
          have hp := HHI.out z HZ.out
          rw [hp] at hcc
          have HC := Lib.hid hcc
          clear hcc hp
          go_wp2_with fail
          go_region_with (go_at_call 14; refine (HC.out _).mono ?_; rintro e w2 ⟨rfl, hb2⟩)
          all_goals
            have b2 := Gw.call (Below.drew hb) hb2
            have B2 := (B.drew).call hb2
            have hown2 := Own.below (Own.drew hown) hb2
            have s2 := b2.size
            obtain ⟨g0, g1, g2⟩ := B2.c3
            go_wp2_with (first | (at_builtin; refine wpList_app _ rfl (.tmp 27) (.tmp 29) _ rfl (w.heap.size + 1) 25 i0 _ 8 Try.underlying34 hi hz0 hz1 hz2 rfl (by omega) idc_len idc_one _ _ rfl (hown2.alloc _) n HN.out _ _ 1 1 [x] rfl rfl (Rd.lit idc_len w2 _ (by first | rfl | simp) _ 25 [x] (by rfl)) (by omega) (by omega) (by simp; omega) ?_; intro A5 c5 w5 hown5 hg5; have b5 := Gw.gr (Gw.al b2 _) hg5 (fun k hk => Nat.le_of_succ_le (Own.lt hown k hk)); have B5 := (B2.alloc _).grown hg5 (fun k hk => by have := Own.lt hown k hk; omega); have s5 := b5.size; have HR := Lib.hid ((Below.grown (Below.refl w.heap.size _) hg5 (by simp; omega) (fun k hk => Nat.le_of_succ_le (Own.lt hown k hk)))); have e0' : w5.cell? ⟨bb, o + k * 3, none⟩ = some (.int .u8 z.n) := (b5.cell (p := ⟨bb, _, none⟩) hbb).trans ((hb.cell (p := ⟨bb, _, none⟩) hbb).symm.trans e0); have e1' : w5.cell? ⟨bb, o + k * 3 + 1, none⟩ = some (.int .u16 z.i) := (b5.cell (p := ⟨bb, _, none⟩) hbb).trans ((hb.cell (p := ⟨bb, _, none⟩) hbb).symm.trans e1); have e2' : w5.cell? ⟨bb, o + k * 3 + 2, none⟩ = some (.int .u32 z.s) := (b5.cell (p := ⟨bb, _, none⟩) hbb).trans ((hb.cell (p := ⟨bb, _, none⟩) hbb).symm.trans e2)) | (at_builtin; refine wpList_app _ rfl (.tmp 31) (.tmp 36) _ rfl (w.heap.size + 1) 25 i0 _ 8 Try.underlying34 hi hz0 hz1 hz2 rfl (by omega) idc_len idc_one _ _ rfl (hown5.alloc _) (n + 1) (by rw [List.length_append, ← HN.out]; rfl) _ _ 1 1 [z] rfl rfl (Rd.lit idc_len w5 _ (by first | rfl | simp) _ 25 [z] (by rfl)) (by omega) (by omega) (by simp; omega) ?_; intro A6 c6 w6 hown6 hg6))
            have b6 := Gw.gr (Gw.al b5 _) hg6 (fun k hk => Nat.le_of_succ_le (Own.lt hown5 k hk))
            have B6 := (B5.alloc _).grown hg6 (fun k hk => by have := Own.lt hown5 k hk; omega)
            go_roundw
            case rel => exact ⟨k + 1, n + 1 + 1, A6, c6, true, by omega, by go_num, rfl, rfl, (by simp : true = decide (k < k + 1)), (by rw [outK_at HZ.out, List.length_append, List.length_append, ← HN.out]; rfl : n + 1 + 1 = (outK l x k (k + 1)).length), by have := HN.out; unfold outK at this; simp at this; omega, by rw [outK_at HZ.out]; exact hown6, b6, B6⟩
            case measure => simp [intOf]; omega
    · obtain rfl : k = l.length := by omega
      by_cases hkm : m < l.length
      · have hd : dn = true := by rw [HD.out]; simpa using hkm
        subst hd
        have ho : outK l x m l.length = l.take m ++ [x] ++ l.drop m := by unfold outK; rw [if_neg (by omega), List.take_length]
        have hn' := HN.out
        rw [ho] at hown hn'
        have hn2 : n = l.length + 1 := by rw [hn']; simp; omega
        have HN2 := Lib.hid hn2
        clear hn' hn2 ho
        go_wp2_with fail
        go_ret
        exact ⟨A1, c1, ret_val (by show Value.slice A1 n c1 = _; rw [HN2.out]), by rw [← HN2.out]; exact hown.base_le (by omega), hb⟩
      · have hd : dn = false := by rw [HD.out]; simpa using hkm
        subst hd
        obtain rfl : m = l.length := by omega
        have ho : outK l x l.length l.length = l := by unfold outK; rw [if_pos (by omega), List.take_length]
        have hn' := HN.out
        rw [ho] at hown hn'
        subst hn'
        clear ho
        go_wp2_with (at_builtin; refine wpList_app _ rfl (.tmp 40) (.tmp 42) _ rfl (w.heap.size + 1) 25 i0 _ 8 Try.underlying34 hi hz0 hz1 hz2 rfl (by omega) idc_len idc_one _ _ rfl (hown.alloc _) l.length rfl _ _ 1 1 [x] rfl rfl (Rd.lit idc_len wr _ (by first | rfl | simp) _ 25 [x] (by rfl)) (by omega) (by omega) (by simp; omega) ?_; intro A5 c5 w5 hown5 hg5)
        go_ret
        have b5 := Gw.gr (Gw.al hb _) hg5 (fun k hk => Nat.le_of_succ_le (Own.lt hown k hk))
        exact ⟨_, _, rfl, by simpa using hown5.base_le (by omega : w.heap.size ≤ w.heap.size + 1), b5⟩

theorem ref_put_any (l : List Id) (x : Id) (A : Option Addr) (cap : Nat) (w : World) (hr : Rd idc 3 w.heap.size w A l) (hlen : l.length ≤ 1000000) :
    Calls Try.prog 21 #[.slice A l.length cap, idv x] w fun e w' => ∃ A' c', e = .returned (.slice A' (putL l x).length c') ∧ Own idc 3 25 w.heap.size w' (.slice A' (putL l x).length c') (putL l x) ∧ Below w.heap.size w w' := by
  cases hh : hasB l x
  · rw [putL_new hh]
    have e : (l.take (putAt l x) ++ [x] ++ l.drop (putAt l x)).length = l.length + 1 := by have := putAt_le l x; simp; omega
    rw [e]
    exact ref_put_new l x A cap w hr hlen hh
  · have e : putL l x = l := by simp [putL, hh]
    rw [e]
    exact ref_put_has l x A cap w hr hlen hh
end Go.Proofs.Ytddebgdilcfgkaa
