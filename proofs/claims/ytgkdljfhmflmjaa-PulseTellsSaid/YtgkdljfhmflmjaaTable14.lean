/-
  The statements' tables (14): Table, Members, is; new tables.
-/
import Derived.Test.YtgkdljfhmflmjaaTick
import Derived.OwnWalk
namespace Go.Proofs.Ytgkdljfhmflmjaa
open Go.RowKit
theorem zeroes_aux (n : Nat) : (List.replicate n (⟨0, 0, 0⟩ : Mb)).flatMap memc = (madeCells (Value.agg #[.int .u16 0, .int .u8 0, .int .u8 0]).cells (n * 3)).toList := by
  apply List.ext_getElem?
  intro j
  by_cases hj : j < n * 3
  · have hk : j / 3 < n := by omega
    have h1 := flat_at memc_len (List.replicate n (⟨0, 0, 0⟩ : Mb)) (j / 3) ⟨0, 0, 0⟩ (by rw [List.getElem?_replicate, if_pos hk]) (j % 3) (by omega)
    rw [show j / 3 * 3 + j % 3 = j by omega] at h1
    rw [h1]
    unfold madeCells
    rw [Array.toList_map, List.getElem?_map, Array.toList_range, List.getElem?_range hj]
    have : j % 3 = 0 ∨ j % 3 = 1 ∨ j % 3 = 2 := by omega
    rcases this with h | h | h <;> simp [memc, Value.cells, h]
  · rw [List.getElem?_eq_none (by rw [flat_len memc_len, List.length_replicate]; omega), List.getElem?_eq_none (by rw [Array.length_toList, size_madeCells]; omega)]
def tab1 (m : Mb) : Mb := if m.i = 0 then ⟨0, 0, 0⟩ else ⟨m.i, 1 + m.s % 3, m.q⟩
def tableL (l : List Mb) : List Mb := l.map tab1
theorem table_len (l : List Mb) : (tableL l).length = l.length := by simp [tableL]
theorem table_take {l : List Mb} {k : Nat} {x : Mb} (h : l[k]? = some x) : tableL (l.take (k + 1)) = tableL (l.take k) ++ [tab1 x] := by
  unfold tableL; rw [List.take_add_one, h, Option.toList_some, List.map_append]; rfl
theorem table_le (l : List Mb) (k : Nat) : (tableL (l.take k)).length ≤ k := by rw [table_len, List.length_take]; omega
set_option maxRecDepth 100000 in
set_option maxHeartbeats 4000000 in
theorem table_any (l : List Mb) (A : Option Addr) (cap : Nat) (w : World) (hr : Rd memc 3 w.heap.size w A l) (hlen : l.length ≤ 1000) (hok : ∀ x ∈ l, x.ok) :
    Calls Try.prog 14 #[.slice A l.length cap] w fun e w' => ∃ A' c', e = .returned (.slice A' l.length c') ∧ Own memc 3 27 w.heap.size w' (.slice A' l.length c') (tableL l) ∧ Below w.heap.size w w' := by
  have HOK := Lib.hid hok
  clear hok
  obtain ⟨i0, hi0, hz0, hz1, hz2⟩ := info_parts Try.infoMem
  go_enter Try.func14, Try.ntmps14
  go_wp2_with fail
  go_loopw [3, 8] (fun v i wr => ∃ (k : Nat) (acc : List Mb) (A' : Option Addr) (c' : Nat), k ≤ l.length ∧ i = .int .i64 k ∧ v = .slice A' acc.length c' ∧ Hid (tableL (l.take k) = acc) ∧ Own memc 3 27 w.heap.size wr (.slice A' acc.length c') acc ∧ Below w.heap.size w wr) (fun _ i _ => l.length - (intOf i).toNat)
  case atStart => exact ⟨0, [], none, 0, Nat.zero_le _, rfl, rfl, Lib.hid rfl, Own.nil_, Below.refl _ _⟩
  case round =>
    obtain ⟨k, acc, A', c', hk, rfl, rfl, HA, hown, hb⟩ := hrel
    have ACCL := table_le l k
    rw [HA.out] at ACCL
    by_cases hlt : k < l.length
    · obtain ⟨x, hx⟩ : ∃ x, l[k]? = some x := ⟨_, List.getElem?_eq_getElem hlt⟩
      obtain ⟨⟨xi0, xi1⟩, ⟨xs0, xs1⟩, xq0, xq1⟩ := HOK.out x (List.mem_of_getElem? hx)
      obtain ⟨b, o, rfl, hbb, e0, e1, e2⟩ := (hr.below hb).mem3 hx
      have HX := Lib.hid hx
      have hsz := hb.size
      have lown := Own.lt hown
      clear hx hr
      have m0 : 0 ≤ x.s % 3 := by omega
      have m1 : x.s % 3 ≤ 2 := by omega
      by_cases hz : x.i = 0
      · have t1 : (x.i == 0) = true := by simpa using hz
        have TB : Hid (tab1 x = ⟨0, 0, 0⟩) := Lib.hid (by unfold tab1; rw [if_pos hz])
        clear hz
        go_wp2_with (at_builtin; refine wpList_app _ rfl _ _ 23 rfl w.heap.size 27 i0 _ 4 Try.underlying23 hi0 hz0 hz1 hz2 rfl (by omega) memc_len memc_one _ acc rfl ((hown.alloc (.cells #[.int .u16 0, .int .u8 0, .int .u8 0] 27)).alloc _) acc.length rfl _ _ 1 1 [⟨0, 0, 0⟩] rfl rfl (Rd.lit memc_len (wr.alloc (.cells #[.int .u16 0, .int .u8 0, .int .u8 0] 27)) _ (by first | rfl | rw [World.size_alloc]) _ _ [⟨0, 0, 0⟩] rfl) (by omega) (by omega) (by simp only [World.size_alloc]; omega) ?_; intro A2 c2 w3 hown3 hg3)
        have hg3' : ((wr.alloc (.cells #[.int .u16 0, .int .u8 0, .int .u8 0] 27)).alloc (.cells #[.int .u16 0, .int .u8 0, .int .u8 0] 27)).grownBy w3 (Value.slice A' acc.length c').ownBlock := hg3
        clear hg3
        go_roundw
        case rel => exact ⟨k + 1, acc ++ [⟨0, 0, 0⟩], A2, c2, hlt, by go_num, by simp, Lib.hid (by rw [table_take HX.out, HA.out, TB.out]), by simpa using hown3, Gw.gr (Gw.al (Gw.al hb _) _) hg3' lown⟩
        case measure => simp [intOf]; omega
      · have t1 : (x.i == 0) = false := by simpa using hz
        have TB : Hid (tab1 x = ⟨x.i, 1 + x.s % 3, x.q⟩) := Lib.hid (by unfold tab1; rw [if_neg hz])
        clear hz
        go_wp2_with (at_builtin; refine wpList_app _ rfl _ _ 23 rfl w.heap.size 27 i0 _ 4 Try.underlying23 hi0 hz0 hz1 hz2 rfl (by omega) memc_len memc_one _ acc rfl ((hown.alloc (.cells #[.int .u16 x.i, .int .u8 (1 + x.s % 3), .int .u8 x.q] 27)).alloc _) acc.length rfl _ _ 1 1 [⟨x.i, 1 + x.s % 3, x.q⟩] rfl rfl (Rd.lit memc_len (wr.alloc (.cells #[.int .u16 x.i, .int .u8 (1 + x.s % 3), .int .u8 x.q] 27)) _ (by first | rfl | rw [World.size_alloc]) _ _ [⟨x.i, 1 + x.s % 3, x.q⟩] rfl) (by omega) (by omega) (by simp only [World.size_alloc]; omega) ?_; intro A2 c2 w3 hown3 hg3)
        have hg3' : ((wr.alloc (.cells #[.int .u16 x.i, .int .u8 (1 + x.s % 3), .int .u8 x.q] 27)).alloc (.cells #[.int .u16 x.i, .int .u8 (1 + x.s % 3), .int .u8 x.q] 27)).grownBy w3 (Value.slice A' acc.length c').ownBlock := hg3
        clear hg3
        go_roundw
        case rel => exact ⟨k + 1, acc ++ [⟨x.i, 1 + x.s % 3, x.q⟩], A2, c2, hlt, by go_num, by simp, Lib.hid (by rw [table_take HX.out, HA.out, TB.out]), by simpa using hown3, Gw.gr (Gw.al (Gw.al hb _) _) hg3' lown⟩
        case measure => simp [intOf]; omega
    · obtain rfl : k = l.length := by omega
      have hl : tableL l = acc := by rw [← HA.out, List.take_length]
      have hl2 : acc.length = l.length := by rw [← hl, table_len]
      have HL2 := Lib.hid hl2
      clear hl2
      go_wp2_with fail
      go_ret
      rw [hl]
      rw [HL2.out] at hown ⊢
      exact ⟨A', c', rfl, hown, hb⟩
def zeroM : Mb := ⟨0, 0, 0⟩
set_option maxHeartbeats 4000000 in
theorem new_any (n : Nat) (w : World) (h1 : 1 ≤ n) (h2 : n ≤ 1000) :
    Calls Try.prog 9 #[.int .i64 n] w fun e w' => ∃ A' c', e = .returned (.slice A' n c') ∧ Own memc 3 27 w.heap.size w' (.slice A' n c') (List.replicate n zeroM) ∧ Below w.heap.size w w' := by
  obtain ⟨i0, hi0, hz0, hz1, hz2⟩ := info_parts Try.infoMem
  have t1 : decide ((n : Int) < 1) = false := by simp; omega
  have t2 : decide ((536870911 : Int) < (n : Int)) = false := by simp; omega
  go_enter Try.func9, Try.ntmps9
  go_wp2_with (at_make; refine wpList_make_full _ rfl _ _ 23 rfl w.heap.size 27 i0 _ 3 Try.underlying23 hi0 hz0 hz1 _ _ _ _ n rfl rfl rfl rfl (by rw [hz2]; omega) (by unfold maxLen; omega) (Nat.le_refl _) ?_; intro w3 hown3 hg3)
  go_ret
  refine ⟨_, _, rfl, ?_, Gw.none_ hg3⟩
  unfold Own
  rw [List.length_replicate]; show World.ownsRow _ _ _ _ _ _ ((List.replicate n (⟨0, 0, 0⟩ : Mb)).flatMap memc); rw [zeroes_aux]
  exact hown3
theorem new_none (n : Int) (w : World) (h1 : n < 1) : Calls Try.prog 9 #[.int .i64 n] w fun e w' => e = .returned (.slice none 0 0) ∧ Below w.heap.size w w' := by
  have t1 : decide (n < 1) = true := by simpa using h1
  go_enter Try.func9, Try.ntmps9
  go_wp2_with fail
  go_ret
  exact ⟨rfl, Below.refl _ _⟩
set_option maxHeartbeats 4000000 in
theorem refnew_any (n : Nat) (w : World) (h2 : n ≤ 1000) :
    Calls Try.prog 18 #[.int .i64 n] w fun e w' => ∃ A' c', e = .returned (.slice A' n c') ∧ Own memc 3 27 w.heap.size w' (.slice A' n c') (List.replicate n zeroM) ∧ Below w.heap.size w w' := by
  obtain ⟨i0, hi0, hz0, hz1, hz2⟩ := info_parts Try.infoMem
  go_enter Try.func18, Try.ntmps18
  go_wp2_with fail
  go_loopw [3, 4] (fun v i wr => ∃ (k : Nat) (acc : List Mb) (A' : Option Addr) (c' : Nat), k ≤ n ∧ i = .int .i64 k ∧ v = .slice A' acc.length c' ∧ Hid (List.replicate k zeroM = acc) ∧ Own memc 3 27 w.heap.size wr (.slice A' acc.length c') acc ∧ Below w.heap.size w wr) (fun _ i _ => n - (intOf i).toNat)
  case atStart => exact ⟨0, [], none, 0, Nat.zero_le _, rfl, rfl, Lib.hid rfl, Own.nil_, Below.refl _ _⟩
  case round =>
    obtain ⟨k, acc, A', c', hk, rfl, rfl, HA, hown, hb⟩ := hrel
    have ACCL : acc.length ≤ k := by rw [← HA.out]; simp
    have lown := Own.lt hown
    have hsz := hb.size
    by_cases hlt : k < n
    · go_wp2_with (at_builtin; refine wpList_app _ rfl _ _ 23 rfl w.heap.size 27 i0 _ 4 Try.underlying23 hi0 hz0 hz1 hz2 rfl (by omega) memc_len memc_one _ acc rfl (hown.alloc _) acc.length rfl _ _ 1 1 [zeroM] rfl rfl (Rd.lit memc_len wr _ (by first | rfl | rw [World.size_alloc]) _ _ [zeroM] rfl) (by omega) (by omega) (by simp only [World.size_alloc]; omega) ?_; intro A2 c2 w3 hown3 hg3)
      have hg3' : (wr.alloc (.cells #[.int .u16 0, .int .u8 0, .int .u8 0] 27)).grownBy w3 (Value.slice A' acc.length c').ownBlock := hg3
      clear hg3
      go_roundw
      case rel => exact ⟨k + 1, acc ++ [zeroM], A2, c2, hlt, by go_num, by simp, Lib.hid (by rw [List.replicate_succ', HA.out]), by simpa using hown3, Gw.gr (Gw.al hb _) hg3' lown⟩
      case measure => simp [intOf]; omega
    · obtain rfl : k = n := by omega
      have hl2 : acc.length = k := by rw [← HA.out, List.length_replicate]
      have HL2 := Lib.hid hl2
      clear hl2
      go_wp2_with fail
      go_ret
      rw [HA.out]
      rw [HL2.out] at hown ⊢
      exact ⟨A', c', rfl, hown, hb⟩
set_option maxHeartbeats 2000000 in
theorem members_any (a b : List Mb) (A B : Option Addr) (n m ca cb : Nat) (w : World) (hn : n = a.length) (hm : m = b.length) (ha : Rd memc 3 w.heap.size w A a) (hb : Rd memc 3 w.heap.size w B b) (hla : a.length ≤ 140737488355328) (hlb : b.length ≤ 140737488355328) :
    Calls Try.prog 15 #[.slice A n ca, .slice B m cb] w fun e w' => e = .returned (.bool (decide (a = b))) ∧ Below w.heap.size w w' := by
  subst hn hm
  by_cases hl : a.length = b.length
  · have HL := Lib.hid hl
    have ht : (((a.length : Int)) != (b.length : Int)) = false := by rw [hl]; simp
    clear hl
    go_enter Try.func15, Try.ntmps15
    go_wp2_with fail
    go_loopw [13] (fun i wr => ∃ k : Nat, k ≤ a.length ∧ i = .int .i64 k ∧ Below w.heap.size w wr ∧ Hid (∀ j, j < k → a[j]? = b[j]?)) (fun i _ => a.length - (intOf i).toNat)
    case atStart => exact ⟨0, Nat.zero_le _, rfl, Below.refl _ _, fun j hj => absurd hj (Nat.not_lt_zero _)⟩
    case round =>
      obtain ⟨k, hk, rfl, hw, HH⟩ := hrel
      by_cases hlt : k < a.length
      · have hlt2 : k < b.length := by rw [← HL.out]; exact hlt
        obtain ⟨x, hx⟩ : ∃ x, a[k]? = some x := ⟨_, List.getElem?_eq_getElem hlt⟩
        obtain ⟨y, hy⟩ : ∃ y, b[k]? = some y := ⟨_, List.getElem?_eq_getElem hlt2⟩
        obtain ⟨b1, o1, rfl, _, e0, e1, e2⟩ := (ha.below hw).mem3 hx
        obtain ⟨b2, o2, rfl, _, f0, f1, f2⟩ := (hb.below hw).mem3 hy
        have HX := Lib.hid hx
        have HY := Lib.hid hy
        have hax := neq_mb x y
        clear hx hy ha hb
        by_cases hxy : x = y
        · have hd : decide (x ≠ y) = false := by simpa using hxy
          rw [hd] at hax
          have HE := Lib.hid hxy
          clear hxy hd
          go_wp2_with fail
          go_quiet (fail)
          go_wp2
          go_roundw
          case rel => exact ⟨k + 1, by omega, by go_num, Gw.drewN hw _, fun j hj => by
            rcases Nat.lt_succ_iff_lt_or_eq.1 hj with h1 | rfl
            · exact HH.out j h1
            · rw [HX.out, HY.out, HE.out]⟩
          case measure => simp [intOf]; omega
        · have hd : decide (x ≠ y) = true := by simpa using hxy
          rw [hd] at hax
          have HR : Hid (decide (a = b) = false) := Lib.hid (by
            rw [decide_eq_false_iff_not]
            rintro rfl
            have := HX.out.symm.trans HY.out
            injection this with this
            exact hxy this)
          clear hxy hd
          go_wp2_with fail
          go_quiet (fail)
          go_wp2
          go_ret
          exact ⟨ret_bool HR.out.symm, Gw.drewN hw _⟩
      · obtain rfl : k = a.length := by omega
        go_wp2_with fail
        go_ret
        refine ⟨ret_bool ?_, hw⟩
        symm; rw [decide_eq_true_iff]
        apply List.ext_getElem?
        intro j
        by_cases hj : j < a.length
        · exact HH.out j hj
        · have := HL.out
          rw [List.getElem?_eq_none (by omega), List.getElem?_eq_none (by omega)]
  · have ht : (((a.length : Int)) != (b.length : Int)) = true := by rw [bne_iff_ne]; omega
    have HL := Lib.hid hl
    clear hl
    go_enter Try.func15, Try.ntmps15
    go_wp2_with fail
    go_ret
    exact ⟨ret_bool (by symm; rw [decide_eq_false_iff_not]; intro h; exact HL.out (by rw [h])), Below.refl _ _⟩
set_option maxHeartbeats 2000000 in
theorem is_any (l : List Mb) (A : Option Addr) (c k : Nat) (x : Mb) (w : World) (hr : Rd memc 3 w.heap.size w A l) (hl : l.length = 3) (hx : l[k]? = some x) :
    Calls Try.prog 31 #[.slice A 3 c, .int .i64 k, .int .u16 x.i, .int .u8 x.s] w fun e w' => e = .returned (.bool true) ∧ w = w' := by
  have hk : k < 3 := by have := (List.getElem?_eq_some_iff.1 hx).1; omega
  obtain ⟨b, o, rfl, _, e0, e1, e2⟩ := hr.mem3 hx
  clear hx hr hl
  have k3 : (k : Int) < 3 := by omega
  go_enter Try.func31, Try.ntmps31
  go_wp2_with fail
  go_ret
  exact ⟨rfl, rfl⟩
end Go.Proofs.Ytgkdljfhmflmjaa
