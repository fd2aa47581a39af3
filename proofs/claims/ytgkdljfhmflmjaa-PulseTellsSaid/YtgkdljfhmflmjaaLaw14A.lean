/-
  PulseUp: who is up is just who is alive or suspected (14).
-/
import Derived.Test.YtgkdljfhmflmjaaAwake14
namespace Go.Proofs.Ytgkdljfhmflmjaa
open Go.RowKit
theorem modL_id {l : List Mb} {k : Nat} {f : Mb → Mb} (h : ∀ x ∈ l, f x = x) : modL l k f = l := by
  unfold modL
  split
  · rename_i x hx
    rw [h x (List.mem_of_getElem? hx)]
    exact set_self hx
  · rfl
theorem heard_zero {x : Mb} (h : x.ok) : heardM 0 x = x := by
  obtain ⟨⟨h1, _⟩, _⟩ := h
  unfold heardM; rw [if_neg (by omega)]
theorem left_zero {x : Mb} (h : x.ok) : leftM 0 x = x := by
  obtain ⟨⟨h1, _⟩, _⟩ := h
  unfold leftM; rw [if_neg (by omega), if_neg (by omega)]
theorem left_s {x : Mb} {inc : Int} (h : ¬ inc < x.i) (h0 : ¬ inc = 0) (h1 : 0 ≤ inc) : (leftM inc x).s = 3 := by
  unfold leftM
  split
  · rfl
  · rw [if_pos ⟨by omega, by omega⟩]
theorem left_i {x : Mb} {inc : Int} (h : ¬ inc < x.i) (h0 : ¬ inc = 0) (h1 : 0 ≤ inc) : (leftM inc x).i = inc := by
  unfold leftM
  split
  · rfl
  · rw [if_pos ⟨by omega, by omega⟩]; show x.i = inc; omega
theorem tab1_ok {x : Mb} (h : x.ok) : (tab1 x).ok := by
  obtain ⟨h1, h2, h3⟩ := h
  unfold tab1
  split
  · exact ⟨by simp, by simp, by simp⟩
  · exact ⟨h1, by show 0 ≤ 1 + x.s % 3 ∧ 1 + x.s % 3 ≤ 255; omega, h3⟩
theorem table_ok {l : List Mb} (h : ∀ x ∈ l, x.ok) : ∀ x ∈ tableL l, x.ok := fun x hx => by
  obtain ⟨y, hy, rfl⟩ := List.mem_map.1 hx
  exact tab1_ok (h y hy)
theorem plc_prefix (p : Nat → Mb → Bool) (l : List Mb) (k : Nat) : ∀ d, ∃ r, plc p l (k + d) = plc p l k ++ r
  | 0 => ⟨[], by simp⟩
  | d + 1 => by
    obtain ⟨r, hr⟩ := plc_prefix p l k d
    exact ⟨_, by show plc p l (k + d) ++ _ = _; rw [hr, List.append_assoc]⟩
theorem plc_hit {p : Nat → Mb → Bool} {l : List Mb} {k : Nat} {x : Mb} (h : l[k]? = some x) (hp : p k x = true) : (plc p l l.length)[(plc p l k).length]? = some (k : Int) := by
  have hk : k < l.length := (List.getElem?_eq_some_iff.1 h).1
  obtain ⟨r, hr⟩ := plc_prefix p l (k + 1) (l.length - (k + 1))
  rw [show k + 1 + (l.length - (k + 1)) = l.length by omega, plc_yes h hp] at hr
  rw [hr, List.append_assoc, List.getElem?_append_right (Nat.le_refl _)]
  simp
theorem up_hit {l : List Mb} {k : Nat} {x : Mb} (h : l[k]? = some x) (hp : upB x = true) : (upL l)[(plc (fun _ x => upB x) l k).length]? = some (k : Int) := plc_hit (p := fun _ x => upB x) h hp
theorem plc_mem {p : Nat → Mb → Bool} {l : List Mb} : ∀ {k : Nat} {z : Int}, z ∈ plc p l k → ∃ j x, z = (j : Nat) ∧ j < k ∧ l[j]? = some x ∧ p j x = true
  | 0, z, h => by simp [plc] at h
  | k + 1, z, h => by
    simp only [plc, List.mem_append] at h
    rcases h with h | h
    · obtain ⟨j, x, h1, h2, h3, h4⟩ := plc_mem h
      exact ⟨j, x, h1, by omega, h3, h4⟩
    · split at h
      · rename_i x hx
        split at h
        · rename_i hp
          simp at h
          exact ⟨k, x, h, by omega, hx, hp⟩
        · simp at h
      · simp at h
set_option maxRecDepth 100000 in
set_option maxHeartbeats 8000000 in
theorem pup_any (l : List Mb) (A : Option Addr) (cap : Nat) (node inc : Int) (w : World) (hr : Rd memc 3 w.heap.size w A l) (hlc : l.length ≤ cap) (hcm : cap ≤ maxLen) (hok : ∀ x ∈ l, x.ok) (hn : 0 ≤ node ∧ node ≤ 255) (hi : 0 ≤ inc ∧ inc ≤ 65535) :
    Calls Try.prog 4 #[.slice A l.length cap, .int .u8 node, .int .u16 inc] w fun e w' => e = .returned (.bool true) ∧ Below w.heap.size w w' := by
  unfold maxLen at hcm
  obtain ⟨mn, hmn⟩ : ∃ mn : Nat, mn = min l.length 20 := ⟨_, rfl⟩
  have hmi : (if (20 : Int) < (l.length : Int) then (20 : Int) else (l.length : Int)) = (mn : Int) := by split <;> omega
  have mnl : mn ≤ l.length := by omega
  have mn20 : mn ≤ 20 := by omega
  have mc : (mn : Int) ≤ (cap : Int) := by omega
  have htl : (l.take mn).length = mn := by simp; omega
  have tok : ∀ x ∈ l.take mn, x.ok := fun x hx => hok x (List.mem_of_mem_take hx)
  have HT := Lib.hid (fun W h => table_any (l.take mn) A cap W h (by omega) tok)
  rw [htl] at HT
  obtain ⟨T, hT⟩ : ∃ T, T = tableL (l.take mn) := ⟨_, rfl⟩
  have HTL : Hid (T.length = mn) := Lib.hid (by rw [hT, table_len, htl])
  have TOK : Hid (∀ x ∈ T, x.ok) := Lib.hid (by rw [hT]; exact table_ok tok)
  rw [← hT] at HT
  obtain ⟨nd, rfl⟩ := Int.eq_ofNat_of_zero_le hn.1
  have hnd : nd ≤ 255 := by omega
  obtain ⟨in0, in1⟩ := hi
  clear hT tok htl hmn hok hn
  go_enter Try.func4, Try.ntmps4
  go_wp2_with fail
  refine (HT.out _ (hr.take mn)).mono ?_
  rintro e w1 ⟨A1, c1, rfl, o1, b1⟩
  clear HT hr
  go_wp2_with fail
  have U1 := Lib.hid (fun W h => up_any T A1 c1 W h (by have := HTL.out; omega))
  rw [HTL.out] at U1
  refine (U1.out _ (o1.rd memc_len)).mono ?_
  rintro e w2 ⟨A2, c2, rfl, o2, hb⟩
  replace b1 := Gw.call b1 hb
  replace o1 := o1.below hb
  clear hb U1
  have hul : (upL T).length ≤ mn := by have := plc_len (fun _ x => upB x) T T.length; rw [HTL.out] at this; unfold upL; rw [HTL.out]; exact this
  go_wp2_with fail
  go_loopw [9, 26] (fun c i wr => ∃ k : Nat, k ≤ mn ∧ i = .int .i64 k ∧ c = .int .i64 (plc (fun _ x => upB x) T k).length ∧ Own memc 3 27 w.heap.size wr (.slice A1 mn c1) T ∧ Own (fun z : Int => [Value.int .u8 z]) 1 5 w1.heap.size wr (.slice A2 (upL T).length c2) (upL T) ∧ Below w.heap.size w wr) (fun _ i _ => mn - (intOf i).toNat)
  case atStart => exact ⟨0, Nat.zero_le _, rfl, rfl, o1, o2, b1⟩
  case round =>
    obtain ⟨k, hk, rfl, rfl, o1, o2, bl⟩ := hrel
    have hpl := plc_len (fun _ x => upB x) T k
    by_cases hlt : k < mn
    · obtain ⟨x, hx⟩ : ∃ x, T[k]? = some x := ⟨_, List.getElem?_eq_getElem (by have := HTL.out; omega)⟩
      obtain ⟨⟨xi0, xi1⟩, ⟨xs0, xs1⟩, xq0, xq1⟩ := TOK.out x (List.mem_of_getElem? hx)
      obtain ⟨b, o, rfl, hbb, e0, e1, e2⟩ := (o1.rd memc_len).mem3 hx
      cases hq : upB x
      · have t1 : (x.s == 1) = false := by simp [upB] at hq; simpa using hq.1
        have t2 : (x.s == 2) = false := by simp [upB] at hq; simpa using hq.2
        have STP := Lib.hid (plc_no (p := fun _ x => upB x) hx hq)
        clear hx hq
        have oa := o1.alloc (.cells #[.int .u16 x.i, .int .u8 x.s, .int .u8 x.q] 27)
        have ob := o2.alloc (.cells #[.int .u16 x.i, .int .u8 x.s, .int .u8 x.q] 27)
        have bx := Gw.al bl (.cells #[.int .u16 x.i, .int .u8 x.s, .int .u8 x.q] 27)
        go_wp2_with fail
        go_roundw
        case rel => exact ⟨k + 1, hlt, by go_num, by rw [STP.out], oa, ob, bx⟩
        case measure => simp [intOf]; omega
      · have hup := up_hit hx hq
        have hjl : (plc (fun _ x => upB x) T k).length < (upL T).length := (List.getElem?_eq_some_iff.1 hup).1
        have hji : ((plc (fun _ x => upB x) T k).length : Int) < ((upL T).length : Int) := by omega
        have t3 : decide ((upL T).length ≤ (plc (fun _ x => upB x) T k).length) = false := by simp; omega
        have t4 : decide (((upL T).length : Int) ≤ ((plc (fun _ x => upB x) T k).length : Int)) = false := by simp; omega
        obtain ⟨b2, o2', rfl, hb2, f0⟩ := (o2.rd (int_len .u8)).int1 hup
        have STP : Hid ((plc (fun _ x => upB x) T (k + 1)).length = (plc (fun _ x => upB x) T k).length + 1) := Lib.hid (by rw [plc_yes (p := fun _ x => upB x) hx hq]; simp)
        have oa := o1.alloc (.cells #[.int .u16 x.i, .int .u8 x.s, .int .u8 x.q] 27)
        have ob := o2.alloc (.cells #[.int .u16 x.i, .int .u8 x.s, .int .u8 x.q] 27)
        have bx := Gw.al bl (.cells #[.int .u16 x.i, .int .u8 x.s, .int .u8 x.q] 27)
        have k255 : (k : Int) ≤ 255 := by omega
        have hs : x.s = 1 ∨ x.s = 2 := by simpa [upB] using hq
        clear hup hx hq
        generalize (plc (fun _ x => upB x) T k).length = cn at *
        rcases hs with hs | hs
        all_goals
          rw [hs] at e1
          have HSX := Lib.hid hs
          clear hs
          go_wp2_with fail
          go_roundw
          case rel => exact ⟨k + 1, hlt, by go_num, by rw [STP.out]; go_num, by rw [← HSX.out] ; exact oa, by rw [← HSX.out]; exact ob, by rw [← HSX.out]; exact bx⟩
          case measure => simp [intOf]; omega
    · obtain rfl : k = mn := by omega
      have hcl : (plc (fun _ x => upB x) T k).length = (upL T).length := by unfold upL; rw [HTL.out]
      have t3 : (((plc (fun _ x => upB x) T k).length : Int) != ((upL T).length : Int)) = false := by rw [hcl]; simp
      have HCL := Lib.hid hcl
      clear hcl hlt
      generalize (plc (fun _ x => upB x) T k).length = cn at *
      generalize (upL T).length = ul at *
      have hk20 : (k : Int) ≤ 20 := by omega
      obtain ⟨fr, hfr⟩ : ∃ fr : Nat, fr = max nd k := ⟨_, rfl⟩
      have hmx : (if (nd : Int) < (k : Int) then (k : Int) else (nd : Int)) = (fr : Int) := by split <;> omega
      have hmx2 : (if nd < k then (k : Int) else (nd : Int)) = (fr : Int) := by split <;> omega
      have hf1 : k ≤ fr := by omega
      have hf2 : fr ≤ 255 := by omega
      have nd255 : (nd : Int) ≤ 255 := by omega
      clear hfr
      have HD := Lib.hid (fun (A : Option Addr) (c : Nat) (nd inc : Int) (W : World) h hn hi => heard_any T A c nd inc W h (by have := HTL.out; omega) hn hi)
      have LF := Lib.hid (fun (A : Option Addr) (c : Nat) (nd inc : Int) (W : World) h hn hi => left_any T A c nd inc W h (by have := HTL.out; omega) hn hi)
      rw [HTL.out] at HD LF
      have bl' := bl; clear bl; have bl := bl'; clear bl' b1
      go_wp2_with fail
      refine (HD.out A1 c1 fr inc _ (o1.rd memc_len) (by omega) (by omega)).mono ?_
      rintro e w3 ⟨A3, c3, rfl, o3, hb⟩
      rw [modL_out (by rw [HTL.out]; simpa using hf1)] at o3
      replace bl := Gw.call bl hb
      replace o1 := o1.below hb
      clear hb
      go_wp2_with fail
      refine (members_any T T A3 A1 k k c3 c1 _ HTL.out.symm HTL.out.symm (o3.rd memc_len) (o1.rd memc_len) (by have := HTL.out; omega) (by have := HTL.out; omega)).mono ?_
      rintro e w4 ⟨rfl, hb⟩
      rw [decide_eq_true rfl]
      replace bl := Gw.call bl hb
      replace o1 := o1.below hb
      clear hb o3
      go_wp2_with fail
      refine (LF.out A1 c1 fr inc _ (o1.rd memc_len) (by omega) (by omega)).mono ?_
      rintro e w3 ⟨A3, c3, rfl, o3, hb⟩
      rw [modL_out (by rw [HTL.out]; simpa using hf1)] at o3
      replace bl := Gw.call bl hb
      replace o1 := o1.below hb
      clear hb
      go_wp2_with fail
      refine (members_any T T A3 A1 k k c3 c1 _ HTL.out.symm HTL.out.symm (o3.rd memc_len) (o1.rd memc_len) (by have := HTL.out; omega) (by have := HTL.out; omega)).mono ?_
      rintro e w4 ⟨rfl, hb⟩
      rw [decide_eq_true rfl]
      replace bl := Gw.call bl hb
      replace o1 := o1.below hb
      clear hb o3
      go_wp2_with fail
      refine (HD.out A1 c1 nd 0 _ (o1.rd memc_len) (by omega) (by omega)).mono ?_
      rintro e w3 ⟨A3, c3, rfl, o3, hb⟩
      rw [modL_id (fun x hx => heard_zero (TOK.out x hx))] at o3
      replace bl := Gw.call bl hb
      replace o1 := o1.below hb
      clear hb
      go_wp2_with fail
      refine (members_any T T A3 A1 k k c3 c1 _ HTL.out.symm HTL.out.symm (o3.rd memc_len) (o1.rd memc_len) (by have := HTL.out; omega) (by have := HTL.out; omega)).mono ?_
      rintro e w4 ⟨rfl, hb⟩
      rw [decide_eq_true rfl]
      replace bl := Gw.call bl hb
      replace o1 := o1.below hb
      clear hb o3
      go_wp2_with fail
      refine (LF.out A1 c1 nd 0 _ (o1.rd memc_len) (by omega) (by omega)).mono ?_
      rintro e w3 ⟨A3, c3, rfl, o3, hb⟩
      rw [modL_id (fun x hx => left_zero (TOK.out x hx))] at o3
      replace bl := Gw.call bl hb
      replace o1 := o1.below hb
      clear hb
      go_wp2_with fail
      refine (members_any T T A3 A1 k k c3 c1 _ HTL.out.symm HTL.out.symm (o3.rd memc_len) (o1.rd memc_len) (by have := HTL.out; omega) (by have := HTL.out; omega)).mono ?_
      rintro e w4 ⟨rfl, hb⟩
      rw [decide_eq_true rfl]
      replace bl := Gw.call bl hb
      replace o1 := o1.below hb
      clear hb o3
      clear HD hmx hmx2 t3
      by_cases h1 : k ≤ nd
      · have t1 : decide ((k : Int) ≤ (nd : Int)) = true := by simp; omega
        go_wp2_with fail
        refine (awake_any _).mono ?_
        rintro e w9 ⟨rfl, hb⟩
        replace bl := Gw.call bl hb
        clear hb
        go_wp2_with fail
        go_ret
        exact ⟨rfl, bl⟩
      · have t1 : decide ((k : Int) ≤ (nd : Int)) = false := by simp; omega
        obtain ⟨x, hx⟩ : ∃ x, T[nd]? = some x := ⟨_, List.getElem?_eq_getElem (by have := HTL.out; omega)⟩
        obtain ⟨⟨xi0, xi1⟩, ⟨xs0, xs1⟩, xq0, xq1⟩ := TOK.out x (List.mem_of_getElem? hx)
        have ndk : (nd : Int) < (k : Int) := by omega
        obtain ⟨b, o, rfl, hbb, e0, e1, e2⟩ := (o1.rd memc_len).mem3 hx
        by_cases h2 : inc = 0
        · have t2 : (inc == 0) = true := by simpa using h2
          clear h2
          go_wp2_with fail
          refine (awake_any _).mono ?_
          rintro e w9 ⟨rfl, hb⟩
          replace bl := Gw.call bl hb
          clear hb
          go_wp2_with fail
          go_ret
          exact ⟨rfl, bl⟩
        · have t2 : (inc == 0) = false := by simpa using h2
          by_cases h3 : inc < x.i
          · have t3 : decide (inc < x.i) = true := by simpa using h3
            go_wp2_with fail
            refine (awake_any _).mono ?_
            rintro e w9 ⟨rfl, hb⟩
            replace bl := Gw.call bl hb
            clear hb
            go_wp2_with fail
            go_ret
            exact ⟨rfl, bl⟩
          · have t3 : decide (inc < x.i) = false := by simpa using h3
            have HY := Lib.hid (modL_at hx (leftM inc))
            obtain ⟨y, hy⟩ : ∃ y, y = leftM inc x := ⟨_, rfl⟩
            have hys : y.s = 3 := by rw [hy]; exact left_s h3 h2 in0
            have hyi : y.i = inc := by rw [hy]; exact left_i h3 h2 in0
            rw [← hy] at HY
            have HYS := Lib.hid hys
            have hyat : (T.set nd y)[nd]? = some y := by rw [List.getElem?_set_self (by have := HTL.out; omega)]
            have HYL : Hid ((T.set nd y).length = k) := Lib.hid (by rw [List.length_set]; exact HTL.out)
            have HTX := Lib.hid hx
            clear hy h2 h3 hx
            go_wp2_with fail
            refine (LF.out _ c1 nd inc _ (o1.rd memc_len) (by omega) (by omega)).mono ?_
            rintro e w5 ⟨A5, c5, rfl, o5, hb⟩
            replace bl := Gw.call bl hb
            clear hb o1 e0 e1 e2
            rw [show ((nd : Int)).toNat = nd by simp, HY.out] at o5
            obtain ⟨b5, o5', rfl, hb5, f0, f1, f2⟩ := (o5.rd memc_len).mem3 hyat
            rw [hyi] at f0
            rw [hys] at f1
            clear hyat hyi hys LF
            go_wp2_with fail
            have U2 := Lib.hid (fun W h => up_any (T.set nd y) (some ⟨b5, o5', none⟩) c5 W h (by have := HYL.out; omega))
            rw [HYL.out] at U2
            refine (U2.out _ (o5.rd memc_len)).mono ?_
            rintro e w6 ⟨A6, c6, rfl, o6, hb⟩
            replace bl := Gw.call bl hb
            clear hb U2 o5 f0 f1 f2
            have hne : ∀ z ∈ upL (T.set nd y), (z == (nd : Int)) = false := fun z hz => by
              obtain ⟨j, v, rfl, hj, hv, hu⟩ := plc_mem hz
              rw [beq_eq_false_iff_ne]
              intro e
              have e' : j = nd := by omega
              subst e'
              rw [List.getElem?_set_self (by have := HTL.out; omega)] at hv
              cases hv
              have := HYS.out
              simp [upB, this] at hu
            have HNE := Lib.hid hne
            clear hne
            have hl6 : (upL (T.set nd y)).length ≤ 20 := by have := plc_len (fun _ x => upB x) (T.set nd y) (T.set nd y).length; have h2 := HYL.out; unfold upL; omega
            generalize upL (T.set nd y) = U at *
            go_wp2_with fail
            go_loopw [146] (fun i wr => ∃ j : Nat, j ≤ U.length ∧ i = .int .i64 j ∧ Own (fun z : Int => [Value.int .u8 z]) 1 5 w5.heap.size wr (.slice A6 U.length c6) U ∧ Below w.heap.size w wr) (fun i _ => U.length - (intOf i).toNat)
            case atStart => exact ⟨0, Nat.zero_le _, rfl, o6, bl⟩
            case round =>
              obtain ⟨j, hj, rfl, o6, bl⟩ := hrel
              by_cases hlj : j < U.length
              · obtain ⟨z, hz⟩ : ∃ z, U[j]? = some z := ⟨_, List.getElem?_eq_getElem hlj⟩
                have t7 := HNE.out z (List.mem_of_getElem? hz)
                obtain ⟨b6, o6', rfl, hb6, g0⟩ := (o6.rd (int_len .u8)).int1 hz
                clear hz
                go_wp2_with fail
                go_roundw
                case rel => exact ⟨j + 1, hlj, by go_num, o6, bl⟩
                case measure => simp [intOf]; omega
              · obtain rfl : j = U.length := by omega
                clear o6
                go_wp2_with fail
                refine (awake_any _).mono ?_
                rintro e w9 ⟨rfl, hb⟩
                replace bl := Gw.call bl hb
                clear hb
                go_wp2_with fail
                go_ret
                exact ⟨rfl, bl⟩
end Go.Proofs.Ytgkdljfhmflmjaa
