/-
  PushEach: the walk.
-/
import Derived.Test.YtbkmfmemcooagaaAwake16
import Derived.Test.YtbkmfmemcooagaaLaw16B
import Derived.Test.YtbkmfmemcooagaaObj
import Derived.Deep.DeepCutAuto
namespace Go.Proofs.Ytbkmfmemcooagaa
open Go.RowKit

theorem Own.int1 (k : IntKind) (E : TypeId) (w : World) (g : Nat) (hg : g = w.heap.size) (x : Int) (base : Nat) (hb : base ≤ w.heap.size) : Own (fun z : Int => [Value.int k z]) 1 E base (w.alloc (.cells #[.int k x] E)) (.slice (some ⟨g, 0, none⟩) 1 1) [x] := by
  subst hg
  exact Own.lit (enc := fun z : Int => [Value.int k z]) w #[.int k x] 1 hb (by decide) rfl rfl rfl
theorem Rd.cutAt {α : Type} {enc : α → List Value} {B : Nat} {w : World} {b o : Nat} {l : List α} (h : Rd enc 1 B w (some ⟨b, o, none⟩) l) {k cap : Nat} (hc : l.length ≤ cap) : Rd enc 1 B w (if cap = k then some ⟨b, o, none⟩ else some ⟨b, o + k, none⟩) (l.drop k) := by
  have := Rd.cut1 h (k := k) hc
  simpa only [Option.map_some, Addr.add_lit] using this
theorem pickL_one {l : List Int} {k : Nat} (hk : k < l.length) : pickL 1 l [((k : Int) + l.length)] = [l.getD k 0] := by
  rw [pickL_cons (by omega)]
  have e : ([((k : Int) + l.length)].headD 0).toNat % l.length = k := by
    have : ((k : Int) + l.length).toNat = k + l.length := by omega
    show ((k : Int) + l.length).toNat % l.length = k
    rw [this, Nat.add_mod_right, Nat.mod_eq_of_lt hk]
  rw [e]; simp [pickL]
set_option maxRecDepth 100000 in
set_option maxHeartbeats 4000000 in
theorem each_any (l : List Int) (t : Int) (A : Option Addr) (cap : Nat) (w : World) (hr : Rd (fun z : Int => [Value.int .u8 z]) 1 w.heap.size w A l)
    (hl : u8L l) (ht : 0 ≤ t ∧ t ≤ 255) (hlc : l.length ≤ cap) (hcm : cap ≤ maxLen) :
    Calls Try.prog 6 #[.slice A l.length cap, .int .u8 t] w fun e w' => e = .returned (.bool true) ∧ Below w.heap.size w w' := by
  unfold maxLen at hcm
  obtain ⟨i0, hi0, hz0, hz1, hz2⟩ := info_parts Try.infoU8d
  by_cases hc : 0 < l.length ∧ l.length ≤ 100
  · obtain ⟨hc1, hc2⟩ := hc
    have l0 : decide (l = []) = false := by simp; intro h; simp [h] at hc1
    have hne : ¬ l = [] := by intro h; simp [h] at hc1
    have l00 : decide (l.length = 0) = false := by simp; intro h; simp [h] at hc1
    have l01 : (l.length == 0) = false := by simp; intro h; simp [h] at hc1
    have l1 : decide ((100 : Int) < l.length) = false := by simp; omega
    obtain ⟨k, hk⟩ : ∃ k : Nat, t % (l.length : Int) = k := ⟨(t % (l.length : Int)).toNat, by have := Int.emod_nonneg t (b := (l.length : Int)) (by omega); omega⟩
    have hkl : k < l.length := by have := Int.emod_lt_of_pos t (b := (l.length : Int)) (by omega); omega
    have hl1 : (0 : Int) < l.length := by omega
    obtain ⟨x, hx⟩ : ∃ x, l[k]? = some x := ⟨_, List.getElem?_eq_getElem hkl⟩
    have hxd : l.getD k 0 = x := by rw [List.getD_eq_getElem?_getD, hx]; rfl
    have hp1 : pickL l.length l [(k : Int)] = x :: l.eraseIdx k := by rw [pickL_first (by omega) (by omega)]; simp [← hxd]
    have hp2 : pickL 1 l [((k : Int) + l.length)] = [x] := by rw [pickL_one hkl, hxd]
    have he : [x] ++ l.take k ++ l.drop (k + 1) = x :: l.eraseIdx k := by rw [List.eraseIdx_eq_take_drop_succ]; simp
    have hel : (x :: l.eraseIdx k).length = l.length := by rw [List.length_cons, erase_len hkl]; omega
    have PK1 : Hid (∀ W D, Below w.heap.size w W → Rd (fun z : Int => [Value.int .u32 z]) 1 W.heap.size W D [(k : Int)] → Calls Try.prog 12 #[.slice A l.length cap, .int .i64 l.length, .slice D 1 1] W fun e w' => ∃ A' c', e = .returned (.slice A' l.length c') ∧ Own (fun z : Int => [Value.int .u8 z]) 1 5 W.heap.size w' (.slice A' l.length c') (x :: l.eraseIdx k) ∧ Below W.heap.size W w') := Lib.hid (fun W D hb hd => by
      have := pick_any l [(k : Int)] l.length A D cap 1 W (hr.up hb) hd (by omega) (by simp) (by omega) (by intro y hy; simp at hy; omega)
      rw [Int.toNat_natCast, hp1, hel] at this
      exact this)
    have PK2 : Hid (∀ W D, Below w.heap.size w W → Rd (fun z : Int => [Value.int .u32 z]) 1 W.heap.size W D [(k : Int) + l.length] → Calls Try.prog 12 #[.slice A l.length cap, .int .i64 1, .slice D 1 1] W fun e w' => ∃ A' c', e = .returned (.slice A' 1 c') ∧ Own (fun z : Int => [Value.int .u8 z]) 1 5 W.heap.size w' (.slice A' 1 c') [x] ∧ Below W.heap.size W w') := Lib.hid (fun W D hb hd => by
      have := pick_any l [(k : Int) + l.length] 1 A D cap 1 W (hr.up hb) hd (by omega) (by simp) (by omega) (by intro y hy; simp at hy; omega)
      rw [show (1 : Int).toNat = 1 by rfl, hp2] at this
      exact this)
    have u1 : u8L (x :: l.eraseIdx k) := fun y hy => by
      rcases List.mem_cons.1 hy with rfl | h
      · exact hl _ (List.mem_of_getElem? hx)
      · exact hl _ (List.mem_of_mem_eraseIdx h)
    have u2 : u8L [x] := fun y hy => by simp at hy; subst hy; exact hl _ (List.mem_of_getElem? hx)
    have SM1 : Hid (∀ W A1 A2 n m c d, n = l.length → m = l.length → Rd (fun z : Int => [Value.int .u8 z]) 1 W.heap.size W A1 (x :: l.eraseIdx k) → Rd (fun z : Int => [Value.int .u8 z]) 1 W.heap.size W A2 ([x] ++ l.take k ++ l.drop (k + 1)) → Calls Try.prog 11 #[.slice A1 n c, .slice A2 m d] W fun e w' => e = .returned (.bool true) ∧ W = w') := Lib.hid (fun W A1 A2 n m c d hn hm h1 h2 => by
      rw [he] at h2
      have := same01_any (x :: l.eraseIdx k) (x :: l.eraseIdx k) A1 A2 n m c d W h1 h2 (by rw [hn, hel]) (by rw [hm, hel]) u1 u1
      rw [decide_eq_true rfl] at this
      exact this)
    have SM2 : Hid (∀ W A1 A2 c d, Rd (fun z : Int => [Value.int .u8 z]) 1 W.heap.size W A1 [x] → Rd (fun z : Int => [Value.int .u8 z]) 1 W.heap.size W A2 [x] → Calls Try.prog 11 #[.slice A1 1 c, .slice A2 1 d] W fun e w' => e = .returned (.bool true) ∧ W = w') := Lib.hid (fun W A1 A2 c d h1 h2 => by
      have := same01_any [x] [x] A1 A2 1 1 c d W h1 h2 rfl rfl u2 u2
      rw [decide_eq_true rfl] at this
      exact this)
    obtain ⟨b, o, rfl, hbb, cx⟩ := hr.int1 hx
    have d1 : (l.take k).length = k := by simp; omega
    have d2 : (l.drop (k + 1)).length = l.length - (k + 1) := by simp
    have hk0 : (0 : Int) ≤ (k : Int) := by omega
    have hk1 : (k : Int) < (l.length : Int) := by omega
    have hk2 : (k : Int) ≤ (cap : Int) := by omega
    have hk3 : (k : Int) + 1 ≤ (l.length : Int) := by omega
    have hk4 : (k : Int) + 1 ≤ (cap : Int) := by omega
    have hk5 : (0 : Int) ≤ (k : Int) + 1 := by omega
    have hk6 : (k : Int) ≤ (k : Int) + 1 := by omega
    have hk7 : (l.length : Int) ≤ 100 := by omega
    have hk8 : (l.length : Int) ≤ (cap : Int) := by omega
    have HX := Lib.hid hx
    clear hx hxd hp1 hp2 he hel u1 u2
    go_enter Try.func6, Try.ntmps6
    go_wp2_with fail
    refine (PK1.out _ _ (Gw.al (Below.refl _ _) _) (by simpa using Rd.oneAt .u32 w _ rfl k 33)).mono ?_
    rintro e w1 ⟨A1, c1, rfl, o1, hb⟩
    have b1 := Gw.call (Gw.al (Below.refl w.heap.size w) _) hb
    clear hb
    have cx1 := (b1.cell (p := ⟨b, o + k, none⟩) hbb).trans cx
    have hp := Below.refl w1.heap.size w1
    have hs1 := b1.size
    go_upto_region 5 with fail
    go_cut [7] (fun p wx => ∃ A2 c2, p = .slice A2 (k + 1) c2 ∧ Own (fun z : Int => [Value.int .u8 z]) 1 5 w1.heap.size wx (.slice A2 (k + 1) c2) ([x] ++ l.take k) ∧ Below w1.heap.size w1 wx)
    case first =>
      go_region_held3 (fun W => W.cell? ⟨b, o + k, none⟩ = some (.int .u8 x)) (first | exact cx2 | go_keep) (first
        | (refine step_app rfl _ (.tmp 33) (.tmp 36) _ rfl w1.heap.size 5 i0 _ 1 Try.underlying22 hi0 hz0 hz1 hz2 rfl (by omega) (int_len .u8) (int_one .u8) _ [x] rfl (Own.drew (Own.int1 .u8 _ w1 _ rfl x _ (Nat.le_refl _))) 1 rfl _ _ _ _ (l.take k) rfl d1.symm (Rd.take (hr.up (Gw.drew (Gw.al b1 _))) k) (by omega) (by omega) (by simp) ?_; intro A2 c2 w2 o2 hg; have hp2 := Gw.gr (Gw.drew (Gw.al hp (.cells #[.int .u8 x] 5))) hg (fun j hj => by have := own_blk hj; simp at this; omega); have cx2 := ((Gw.call b1 hp2).cell (p := ⟨b, o + k, none⟩) hbb).trans cx; clear hg)
        | fail)
      go_wp2_with fail
      go_meet
      exact ⟨A2, c2, by rw [Nat.add_comm k 1], by rw [Nat.add_comm k 1]; exact o2, hp2⟩
    case rest =>
      obtain ⟨A2, c2, rfl, o2, hp2⟩ := hcut
      have b2 := Gw.call b1 hp2
      have hap : Apart (.slice A1 l.length c1) (.slice A2 (k + 1) c2) := fun j h1 h2 => by have := Own.hi o1 j h1; have := Own.lt o2 j h2; omega
      replace o1 := Own.below o1 hp2
      have CX := Lib.hid cx
      clear cx1 hp cx
      have hs2 := hp2.size
      have hq := Below.refl wc.heap.size wc
      have RX : Hid (∀ W, Below w.heap.size w W → Rd (fun z : Int => [Value.int .u8 z]) 1 W.heap.size W (some ⟨b, o + k, none⟩) [x]) := Lib.hid (fun W hb _ => ⟨b, o + k, rfl, Nat.lt_of_lt_of_le hbb hb.size, fun j y hy i c hi => by
        cases j with
        | zero =>
          simp at hy; subst hy
          cases i with
          | zero => simp at hi; subst hi; simpa using (hb.cell (p := ⟨b, o + k, none⟩) hbb).trans CX.out
          | succ i => simp at hi
        | succ j => simp at hy⟩)
      have hck : ¬ cap = k := by omega
      obtain ⟨oo, hoo, RC⟩ : ∃ oo, (if cap = k + 1 then (some ⟨b, o, none⟩ : Option Addr) else some ⟨b, o + (k + 1), none⟩) = some ⟨b, oo, none⟩ ∧ Hid (∀ W, Below w.heap.size w W → Rd (fun z : Int => [Value.int .u8 z]) 1 W.heap.size W (some ⟨b, oo, none⟩) (l.drop (k + 1))) := by
        by_cases hc9 : cap = k + 1
        · refine ⟨o, by rw [if_pos hc9], fun W hb => ?_⟩
          have := Rd.cutAt (hr.up hb) (k := k + 1) hlc
          rwa [if_pos hc9] at this
        · refine ⟨o + (k + 1), by rw [if_neg hc9], fun W hb => ?_⟩
          have := Rd.cutAt (hr.up hb) (k := k + 1) hlc
          rwa [if_neg hc9] at this
      have q1 : (k + 1 + (l.length - (k + 1))) * 1 ≤ 140737488355328 := by omega
      have q2 : k + 1 + (l.length - (k + 1)) ≤ 140737488355328 := by omega
      have q3 := Lib.hid (show k + 1 + (l.length - (k + 1)) = l.length by omega)
      have q4 : (0 : Int) ≤ (k : Int) + l.length := by omega
      have q5 := Lib.hid (show k + 1 = ([x] ++ l.take k).length by simp [d1])
      have q6 : (k : Int) + 1 - k = 1 := by omega
      have HW1 := Lib.hid (show IntKind.i64.wrap ((k : Int) + 1) = (k : Int) + 1 from IntWalk.i64_in _ (by omega))
      have HW2 := Lib.hid (show ((k : Int) + 1).toNat = k + 1 by omega)
      have HW3 := Lib.hid (show IntKind.i64.wrap ((k : Int) + l.length) = (k : Int) + l.length from IntWalk.i64_in _ (by omega))
      have HW4 := Lib.hid (show IntKind.u32.wrap ((k : Int) + l.length) = (k : Int) + l.length from IntWalk.u32_in _ (by omega))
      go_upto_region 6 with fail
      have hw1 := HW1.out
      have hw2 := HW2.out
      have hw3 := HW3.out
      have hw4 := HW4.out
      go_region_held3 (fun W => True) (first | trivial) (first
        | ((with_reducible show Calls _ _ _ _ _); go_at_call 11; (with_reducible refine (SM1.out _ _ _ _ _ _ _ rfl q3.out (o1.rd (int_len .u8)) (o3.rd (int_len .u8))).mono ?_); rintro e w9 ⟨rfl, rfl⟩; clear o1)
        | ((with_reducible show Calls _ _ _ _ _); go_at_call 11; (with_reducible refine (SM2.out _ _ _ _ _ (o4.rd (int_len .u8)) (RX.out _ b4)).mono ?_); rintro e w9 ⟨rfl, rfl⟩)
        | ((with_reducible show Calls _ _ _ _ _); go_at_call 12; (with_reducible refine (PK2.out _ _ (Gw.al b3 _) (by simpa using Rd.oneAt .u32 w3 _ rfl ((k : Int) + l.length) 33)).mono ?_); rintro e w4 ⟨A4, c4, rfl, o4, hb⟩; have b4 := Gw.call (Gw.al b3 _) hb; clear hb)
        | ((with_reducible show Calls _ _ _ _ _); go_at_call 8; (with_reducible refine (awake_any _).mono ?_); rintro e w5 ⟨rfl, hb⟩; have b5 := Gw.call b4 hb; clear hb)
        | (refine step_app rfl _ (.tmp 39) (.tmp 43) _ rfl w1.heap.size 5 i0 _ 1 Try.underlying22 hi0 hz0 hz1 hz2 rfl (Nat.le_refl 1) (int_len .u8) (int_one .u8) _ ([x] ++ l.take k) rfl (Own.drew o2) (k + 1) q5.out _ _ _ _ (l.drop (k + 1)) rfl d2.symm (RC.out _ (Gw.drew b2)) q1 q2 hs2 ?_; intro A3 c3 w3 o3 hg; have b3 := Gw.gr (Gw.drew b2) hg (fun j hj => Nat.le_trans hs1 (Own.lt o2 j hj)); replace o1 := Apart.keep (Own.drew o1) hap hg; clear hg)
        | fail)
      go_wp2_with fail
      go_ret
      exact ⟨rfl, b5⟩
  · by_cases h0 : l.length = 0
    · have e0 := List.length_eq_zero_iff.1 h0
      subst e0
      clear hc h0
      go_enter Try.func6, Try.ntmps6
      go_wp2_with (go_at_call 8; (with_reducible refine (awake_any _).mono ?_); rintro e w' ⟨rfl, hb⟩)
      go_ret
      exact ⟨rfl, hb⟩
    · have l1 : (100 : Int) < l.length := by omega
      have hne : ¬ l = [] := by intro h; simp [h] at h0
      have l0 : decide (l = []) = false := by simpa using hne
      clear hc h0
      go_enter Try.func6, Try.ntmps6
      go_wp2_with (go_at_call 8; (with_reducible refine (awake_any _).mono ?_); rintro e w' ⟨rfl, hb⟩)
      go_ret
      exact ⟨rfl, hb⟩
end Go.Proofs.Ytbkmfmemcooagaa
