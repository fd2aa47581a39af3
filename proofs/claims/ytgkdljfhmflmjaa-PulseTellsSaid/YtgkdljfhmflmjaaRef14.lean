/-
  The document's Heard and Left (14).
-/
import Derived.Test.YtgkdljfhmflmjaaTable14
namespace Go.Proofs.Ytgkdljfhmflmjaa
open Go.RowKit
theorem set_self {α : Type} {l : List α} {k : Nat} {x : α} (h : l[k]? = some x) : l.set k x = l := by
  apply List.ext_getElem?
  intro j
  rw [List.getElem?_set]
  split
  · rename_i hj
    subst hj
    rw [h]
    simp [(List.getElem?_eq_some_iff.1 h).1]
  · rfl
set_option maxRecDepth 100000 in
set_option maxHeartbeats 4000000 in
theorem refheard_any (l : List Mb) (A : Option Addr) (cap : Nat) (node inc : Int) (w : World) (hr : Rd memc 3 w.heap.size w A l) (hlen : l.length ≤ 1000000) (hn : 0 ≤ node ∧ node ≤ 255) (hi : 0 ≤ inc) (hok : ∀ x ∈ l, x.ok) :
    Calls Try.prog 19 #[.slice A l.length cap, .int .u8 node, .int .u16 inc] w fun e w' => ∃ A' c', e = .returned (.slice A' l.length c') ∧ Own memc 3 27 w.heap.size w' (.slice A' l.length c') (modL l node.toNat (heardM inc)) ∧ Below w.heap.size w w' := by
  obtain ⟨k, rfl⟩ := Int.eq_ofNat_of_zero_le hn.1
  have hk : k ≤ 255 := by omega
  clear hn
  have HOK := Lib.hid hok
  clear hok
  show Calls _ _ _ _ fun e w' => ∃ A' c', _ ∧ Own memc 3 _ _ _ _ (modL l k (heardM inc)) ∧ _
  go_enter Try.func19, Try.ntmps19
  go_wp2_with fail
  refine (refown_any l A cap _ hr hlen).mono ?_
  rintro e w1 ⟨A1, c1, rfl, o1, b1⟩
  by_cases hlt : k < l.length
  · obtain ⟨x, hx⟩ : ∃ x, l[k]? = some x := ⟨_, List.getElem?_eq_getElem hlt⟩
    obtain ⟨⟨xi0, xi1⟩, ⟨xs0, xs1⟩, xq0, xq1⟩ := HOK.out x (List.mem_of_getElem? hx)
    obtain ⟨g1, rfl⟩ : ∃ g1, A1 = some ⟨g1, 0, none⟩ := by
      rcases o1.2 with ⟨_, h0⟩ | ⟨g1, _, _, hv, _⟩
      · omega
      · injection hv with hA _ _; exact ⟨g1, hA⟩
    have e0 := Own.at_ memc_len o1 hx (j := 0) rfl
    rw [Nat.add_zero] at e0
    have e1 := Own.at_ memc_len o1 hx (j := 1) rfl
    have e2 := Own.at_ memc_len o1 hx (j := 2) rfl
    have ff := fun j => Own.free o1 j
    have hlo := (Own.row o1).2.1
    have g1lt := Own.hi o1 g1 rfl
    have t1 : decide ((l.length : Int) ≤ (k : Int)) = false := by simp; omega
    have ki : (k : Int) < (l.length : Int) := by omega
    have HM := Lib.hid (modL_at hx (heardM inc))
    have HX := Lib.hid hx
    clear hx hr
    by_cases h1 : x.i < inc
    · have t2 : decide (x.i < inc) = true := by simpa using h1
      have MV : Hid (heardM inc x = ⟨inc, 1, 0⟩) := Lib.hid (by unfold heardM; rw [if_pos (.inl h1)])
      clear h1
      go_wp2_with fail
      go_ret
      rw [HM.out, MV.out]
      have p0 := Own.put1 memc_len o1 HX.out (j := 0) (by omega) ⟨inc, x.s, x.q⟩ (.int .u16 inc) rfl
      rw [Nat.add_zero] at p0
      have p1 := Own.put1 memc_len p0 (k := k) (x := ⟨inc, x.s, x.q⟩) (by simp [hlt]) (j := 1) (by omega) ⟨inc, 1, x.q⟩ (.int .u8 1) rfl
      have p2 := Own.put1 memc_len p1 (k := k) (x := ⟨inc, 1, x.q⟩) (by simp [hlt]) (j := 2) (by omega) ⟨inc, 1, 0⟩ (.int .u8 0) rfl
      simp only [List.set_set] at p2
      exact ⟨_, _, rfl, p2.alloc _, Gw.al (Gw.st (Gw.st (Gw.st b1 (p := ⟨g1, k * 3, none⟩) hlo _) (p := ⟨g1, k * 3 + 1, none⟩) hlo _) (p := ⟨g1, k * 3 + 2, none⟩) hlo _) _⟩
    · have t2 : decide (x.i < inc) = false := by simpa using h1
      by_cases h3 : 0 < inc
      · have t3 : decide (0 < inc) = true := by simpa using h3
        by_cases h2 : inc = x.i
        · have t4 : (inc == x.i) = true := by simpa using h2
          by_cases h4 : x.s = 3
          · have t5 : (x.s != 3) = false := by simpa using h4
            have MV : Hid (heardM inc x = x) := Lib.hid (by unfold heardM; rw [if_neg (by omega)])
            clear h1 h2 h3 h4
            go_wp2_with fail
            go_ret
            rw [HM.out, MV.out]
            have hset : l.set k x = l := set_self HX.out
            rw [hset]
            exact ⟨_, c1, rfl, o1.alloc _, Gw.al b1 _⟩
          · have t5 : (x.s != 3) = true := by rw [bne_iff_ne]; exact h4
            have MV : Hid (heardM inc x = ⟨inc, 1, 0⟩) := Lib.hid (by unfold heardM; rw [if_pos (.inr ⟨h2, h3, h4⟩)])
            clear h1 h2 h3 h4
            go_wp2_with fail
            go_ret
            rw [HM.out, MV.out]
            have p0 := Own.put1 memc_len o1 HX.out (j := 0) (by omega) ⟨inc, x.s, x.q⟩ (.int .u16 inc) rfl
            rw [Nat.add_zero] at p0
            have p1 := Own.put1 memc_len p0 (k := k) (x := ⟨inc, x.s, x.q⟩) (by simp [hlt]) (j := 1) (by omega) ⟨inc, 1, x.q⟩ (.int .u8 1) rfl
            have p2 := Own.put1 memc_len p1 (k := k) (x := ⟨inc, 1, x.q⟩) (by simp [hlt]) (j := 2) (by omega) ⟨inc, 1, 0⟩ (.int .u8 0) rfl
            simp only [List.set_set] at p2
            exact ⟨_, _, rfl, p2.alloc _, Gw.al (Gw.st (Gw.st (Gw.st b1 (p := ⟨g1, k * 3, none⟩) hlo _) (p := ⟨g1, k * 3 + 1, none⟩) hlo _) (p := ⟨g1, k * 3 + 2, none⟩) hlo _) _⟩
        · have t4 : (inc == x.i) = false := by simpa using h2
          have MV : Hid (heardM inc x = x) := Lib.hid (by unfold heardM; rw [if_neg (by omega)])
          clear h1 h2 h3
          go_wp2_with fail
          go_ret
          rw [HM.out, MV.out]
          have hset : l.set k x = l := set_self HX.out
          rw [hset]
          exact ⟨_, c1, rfl, o1.alloc _, Gw.al b1 _⟩
      · have t3 : decide (0 < inc) = false := by simpa using h3
        have MV : Hid (heardM inc x = x) := Lib.hid (by unfold heardM; rw [if_neg (by omega)])
        clear h1 h3
        go_wp2_with fail
        go_ret
        rw [HM.out, MV.out]
        have hset : l.set k x = l := set_self HX.out
        rw [hset]
        exact ⟨_, c1, rfl, o1.alloc _, Gw.al b1 _⟩
  · have t1 : decide ((l.length : Int) ≤ (k : Int)) = true := by simp; omega
    have HM := Lib.hid (modL_out (l := l) (k := k) (by omega) (heardM inc))
    clear hr
    go_wp2_with fail
    go_ret
    rw [HM.out]
    exact ⟨A1, c1, rfl, o1, b1⟩
set_option maxRecDepth 100000 in
set_option maxHeartbeats 4000000 in
theorem refleft_any (l : List Mb) (A : Option Addr) (cap : Nat) (node inc : Int) (w : World) (hr : Rd memc 3 w.heap.size w A l) (hlen : l.length ≤ 1000000) (hn : 0 ≤ node ∧ node ≤ 255) (hi : 0 ≤ inc) (hok : ∀ x ∈ l, x.ok) :
    Calls Try.prog 20 #[.slice A l.length cap, .int .u8 node, .int .u16 inc] w fun e w' => ∃ A' c', e = .returned (.slice A' l.length c') ∧ Own memc 3 27 w.heap.size w' (.slice A' l.length c') (modL l node.toNat (leftM inc)) ∧ Below w.heap.size w w' := by
  obtain ⟨k, rfl⟩ := Int.eq_ofNat_of_zero_le hn.1
  have hk : k ≤ 255 := by omega
  clear hn
  have HOK := Lib.hid hok
  clear hok
  show Calls _ _ _ _ fun e w' => ∃ A' c', _ ∧ Own memc 3 _ _ _ _ (modL l k (leftM inc)) ∧ _
  go_enter Try.func20, Try.ntmps20
  go_wp2_with fail
  refine (refown_any l A cap _ hr hlen).mono ?_
  rintro e w1 ⟨A1, c1, rfl, o1, b1⟩
  by_cases hlt : k < l.length
  · obtain ⟨x, hx⟩ : ∃ x, l[k]? = some x := ⟨_, List.getElem?_eq_getElem hlt⟩
    obtain ⟨⟨xi0, xi1⟩, ⟨xs0, xs1⟩, xq0, xq1⟩ := HOK.out x (List.mem_of_getElem? hx)
    obtain ⟨g1, rfl⟩ : ∃ g1, A1 = some ⟨g1, 0, none⟩ := by
      rcases o1.2 with ⟨_, h0⟩ | ⟨g1, _, _, hv, _⟩
      · omega
      · injection hv with hA _ _; exact ⟨g1, hA⟩
    have e0 := Own.at_ memc_len o1 hx (j := 0) rfl
    rw [Nat.add_zero] at e0
    have e1 := Own.at_ memc_len o1 hx (j := 1) rfl
    have e2 := Own.at_ memc_len o1 hx (j := 2) rfl
    have ff := fun j => Own.free o1 j
    have hlo := (Own.row o1).2.1
    have g1lt := Own.hi o1 g1 rfl
    have t1 : decide ((l.length : Int) ≤ (k : Int)) = false := by simp; omega
    have ki : (k : Int) < (l.length : Int) := by omega
    have HM := Lib.hid (modL_at hx (leftM inc))
    have HX := Lib.hid hx
    clear hx hr
    by_cases h0 : inc = 0
    · have t2 : (inc == 0) = true := by simpa using h0
      have MV : Hid (leftM inc x = x) := Lib.hid (by unfold leftM; rw [if_neg (by omega), if_neg (by omega)])
      clear h0
      go_wp2_with fail
      go_ret
      rw [HM.out, MV.out]
      have hset : l.set k x = l := set_self HX.out
      rw [hset]
      exact ⟨_, c1, rfl, o1, b1⟩
    · have t2 : (inc == 0) = false := by simpa using h0
      by_cases h1 : inc < x.i
      · have t3 : decide (inc < x.i) = true := by simpa using h1
        have MV : Hid (leftM inc x = x) := Lib.hid (by unfold leftM; rw [if_neg (by omega), if_neg (by omega)])
        clear h0 h1
        go_wp2_with fail
        go_ret
        rw [HM.out, MV.out]
        have hset : l.set k x = l := set_self HX.out
        rw [hset]
        exact ⟨_, c1, rfl, o1, b1⟩
      · have t3 : decide (inc < x.i) = false := by simpa using h1
        by_cases h2 : x.i < inc
        · have t4 : decide (x.i < inc) = true := by simpa using h2
          have MV : Hid (leftM inc x = ⟨inc, 3, 0⟩) := Lib.hid (by unfold leftM; rw [if_pos h2])
          clear h0 h1 h2
          go_wp2_with fail
          go_ret
          rw [HM.out, MV.out]
          have p0 := Own.put1 memc_len o1 HX.out (j := 2) (by omega) ⟨x.i, x.s, 0⟩ (.int .u8 0) rfl
          have p1 := Own.put1 memc_len p0 (k := k) (x := ⟨x.i, x.s, 0⟩) (by simp [hlt]) (j := 0) (by omega) ⟨inc, x.s, 0⟩ (.int .u16 inc) rfl
          rw [Nat.add_zero] at p1
          have p2 := Own.put1 memc_len p1 (k := k) (x := ⟨inc, x.s, 0⟩) (by simp [hlt]) (j := 1) (by omega) ⟨inc, 3, 0⟩ (.int .u8 3) rfl
          simp only [List.set_set] at p2
          exact ⟨_, _, rfl, p2, Gw.st (Gw.st (Gw.st b1 hlo _) hlo _) hlo _⟩
        · have t4 : decide (x.i < inc) = false := by simpa using h2
          have he : inc = x.i := by omega
          have MV : Hid (leftM inc x = ⟨inc, 3, x.q⟩) := Lib.hid (by unfold leftM; rw [if_neg h2, if_pos ⟨he, by omega⟩, he])
          clear h0 h1 h2 he
          go_wp2_with fail
          go_ret
          rw [HM.out, MV.out]
          have p1 := Own.put1 memc_len o1 HX.out (j := 0) (by omega) ⟨inc, x.s, x.q⟩ (.int .u16 inc) rfl
          rw [Nat.add_zero] at p1
          have p2 := Own.put1 memc_len p1 (k := k) (x := ⟨inc, x.s, x.q⟩) (by simp [hlt]) (j := 1) (by omega) ⟨inc, 3, x.q⟩ (.int .u8 3) rfl
          simp only [List.set_set] at p2
          exact ⟨_, _, rfl, p2, Gw.st (Gw.st b1 hlo _) hlo _⟩
  · have t1 : decide ((l.length : Int) ≤ (k : Int)) = true := by simp; omega
    have HM := Lib.hid (modL_out (l := l) (k := k) (by omega) (leftM inc))
    clear hr
    go_wp2_with fail
    go_ret
    rw [HM.out]
    exact ⟨A1, c1, rfl, o1, b1⟩
end Go.Proofs.Ytgkdljfhmflmjaa
