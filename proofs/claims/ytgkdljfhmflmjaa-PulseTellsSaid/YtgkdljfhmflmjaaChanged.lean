/-
  pulse.Heard, pulse.Left: one member is changed in a copy (14).
-/
import Derived.Test.YtgkdljfhmflmjaaCloneMem
namespace Go.Proofs.Ytgkdljfhmflmjaa
open Go.RowKit
def modL (l : List Mb) (k : Nat) (h : Mb → Mb) : List Mb := match l[k]? with | some x => l.set k (h x) | none => l
theorem modL_at {l : List Mb} {k : Nat} {x : Mb} (h : l[k]? = some x) (f : Mb → Mb) : modL l k f = l.set k (f x) := by unfold modL; rw [h]
theorem modL_out {l : List Mb} {k : Nat} (h : l.length ≤ k) (f : Mb → Mb) : modL l k f = l := by unfold modL; rw [List.getElem?_eq_none h]
theorem modL_len (l : List Mb) (k : Nat) (f : Mb → Mb) : (modL l k f).length = l.length := by unfold modL; split <;> simp
def heardM (inc : Int) (m : Mb) : Mb := if m.i < inc ∨ (inc = m.i ∧ 0 < inc ∧ m.s ≠ 3) then ⟨inc, 1, 0⟩ else m
def leftM (inc : Int) (m : Mb) : Mb := if m.i < inc then ⟨inc, 3, 0⟩ else if inc = m.i ∧ 0 < inc then ⟨m.i, 3, m.q⟩ else m
set_option maxHeartbeats 2000000 in
theorem heard1_any (inc : Int) (m : Mb) (g : Nat) (w : World) (hg : g < w.heap.size) (hc : w.cell? ⟨g, 0, none⟩ = some (.int .u16 inc)) (hi : 0 ≤ inc) :
    Calls Try.prog 27 #[memv m, .pointer (some ⟨g, 0, none⟩)] w fun e w' => e = .returned (memv (heardM inc m)) ∧ Below w.heap.size w w' := by
  by_cases h1 : m.i < inc
  · skip
    have t1 : decide (m.i < inc) = true := by simpa using h1
    have t2 : (inc == m.i) = false := by simp; omega
    have hres : heardM inc m = ⟨inc, 1, 0⟩ := by unfold heardM; rw [if_pos (.inl h1)]
    rw [hres]
    clear hres h1
    have b0 := Gw.al (Gw.al (Below.refl w.heap.size w) (.cells #[.int .u16 m.i, .int .u8 m.s, .int .u8 m.q] 27)) (.cells #[.int .u16 inc, .int .u8 1, .int .u8 0] 27)
    have M := Ob.new (w.alloc (.cells #[.int .u16 m.i, .int .u8 m.s, .int .u8 m.q] 27)) #[.int .u16 inc, .int .u8 1, .int .u8 0] 27
    simp only [World.size_alloc] at M
    have r0 := M.blk.2.1 0 _ rfl
    have r1 := M.blk.2.1 1 _ rfl
    have r2 := M.blk.2.1 2 _ rfl
    clear M
    go_enter Try.func27, Try.ntmps27
    go_wp2_with fail
    refine bodyPost_ret (v := memv ⟨inc, 1, 0⟩) (by simp [results, Try.results27, go_sem, r0, r1, r2]) rfl ⟨rfl, b0⟩
  · by_cases h2 : inc = m.i
    · by_cases h3 : 0 < inc
      · by_cases h4 : m.s = 3
        · skip
          have t1 : decide (m.i < inc) = false := by simp; omega
          have t2 : (inc == m.i) = true := by simpa using h2
          have t3 : decide (0 < inc) = true := by simpa using h3
          have t4 : (m.s != 3) = false := by simpa using h4
          have hres : heardM inc m = m := by unfold heardM; rw [if_neg (by omega)]
          rw [hres]
          clear hres h1 h2 h3 h4
          have b0 := Gw.al (Gw.al (Below.refl w.heap.size w) (.cells #[.int .u16 m.i, .int .u8 m.s, .int .u8 m.q] 27)) (.cells #[.int .u16 m.i, .int .u8 m.s, .int .u8 m.q] 27)
          have M := Ob.new (w.alloc (.cells #[.int .u16 m.i, .int .u8 m.s, .int .u8 m.q] 27)) #[.int .u16 m.i, .int .u8 m.s, .int .u8 m.q] 27
          simp only [World.size_alloc] at M
          have r0 := M.blk.2.1 0 _ rfl
          have r1 := M.blk.2.1 1 _ rfl
          have r2 := M.blk.2.1 2 _ rfl
          clear M
          go_enter Try.func27, Try.ntmps27
          go_wp2_with fail
          refine bodyPost_ret (v := memv m) (by simp [results, Try.results27, go_sem, r0, r1, r2]) rfl ⟨rfl, b0⟩
        · skip
          have t1 : decide (m.i < inc) = false := by simp; omega
          have t2 : (inc == m.i) = true := by simpa using h2
          have t3 : decide (0 < inc) = true := by simpa using h3
          have t4 : (m.s != 3) = true := by simpa using h4
          have hres : heardM inc m = ⟨inc, 1, 0⟩ := by unfold heardM; rw [if_pos (.inr ⟨h2, h3, h4⟩)]
          rw [hres]
          clear hres h1 h2 h3 h4
          have b0 := Gw.al (Gw.al (Below.refl w.heap.size w) (.cells #[.int .u16 m.i, .int .u8 m.s, .int .u8 m.q] 27)) (.cells #[.int .u16 inc, .int .u8 1, .int .u8 0] 27)
          have M := Ob.new (w.alloc (.cells #[.int .u16 m.i, .int .u8 m.s, .int .u8 m.q] 27)) #[.int .u16 inc, .int .u8 1, .int .u8 0] 27
          simp only [World.size_alloc] at M
          have r0 := M.blk.2.1 0 _ rfl
          have r1 := M.blk.2.1 1 _ rfl
          have r2 := M.blk.2.1 2 _ rfl
          clear M
          go_enter Try.func27, Try.ntmps27
          go_wp2_with fail
          refine bodyPost_ret (v := memv ⟨inc, 1, 0⟩) (by simp [results, Try.results27, go_sem, r0, r1, r2]) rfl ⟨rfl, b0⟩
      · skip
        have t1 : decide (m.i < inc) = false := by simp; omega
        have t2 : (inc == m.i) = true := by simpa using h2
        have t3 : decide (0 < inc) = false := by simpa using h3
        have hres : heardM inc m = m := by unfold heardM; rw [if_neg (by omega)]
        rw [hres]
        clear hres h1 h2 h3
        have b0 := Gw.al (Gw.al (Below.refl w.heap.size w) (.cells #[.int .u16 m.i, .int .u8 m.s, .int .u8 m.q] 27)) (.cells #[.int .u16 m.i, .int .u8 m.s, .int .u8 m.q] 27)
        have M := Ob.new (w.alloc (.cells #[.int .u16 m.i, .int .u8 m.s, .int .u8 m.q] 27)) #[.int .u16 m.i, .int .u8 m.s, .int .u8 m.q] 27
        simp only [World.size_alloc] at M
        have r0 := M.blk.2.1 0 _ rfl
        have r1 := M.blk.2.1 1 _ rfl
        have r2 := M.blk.2.1 2 _ rfl
        clear M
        go_enter Try.func27, Try.ntmps27
        go_wp2_with fail
        refine bodyPost_ret (v := memv m) (by simp [results, Try.results27, go_sem, r0, r1, r2]) rfl ⟨rfl, b0⟩
    · skip
      have t1 : decide (m.i < inc) = false := by simp; omega
      have t2 : (inc == m.i) = false := by simpa using h2
      have hres : heardM inc m = m := by unfold heardM; rw [if_neg (by omega)]
      rw [hres]
      clear hres h1 h2
      have b0 := Gw.al (Gw.al (Below.refl w.heap.size w) (.cells #[.int .u16 m.i, .int .u8 m.s, .int .u8 m.q] 27)) (.cells #[.int .u16 m.i, .int .u8 m.s, .int .u8 m.q] 27)
      have M := Ob.new (w.alloc (.cells #[.int .u16 m.i, .int .u8 m.s, .int .u8 m.q] 27)) #[.int .u16 m.i, .int .u8 m.s, .int .u8 m.q] 27
      simp only [World.size_alloc] at M
      have r0 := M.blk.2.1 0 _ rfl
      have r1 := M.blk.2.1 1 _ rfl
      have r2 := M.blk.2.1 2 _ rfl
      clear M
      go_enter Try.func27, Try.ntmps27
      go_wp2_with fail
      refine bodyPost_ret (v := memv m) (by simp [results, Try.results27, go_sem, r0, r1, r2]) rfl ⟨rfl, b0⟩
set_option maxHeartbeats 2000000 in
theorem left1_any (inc : Int) (m : Mb) (g : Nat) (w : World) (hg : g < w.heap.size) (hc : w.cell? ⟨g, 0, none⟩ = some (.int .u16 inc)) (hi : 0 ≤ inc) :
    Calls Try.prog 28 #[memv m, .pointer (some ⟨g, 0, none⟩)] w fun e w' => e = .returned (memv (leftM inc m)) ∧ Below w.heap.size w w' := by
  by_cases h1 : m.i < inc
  · skip
    have t1 : decide (m.i < inc) = true := by simpa using h1
    have t2 : (inc == m.i) = false := by simp; omega
    have hres : leftM inc m = ⟨inc, 3, 0⟩ := by unfold leftM; rw [if_pos h1]
    rw [hres]
    clear hres h1
    have b0 := Gw.al (Gw.al (Below.refl w.heap.size w) (.cells #[.int .u16 m.i, .int .u8 m.s, .int .u8 m.q] 27)) (.cells #[.int .u16 inc, .int .u8 3, .int .u8 0] 27)
    have M := Ob.new (w.alloc (.cells #[.int .u16 m.i, .int .u8 m.s, .int .u8 m.q] 27)) #[.int .u16 inc, .int .u8 3, .int .u8 0] 27
    simp only [World.size_alloc] at M
    have r0 := M.blk.2.1 0 _ rfl
    have r1 := M.blk.2.1 1 _ rfl
    have r2 := M.blk.2.1 2 _ rfl
    clear M
    go_enter Try.func28, Try.ntmps28
    go_wp2_with fail
    refine bodyPost_ret (v := memv ⟨inc, 3, 0⟩) (by simp [results, Try.results28, go_sem, r0, r1, r2]) rfl ⟨rfl, b0⟩
  · by_cases h2 : inc = m.i
    · by_cases h3 : 0 < inc
      · skip
        have t1 : decide (m.i < inc) = false := by simp; omega
        have t2 : (inc == m.i) = true := by simpa using h2
        have t3 : decide (0 < inc) = true := by simpa using h3
        have hres : leftM inc m = ⟨m.i, 3, m.q⟩ := by unfold leftM; rw [if_neg h1, if_pos ⟨h2, h3⟩]
        rw [hres]
        clear hres h1 h2 h3
        have b0 := Gw.al (Gw.al (Below.refl w.heap.size w) (.cells #[.int .u16 m.i, .int .u8 3, .int .u8 m.q] 27)) (.cells #[.int .u16 m.i, .int .u8 3, .int .u8 m.q] 27)
        have M := Ob.new (w.alloc (.cells #[.int .u16 m.i, .int .u8 3, .int .u8 m.q] 27)) #[.int .u16 m.i, .int .u8 3, .int .u8 m.q] 27
        simp only [World.size_alloc] at M
        have r0 := M.blk.2.1 0 _ rfl
        have r1 := M.blk.2.1 1 _ rfl
        have r2 := M.blk.2.1 2 _ rfl
        clear M
        go_enter Try.func28, Try.ntmps28
        go_wp2_with fail
        refine bodyPost_ret (v := memv ⟨m.i, 3, m.q⟩) (by simp [results, Try.results28, go_sem, r0, r1, r2]) rfl ⟨rfl, b0⟩
      · skip
        have t1 : decide (m.i < inc) = false := by simp; omega
        have t2 : (inc == m.i) = true := by simpa using h2
        have t3 : decide (0 < inc) = false := by simpa using h3
        have hres : leftM inc m = m := by unfold leftM; rw [if_neg h1, if_neg (by omega)]
        rw [hres]
        clear hres h1 h2 h3
        have b0 := Gw.al (Gw.al (Below.refl w.heap.size w) (.cells #[.int .u16 m.i, .int .u8 m.s, .int .u8 m.q] 27)) (.cells #[.int .u16 m.i, .int .u8 m.s, .int .u8 m.q] 27)
        have M := Ob.new (w.alloc (.cells #[.int .u16 m.i, .int .u8 m.s, .int .u8 m.q] 27)) #[.int .u16 m.i, .int .u8 m.s, .int .u8 m.q] 27
        simp only [World.size_alloc] at M
        have r0 := M.blk.2.1 0 _ rfl
        have r1 := M.blk.2.1 1 _ rfl
        have r2 := M.blk.2.1 2 _ rfl
        clear M
        go_enter Try.func28, Try.ntmps28
        go_wp2_with fail
        refine bodyPost_ret (v := memv m) (by simp [results, Try.results28, go_sem, r0, r1, r2]) rfl ⟨rfl, b0⟩
    · skip
      have t1 : decide (m.i < inc) = false := by simp; omega
      have t2 : (inc == m.i) = false := by simpa using h2
      have hres : leftM inc m = m := by unfold leftM; rw [if_neg h1, if_neg (by omega)]
      rw [hres]
      clear hres h1 h2
      have b0 := Gw.al (Gw.al (Below.refl w.heap.size w) (.cells #[.int .u16 m.i, .int .u8 m.s, .int .u8 m.q] 27)) (.cells #[.int .u16 m.i, .int .u8 m.s, .int .u8 m.q] 27)
      have M := Ob.new (w.alloc (.cells #[.int .u16 m.i, .int .u8 m.s, .int .u8 m.q] 27)) #[.int .u16 m.i, .int .u8 m.s, .int .u8 m.q] 27
      simp only [World.size_alloc] at M
      have r0 := M.blk.2.1 0 _ rfl
      have r1 := M.blk.2.1 1 _ rfl
      have r2 := M.blk.2.1 2 _ rfl
      clear M
      go_enter Try.func28, Try.ntmps28
      go_wp2_with fail
      refine bodyPost_ret (v := memv m) (by simp [results, Try.results28, go_sem, r0, r1, r2]) rfl ⟨rfl, b0⟩
set_option maxRecDepth 100000 in
set_option maxHeartbeats 4000000 in
theorem changed_heard (l : List Mb) (A : Option Addr) (cap k : Nat) (inc : Int) (g : Nat) (w : World) (hr : Rd memc 3 w.heap.size w A l) (hlen : l.length ≤ 1000000) (hk : k ≤ 1000000) (hg : g < w.heap.size) (hc : w.cell? ⟨g, 0, none⟩ = some (.int .u16 inc)) (hi : 0 ≤ inc) :
    Calls Try.prog 26 #[.slice A l.length cap, .int .i64 k, .func (.func 27) #[] #[.pointer (some ⟨g, 0, none⟩)]] w fun e w' => ∃ A' c', e = .returned (.slice A' l.length c') ∧ Own memc 3 27 w.heap.size w' (.slice A' l.length c') (modL l k (heardM inc)) ∧ Below w.heap.size w w' := by
  go_enter Try.func26, Try.ntmps26
  go_wp2_with fail
  refine (cloneMem_any l A cap _ hr hlen).mono ?_
  rintro e w1 ⟨A1, c1, rfl, o1, b1⟩
  by_cases hlt : k < l.length
  · obtain ⟨x, hx⟩ : ∃ x, l[k]? = some x := ⟨_, List.getElem?_eq_getElem hlt⟩
    obtain ⟨g1, rfl⟩ : ∃ g1, A1 = some ⟨g1, 0, none⟩ := by
      rcases o1.2 with ⟨_, h0⟩ | ⟨g1, _, _, hv, _⟩
      · omega
      · injection hv with hA _ _; exact ⟨g1, hA⟩
    have e0 := Own.at_ memc_len o1 hx (j := 0) rfl
    have e1 := Own.at_ memc_len o1 hx (j := 1) rfl
    have e2 := Own.at_ memc_len o1 hx (j := 2) rfl
    rw [Nat.add_zero] at e0
    have t1 : decide ((k : Int) < (l.length : Int)) = true := by simp; omega
    have ki : (k : Int) < (l.length : Int) := by omega
    have HM := Lib.hid (modL_at hx (heardM inc))
    have HX := Lib.hid hx
    clear hx hr
    go_wp2_with fail
    refine (heard1_any inc x g w1 (Nat.lt_of_lt_of_le hg b1.size) ((b1.cell (p := ⟨g, 0, none⟩) hg).trans hc) hi).mono ?_
    rintro e w2 ⟨rfl, b2⟩
    have o2 := o1.below b2
    have bl := Gw.call b1 b2
    have f2 := fun j => Own.free o2 j
    have e0' := Own.at_ memc_len o2 HX.out (j := 0) rfl
    have e1' := Own.at_ memc_len o2 HX.out (j := 1) rfl
    have e2' := Own.at_ memc_len o2 HX.out (j := 2) rfl
    rw [Nat.add_zero] at e0'
    generalize heardM inc x = y at *
    have hlo := (Own.row o2).2.1
    clear b2 e0 e1 e2 hc
    go_wp2_with fail
    go_ret
    rw [HM.out]
    have p0 := Own.put1 memc_len o2 HX.out (j := 0) (by omega) ⟨y.i, x.s, x.q⟩ (.int .u16 y.i) rfl
    rw [Nat.add_zero] at p0
    have p1 := Own.put1 memc_len p0 (k := k) (x := ⟨y.i, x.s, x.q⟩) (by simp [hlt]) (j := 1) (by omega) ⟨y.i, y.s, x.q⟩ (.int .u8 y.s) rfl
    have p2 := Own.put1 memc_len p1 (k := k) (x := ⟨y.i, y.s, x.q⟩) (by simp [hlt]) (j := 2) (by omega) ⟨y.i, y.s, y.q⟩ (.int .u8 y.q) rfl
    simp only [List.set_set] at p2
    exact ⟨_, _, rfl, p2, Gw.st (Gw.st (Gw.st bl hlo _) hlo _) hlo _⟩
  · have t1 : decide ((k : Int) < (l.length : Int)) = false := by simp; omega
    have HM := Lib.hid (modL_out (l := l) (k := k) (by omega) (heardM inc))
    clear hr
    go_wp2_with fail
    go_ret
    rw [HM.out]
    exact ⟨A1, c1, rfl, o1, b1⟩
theorem heard_any (l : List Mb) (A : Option Addr) (cap : Nat) (node inc : Int) (w : World) (hr : Rd memc 3 w.heap.size w A l) (hlen : l.length ≤ 1000000) (hn : 0 ≤ node ∧ node ≤ 255) (hi : 0 ≤ inc) :
    Calls Try.prog 8 #[.slice A l.length cap, .int .u8 node, .int .u16 inc] w fun e w' => ∃ A' c', e = .returned (.slice A' l.length c') ∧ Own memc 3 27 w.heap.size w' (.slice A' l.length c') (modL l node.toNat (heardM inc)) ∧ Below w.heap.size w w' := by
  have hmf : ∀ (fn : Fn) (first cap : Array Value) (w : World), (Instr.makeFunc fn first cap).run Try.prog w = .ok (.func fn first cap) w := fun _ _ _ _ => rfl
  have b0 := Gw.al (Below.refl w.heap.size w) (.cells #[.int .u16 inc] 22)
  have G := Ob.new w #[.int .u16 inc] 22
  obtain ⟨k, rfl⟩ := Int.eq_ofNat_of_zero_le hn.1
  have hk : k ≤ 255 := by omega
  clear hn
  go_enter Try.func8, Try.ntmps8
  go_wp2_with fail
  refine (changed_heard l A cap k inc _ _ (hr.up b0) hlen (by omega) G.lt (G.blk.2.1 0 _ rfl) hi).mono ?_
  rintro e w1 ⟨A1, c1, rfl, o1, b1⟩
  go_wp2_with fail
  go_ret
  exact ⟨A1, c1, rfl, o1.base_le b0.size, Gw.call b0 b1⟩
set_option maxRecDepth 100000 in
set_option maxHeartbeats 4000000 in
theorem changed_left (l : List Mb) (A : Option Addr) (cap k : Nat) (inc : Int) (g : Nat) (w : World) (hr : Rd memc 3 w.heap.size w A l) (hlen : l.length ≤ 1000000) (hk : k ≤ 1000000) (hg : g < w.heap.size) (hc : w.cell? ⟨g, 0, none⟩ = some (.int .u16 inc)) (hi : 0 ≤ inc) :
    Calls Try.prog 26 #[.slice A l.length cap, .int .i64 k, .func (.func 28) #[] #[.pointer (some ⟨g, 0, none⟩)]] w fun e w' => ∃ A' c', e = .returned (.slice A' l.length c') ∧ Own memc 3 27 w.heap.size w' (.slice A' l.length c') (modL l k (leftM inc)) ∧ Below w.heap.size w w' := by
  go_enter Try.func26, Try.ntmps26
  go_wp2_with fail
  refine (cloneMem_any l A cap _ hr hlen).mono ?_
  rintro e w1 ⟨A1, c1, rfl, o1, b1⟩
  by_cases hlt : k < l.length
  · obtain ⟨x, hx⟩ : ∃ x, l[k]? = some x := ⟨_, List.getElem?_eq_getElem hlt⟩
    obtain ⟨g1, rfl⟩ : ∃ g1, A1 = some ⟨g1, 0, none⟩ := by
      rcases o1.2 with ⟨_, h0⟩ | ⟨g1, _, _, hv, _⟩
      · omega
      · injection hv with hA _ _; exact ⟨g1, hA⟩
    have e0 := Own.at_ memc_len o1 hx (j := 0) rfl
    have e1 := Own.at_ memc_len o1 hx (j := 1) rfl
    have e2 := Own.at_ memc_len o1 hx (j := 2) rfl
    rw [Nat.add_zero] at e0
    have t1 : decide ((k : Int) < (l.length : Int)) = true := by simp; omega
    have ki : (k : Int) < (l.length : Int) := by omega
    have HM := Lib.hid (modL_at hx (leftM inc))
    have HX := Lib.hid hx
    clear hx hr
    go_wp2_with fail
    refine (left1_any inc x g w1 (Nat.lt_of_lt_of_le hg b1.size) ((b1.cell (p := ⟨g, 0, none⟩) hg).trans hc) hi).mono ?_
    rintro e w2 ⟨rfl, b2⟩
    have o2 := o1.below b2
    have bl := Gw.call b1 b2
    have f2 := fun j => Own.free o2 j
    have e0' := Own.at_ memc_len o2 HX.out (j := 0) rfl
    have e1' := Own.at_ memc_len o2 HX.out (j := 1) rfl
    have e2' := Own.at_ memc_len o2 HX.out (j := 2) rfl
    rw [Nat.add_zero] at e0'
    generalize leftM inc x = y at *
    have hlo := (Own.row o2).2.1
    clear b2 e0 e1 e2 hc
    go_wp2_with fail
    go_ret
    rw [HM.out]
    have p0 := Own.put1 memc_len o2 HX.out (j := 0) (by omega) ⟨y.i, x.s, x.q⟩ (.int .u16 y.i) rfl
    rw [Nat.add_zero] at p0
    have p1 := Own.put1 memc_len p0 (k := k) (x := ⟨y.i, x.s, x.q⟩) (by simp [hlt]) (j := 1) (by omega) ⟨y.i, y.s, x.q⟩ (.int .u8 y.s) rfl
    have p2 := Own.put1 memc_len p1 (k := k) (x := ⟨y.i, y.s, x.q⟩) (by simp [hlt]) (j := 2) (by omega) ⟨y.i, y.s, y.q⟩ (.int .u8 y.q) rfl
    simp only [List.set_set] at p2
    exact ⟨_, _, rfl, p2, Gw.st (Gw.st (Gw.st bl hlo _) hlo _) hlo _⟩
  · have t1 : decide ((k : Int) < (l.length : Int)) = false := by simp; omega
    have HM := Lib.hid (modL_out (l := l) (k := k) (by omega) (leftM inc))
    clear hr
    go_wp2_with fail
    go_ret
    rw [HM.out]
    exact ⟨A1, c1, rfl, o1, b1⟩
theorem left_any (l : List Mb) (A : Option Addr) (cap : Nat) (node inc : Int) (w : World) (hr : Rd memc 3 w.heap.size w A l) (hlen : l.length ≤ 1000000) (hn : 0 ≤ node ∧ node ≤ 255) (hi : 0 ≤ inc) :
    Calls Try.prog 10 #[.slice A l.length cap, .int .u8 node, .int .u16 inc] w fun e w' => ∃ A' c', e = .returned (.slice A' l.length c') ∧ Own memc 3 27 w.heap.size w' (.slice A' l.length c') (modL l node.toNat (leftM inc)) ∧ Below w.heap.size w w' := by
  have hmf : ∀ (fn : Fn) (first cap : Array Value) (w : World), (Instr.makeFunc fn first cap).run Try.prog w = .ok (.func fn first cap) w := fun _ _ _ _ => rfl
  have b0 := Gw.al (Below.refl w.heap.size w) (.cells #[.int .u16 inc] 22)
  have G := Ob.new w #[.int .u16 inc] 22
  obtain ⟨k, rfl⟩ := Int.eq_ofNat_of_zero_le hn.1
  have hk : k ≤ 255 := by omega
  clear hn
  go_enter Try.func10, Try.ntmps10
  go_wp2_with fail
  refine (changed_left l A cap k inc _ _ (hr.up b0) hlen (by omega) G.lt (G.blk.2.1 0 _ rfl) hi).mono ?_
  rintro e w1 ⟨A1, c1, rfl, o1, b1⟩
  go_wp2_with fail
  go_ret
  exact ⟨A1, c1, rfl, o1.base_le b0.size, Gw.call b0 b1⟩
end Go.Proofs.Ytgkdljfhmflmjaa
