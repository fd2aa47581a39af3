/-
  The document's own Of, Passed and Newer (19).
-/
import Derived.Test.YtcclnfpegepcnaaLaw19C
namespace Go.Proofs.Ytcclnfpegepcnaa
open Go.RowKit
set_option maxRecDepth 100000 in
set_option maxHeartbeats 4000000 in
theorem refof_any (t : List (List Id)) (A : Option Addr) (ca n m nd : Nat) (w : World) (hln : t.length = n) (hr : Rep w.heap.size w A t) (hm : m ≤ 255) (hnd : nd ≤ 255) :
    Calls Try.prog 22 #[.slice A n ca, .int .u8 m, .int .u8 nd] w fun e w' => e = .returned (idv (ofL t m nd)) ∧ Below w.heap.size w w' := by
  have wm : IntKind.i64.wrap (m : Int) = (m : Int) := IntWalk.i64_in _ (by omega)
  have wn : IntKind.i64.wrap (nd : Int) = (nd : Int) := IntWalk.i64_in _ (by omega)
  have end_ : ∀ x : Id, ofL t m nd = x → (∀ W' : World, W' = w.alloc (.cells #[.int .u8 x.n, .int .u16 x.i, .int .u32 x.s] 40) → W'.cell? ⟨w.heap.size, 0, none⟩ = some (.int .u8 x.n) ∧ W'.cell? ⟨w.heap.size, 1, none⟩ = some (.int .u16 x.i) ∧ W'.cell? ⟨w.heap.size, 2, none⟩ = some (.int .u32 x.s) ∧ Below w.heap.size w W') := fun x _ W' h => by
    subst h
    have M := Ob.new w #[.int .u8 x.n, .int .u16 x.i, .int .u32 x.s] 40
    exact ⟨M.blk.2.1 0 _ rfl, M.blk.2.1 1 _ rfl, M.blk.2.1 2 _ rfl, Gw.al (Below.refl _ _) _⟩
  by_cases hmn : m < n
  · obtain ⟨row, hrow⟩ : ∃ row, t[m]? = some row := ⟨_, List.getElem?_eq_getElem (by omega)⟩
    obtain ⟨b, o, A1, c1, rfl, hb, hc, rr⟩ := hr.at_ hrow
    have t1 : decide ((m : Int) < (n : Int)) = true := by simp; omega
    have t1n : decide (m < n) = true := by simp; omega
    have mi : (m : Int) < (n : Int) := by omega
    have hc' := World.cell?_alloc_old hc (.cells #[.int .u8 0, .int .u16 0, .int .u32 0] 40)
    by_cases hnr : nd < row.length
    · obtain ⟨x, hx⟩ : ∃ x, row[nd]? = some x := ⟨_, List.getElem?_eq_getElem hnr⟩
      obtain ⟨b2, o2, rfl, hb2, hd⟩ := rr.at_ hx
      have d0 := World.cell?_alloc_old (show w.cell? ⟨b2, o2 + nd * 3, none⟩ = some (.int .u8 x.n) from hd 0 _ rfl) (.cells #[.int .u8 0, .int .u16 0, .int .u32 0] 40)
      have d1 := World.cell?_alloc_old (show w.cell? ⟨b2, o2 + nd * 3 + 1, none⟩ = some (.int .u16 x.i) from hd 1 _ rfl) (.cells #[.int .u8 0, .int .u16 0, .int .u32 0] 40)
      have d2 := World.cell?_alloc_old (show w.cell? ⟨b2, o2 + nd * 3 + 2, none⟩ = some (.int .u32 x.s) from hd 2 _ rfl) (.cells #[.int .u8 0, .int .u16 0, .int .u32 0] 40)
      have t2 : decide ((nd : Int) < (row.length : Int)) = true := by simp; omega
      have t2n : decide (nd < row.length) = true := by simp; omega
      have ni : (nd : Int) < (row.length : Int) := by omega
      obtain ⟨m0, m1, m2, b0⟩ := end_ x (of_at hrow hx) _ rfl
      rw [of_at hrow hx]
      clear end_ hx hrow hc hd rr hr hb hb2 hln
      go_enter Try.func22, Try.ntmps22
      go_wp2_with fail
      refine bodyPost_ret (v := idv x) (by simp [results, Try.results22, go_sem, m0, m1, m2]) rfl ⟨rfl, b0⟩
    · have t2 : decide ((nd : Int) < (row.length : Int)) = false := by simp; omega
      have t2n : decide (nd < row.length) = false := by simp; omega
      obtain ⟨m0, m1, m2, b0⟩ := end_ ⟨nd, 0, 0⟩ (of_short hrow (by omega)) _ rfl
      rw [of_short hrow (by omega)]
      clear end_ hrow hc rr hr hb hln
      go_enter Try.func22, Try.ntmps22
      go_wp2_with fail
      refine bodyPost_ret (v := idv ⟨nd, 0, 0⟩) (by simp [results, Try.results22, go_sem, m0, m1, m2]) rfl ⟨rfl, b0⟩
  · have t1 : decide ((m : Int) < (n : Int)) = false := by simp; omega
    have t1n : decide (m < n) = false := by simp; omega
    obtain ⟨m0, m1, m2, b0⟩ := end_ ⟨nd, 0, 0⟩ (of_out (by omega)) _ rfl
    rw [of_out (by omega)]
    clear end_ hr hln
    go_enter Try.func22, Try.ntmps22
    go_wp2_with fail
    refine bodyPost_ret (v := idv ⟨nd, 0, 0⟩) (by simp [results, Try.results22, go_sem, m0, m1, m2]) rfl ⟨rfl, b0⟩
set_option maxRecDepth 100000 in
set_option maxHeartbeats 4000000 in
theorem refpassed_any (m x : Id) (w : World) : Calls Try.prog 34 #[idv m, idv x] w fun e w' => e = .returned (.bool (passedB m x)) ∧ Below w.heap.size w w' := by
  have b0 := Gw.al (Gw.al (Below.refl w.heap.size w) (.cells #[.int .u8 m.n, .int .u16 m.i, .int .u32 m.s] 40)) (.cells #[.int .u8 x.n, .int .u16 x.i, .int .u32 x.s] 28)
  unfold passedB
  by_cases h1 : x.i < m.i
  · have t1 : decide (x.i < m.i) = true := by simp [h1]
    rw [decide_eq_true (Or.inl h1)]
    clear h1
    go_enter Try.func34, Try.ntmps34
    go_wp2_with fail
    go_ret
    exact ⟨rfl, b0⟩
  · have t1 : decide (x.i < m.i) = false := by simp; omega
    by_cases h2 : m.i = x.i
    · have t2 : (m.i == x.i) = true := by simp [h2]
      rw [show decide (x.i < m.i ∨ m.i = x.i ∧ x.s ≤ m.s) = decide (x.s ≤ m.s) by simp [h2]]
      clear h1 h2
      go_enter Try.func34, Try.ntmps34
      go_wp2_with fail
      go_ret
      exact ⟨rfl, b0⟩
    · have t2 : (m.i == x.i) = false := by rw [beq_eq_false_iff_ne]; exact h2
      rw [show decide (x.i < m.i ∨ m.i = x.i ∧ x.s ≤ m.s) = false by simp; exact ⟨by omega, fun h => absurd h h2⟩]
      clear h1 h2
      go_enter Try.func34, Try.ntmps34
      go_wp2_with fail
      go_ret
      exact ⟨rfl, b0⟩
set_option maxHeartbeats 2000000 in
theorem refnewer_any (x y : Id) (w : World) : Calls Try.prog 33 #[idv x, idv y] w fun e w' => e = .returned (.bool (newerB x y)) ∧ Below w.heap.size w w' := by
  have b0 := Gw.al (Gw.al (Below.refl w.heap.size w) (.cells #[.int .u8 x.n, .int .u16 x.i, .int .u32 x.s] 40)) (.cells #[.int .u8 y.n, .int .u16 y.i, .int .u32 y.s] 40)
  by_cases h0 : x.n = y.n
  · have t0 : (x.n != y.n) = false := by rw [h0]; simp
    by_cases h1 : x.i = y.i
    · have t1 : (x.i == y.i) = true := by rw [h1]; simp
      have t2 : decide (y.i < x.i) = false := by rw [h1]; simp
      have hres : newerB x y = decide (y.s < x.s) := by
        unfold newerB; rw [decide_eq_decide]; constructor
        · rintro ⟨_, h | ⟨_, h⟩⟩ <;> omega
        · exact fun h => ⟨h0, .inr ⟨h1, h⟩⟩
      rw [hres]
      clear h0 h1 hres
      go_enter Try.func33, Try.ntmps33
      go_wp2_with fail
      go_ret
      exact ⟨rfl, b0⟩
    · have t1 : (x.i == y.i) = false := by rw [beq_eq_false_iff_ne]; exact h1
      have hres : newerB x y = decide (y.i < x.i) := by
        unfold newerB; rw [decide_eq_decide]; constructor
        · rintro ⟨_, h | ⟨h, _⟩⟩
          · exact h
          · exact absurd h h1
        · exact fun h => ⟨h0, .inl h⟩
      rw [hres]
      clear h0 h1 hres
      by_cases h2 : y.i < x.i
      · have t2 : decide (y.i < x.i) = true := by simpa using h2
        rw [t2]
        clear h2
        go_enter Try.func33, Try.ntmps33
        go_wp2_with fail
        go_ret
        exact ⟨rfl, b0⟩
      · have t2 : decide (y.i < x.i) = false := by simpa using h2
        rw [t2]
        clear h2
        go_enter Try.func33, Try.ntmps33
        go_wp2_with fail
        go_ret
        exact ⟨rfl, b0⟩
  · have t0 : (x.n != y.n) = true := by rw [bne_iff_ne]; exact h0
    have hres : newerB x y = false := by
      unfold newerB; rw [decide_eq_false_iff_not]; exact fun h => h0 h.1
    rw [hres]
    clear h0 hres
    go_enter Try.func33, Try.ntmps33
    go_wp2_with fail
    go_ret
    exact ⟨rfl, b0⟩
end Go.Proofs.Ytcclnfpegepcnaa
