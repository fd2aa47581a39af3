/-
  IdentRuns: the walk.
-/
import Derived.Test.YtddebgdilcfgkaaIdDrop
import Derived.Test.YtddebgdilcfgkaaStep
import Derived.Test.YtddebgdilcfgkaaAwake07
import Derived.Test.YtddebgdilcfgkaaFrame
import Derived.Deep.LoopGhost

namespace Go.Proofs.Ytddebgdilcfgkaa
open Go.RowKit

def runL (n i : Int) : Nat → List Id
  | 0 => []
  | k + 1 => runL n i k ++ [⟨n, i, (k : Int) + 1⟩]
theorem runL_len (n i : Int) : ∀ k, (runL n i k).length = k
  | 0 => rfl
  | k + 1 => by simp [runL, runL_len n i k]
theorem runL_at (n i : Int) : ∀ (k j : Nat) (x : Id), (runL n i k)[j]? = some x → x = ⟨n, i, (j : Int) + 1⟩
  | 0, j, x, h => by simp [runL] at h
  | k + 1, j, x, h => by
    simp only [runL] at h
    rcases Nat.lt_or_ge j k with hj | hj
    · rw [List.getElem?_append_left (by rw [runL_len]; exact hj)] at h
      exact runL_at n i k j x h
    · rw [List.getElem?_append_right (by rw [runL_len]; exact hj), runL_len] at h
      rcases hjk : j - k with _ | m
      · rw [hjk] at h
        simp at h
        rw [← h, id_ext]
        refine ⟨rfl, rfl, ?_⟩
        show (k : Int) + 1 = (j : Int) + 1
        omega
      · rw [hjk] at h; simp at h
theorem runL_rising (n i : Int) (k : Nat) : risingB (runL n i k) = true := by
  rw [rising_iff]
  intro j x y hx hy
  rw [runL_at n i k j x hx, runL_at n i k (j + 1) y hy]
  simp [lessB]
  omega

set_option maxRecDepth 100000 in
set_option maxHeartbeats 8000000 in
theorem runs_any (n i z : Int) (hn : 0 ≤ n ∧ n ≤ 255) (hi : 0 ≤ i ∧ i ≤ 65535) (hz : 0 ≤ z ∧ z ≤ 65535) (w : World) :
    Calls Try.prog 7 #[.int .u8 n, .int .u16 i, .int .u16 z] w fun e w' => e = .returned (.bool true) ∧ Below w.heap.size w w' := by
  have b := Below.refl w.heap.size w
  cases e0 : (i == 0)
  · obtain ⟨N, hN⟩ : ∃ N, n % 12 = N := ⟨_, rfl⟩
    obtain ⟨E, hE⟩ : ∃ E : Nat, z % 301 = E := ⟨(z % 301).toNat, by omega⟩
    have hN1 : 0 ≤ N ∧ N ≤ 11 := by omega
    have hE1 : E ≤ 300 := by omega
    have hi1 : 1 ≤ i := by simp at e0; omega
    have X := Blk.new w #[.int .u8 N, .int .u16 i, .int .u32 0] 25
    replace b := Gw.al b (.cells #[.int .u8 N, .int .u16 i, .int .u32 0] 25)
    obtain ⟨i0, hi0, hz0, hz1, hz2⟩ := info_parts Try.infoId
    go_enter Try.func7, Try.ntmps7
    go_wp2_with fail
    go_loopg [9] (E + 1) (fun f l wr => ∃ (k : Nat) (A : Option Addr) (c : Nat), k ≤ E ∧ k + f = E + 1 ∧ l = .slice A k c ∧ Own idc 3 25 (w.heap.size + 1) wr (.slice A k c) (runL N i k) ∧ Blk wr w.heap.size [.int .u8 N, .int .u16 i, .int .u32 k] ∧ Below w.heap.size w wr)
    case atStart => exact ⟨0, none, 0, by omega, by omega, rfl, Own.nil_, X, b⟩
    case round =>
      obtain ⟨k, A, c, hkE, hk, rfl, hown, X, b⟩ := hrel
      rcases gk with _ | gk
      · omega
      have xf := X.2.2
      obtain ⟨q0X, q1X, q2X⟩ := Blk.c3 X; have qsX := Blk.lt X
      have hok : Id.ok ⟨N, i, k⟩ := ⟨⟨hN1.1, by show N ≤ 255; omega⟩, hi, ⟨by show (0 : Int) ≤ k; omega, by show (k : Int) ≤ _; omega⟩⟩
      by_cases hke : k = E
      · subst hke
        have N1 := Lib.hid (fun W => next_no ⟨N, i, k⟩ k hok (by simp) W)
        have hrl := runL_len N i k
        have R1 := Lib.hid (fun W hr => rising_any (runL N i k) A c W hr (by omega))
        rw [runL_rising, hrl] at R1
        go_wp2_with (first | (go_at_call 9; (with_reducible refine (N1.out _).mono ?_); rintro e w1 ⟨rfl, hb⟩; replace b := (by first | exact Gw.call b hb | exact Gw.call (Gw.al b _) hb | exact Gw.call (Gw.al (Gw.al b _) _) hb | exact Gw.call (Below.drew b) hb | exact Gw.call (Gw.drewN b _) hb); replace X := (by first | exact Blk.call X hb | exact Blk.call (Blk.alloc X _) hb | exact Blk.call (Blk.alloc (Blk.alloc X _) _) hb | exact Blk.call (Blk.drew X) hb | exact Blk.call (Blk.drewN X _) hb); replace hown := (by first | exact Own.below hown hb | exact Own.below (Own.drew hown) hb | exact Own.below (Own.alloc hown _) hb | exact Own.below (Own.alloc (Own.alloc hown _) _) hb); clear hb; clear q0X q1X q2X qsX; obtain ⟨q0X, q1X, q2X⟩ := Blk.c3 X; have qsX := Blk.lt X) | (go_at_call 15; (with_reducible refine (R1.out _ ((Own.alloc hown _).rd idc_len)).mono ?_); rintro e w' ⟨rfl, hb⟩; replace b := (by first | exact Gw.call b hb | exact Gw.call (Gw.al b _) hb | exact Gw.call (Gw.al (Gw.al b _) _) hb | exact Gw.call (Below.drew b) hb | exact Gw.call (Gw.drewN b _) hb); replace X := (by first | exact Blk.call X hb | exact Blk.call (Blk.alloc X _) hb | exact Blk.call (Blk.alloc (Blk.alloc X _) _) hb | exact Blk.call (Blk.drew X) hb | exact Blk.call (Blk.drewN X _) hb); replace hown := (by first | exact Own.below hown hb | exact Own.below (Own.drew hown) hb | exact Own.below (Own.alloc hown _) hb | exact Own.below (Own.alloc (Own.alloc hown _) _) hb); clear hb; clear q0X q1X q2X qsX; obtain ⟨q0X, q1X, q2X⟩ := Blk.c3 X; have qsX := Blk.lt X) | (go_at_call 10; (with_reducible refine (awake_any _).mono ?_); rintro e w' ⟨rfl, hb⟩; replace b := (by first | exact Gw.call b hb | exact Gw.call (Gw.al b _) hb | exact Gw.call (Gw.al (Gw.al b _) _) hb | exact Gw.call (Below.drew b) hb | exact Gw.call (Gw.drewN b _) hb); replace X := (by first | exact Blk.call X hb | exact Blk.call (Blk.alloc X _) hb | exact Blk.call (Blk.alloc (Blk.alloc X _) _) hb | exact Blk.call (Blk.drew X) hb | exact Blk.call (Blk.drewN X _) hb); replace hown := (by first | exact Own.below hown hb | exact Own.below (Own.drew hown) hb | exact Own.below (Own.alloc hown _) hb | exact Own.below (Own.alloc (Own.alloc hown _) _) hb); clear hb; clear q0X q1X q2X qsX; obtain ⟨q0X, q1X, q2X⟩ := Blk.c3 X; have qsX := Blk.lt X))
        go_ret
        exact ⟨rfl, b⟩
      · have hok2 : Id.ok ⟨N, i, (k : Int) + 1⟩ := ⟨⟨hN1.1, by show N ≤ 255; omega⟩, hi, ⟨by show (0 : Int) ≤ (k : Int) + 1; omega, by show (k : Int) + 1 ≤ _; omega⟩⟩
        have N1 := Lib.hid (fun W => next_yes ⟨N, i, k⟩ E hok (by simp; omega) (by omega) W)
        have hrt : rightB ⟨N, i, (k : Int) + 1⟩ 12 E = true := by simp [rightB]; omega
        have R1 := Lib.hid (fun W => right_any ⟨N, i, (k : Int) + 1⟩ 12 E hok2 W)
        rw [hrt] at R1
        clear hrt
        have hrl := runL_len N i k
        go_wp2_with (first | (go_at_call 9; (with_reducible refine (N1.out _).mono ?_); rintro e w1 ⟨rfl, hb⟩; replace b := (by first | exact Gw.call b hb | exact Gw.call (Gw.al b _) hb | exact Gw.call (Gw.al (Gw.al b _) _) hb | exact Gw.call (Below.drew b) hb | exact Gw.call (Gw.drewN b _) hb); replace X := (by first | exact Blk.call X hb | exact Blk.call (Blk.alloc X _) hb | exact Blk.call (Blk.alloc (Blk.alloc X _) _) hb | exact Blk.call (Blk.drew X) hb | exact Blk.call (Blk.drewN X _) hb); replace hown := (by first | exact Own.below hown hb | exact Own.below (Own.drew hown) hb | exact Own.below (Own.alloc hown _) hb | exact Own.below (Own.alloc (Own.alloc hown _) _) hb); clear hb; clear q0X q1X q2X qsX; obtain ⟨q0X, q1X, q2X⟩ := Blk.c3 X; have qsX := Blk.lt X))
        have M := Blk.new w1 #[.int .u8 N, .int .u16 i, .int .u32 ((k : Int) + 1)] 25
        have hlo := Own.lt hown
        have hhi := Own.hi hown
        have ng : w1.heap.size ≠ w.heap.size := by have := Blk.lt X; omega
        replace X := Blk.alloc X (.cells #[.int .u8 N, .int .u16 i, .int .u32 ((k : Int) + 1)] 25)
        replace b := Gw.al b (.cells #[.int .u8 N, .int .u16 i, .int .u32 ((k : Int) + 1)] 25)
        replace hown := Own.alloc hown (.cells #[.int .u8 N, .int .u16 i, .int .u32 ((k : Int) + 1)] 25)
        clear q0X q1X q2X qsX xf
        obtain ⟨q0M, q1M, q2M⟩ := Blk.c3 M; have qsM := Blk.lt M; have qsX := Blk.lt X
        go_region_held3 (fun W => W.cell? ⟨w1.heap.size, 0, none⟩ = some (.int .u8 N) ∧ W.cell? ⟨w1.heap.size, 1, none⟩ = some (.int .u16 i) ∧ W.cell? ⟨w1.heap.size, 2, none⟩ = some (.int .u32 ((k : Int) + 1)))
          (first | exact ⟨q0M, q1M, q2M⟩ | exact ⟨(Blk.far (Blk.far (Blk.far M ng _) ng _) ng _).2.1 0 _ rfl, (Blk.far (Blk.far (Blk.far M ng _) ng _) ng _).2.1 1 _ rfl, (Blk.far (Blk.far (Blk.far M ng _) ng _) ng _).2.1 2 _ rfl⟩ | go_keep)
          (first | (refine step_app rfl _ _ _ _ rfl (w.heap.size + 1) 25 i0 _ 8 Try.underlying34 hi0 hz0 hz1 hz2 rfl (by omega) idc_len idc_one _ _ rfl (Own.drew (Own.alloc hown _)) k hrl.symm _ _ 1 1 [⟨N, i, (k : Int) + 1⟩] rfl rfl (Rd.drew (Rd.lit idc_len _ _ (by simp) _ 25 [⟨N, i, (k : Int) + 1⟩] (by rfl))) (by omega) (by omega) (by simp at qsX ⊢; omega) ?_; intro A3 c3 w3 hown3 hg3; replace M := Blk.grown (Blk.drew (Blk.alloc M _)) hg3 (fun k' h => by have := hhi k' h; omega); replace X := Blk.grown (Blk.drew (Blk.alloc X _)) hg3 (fun k' h => by have := hlo k' h; omega); replace b := Gw.gr (Below.drew (Gw.al b _)) hg3 (fun k' h => by have := hlo k' h; omega); clear hg3 hown q0M q1M q2M qsM qsX; obtain ⟨q0M, q1M, q2M⟩ := Blk.c3 M; have qsM := Blk.lt M; obtain ⟨q0X, q1X, q2X⟩ := Blk.c3 X; have qsX := Blk.lt X; have xf := X.2.2))
        all_goals
          replace X := ((Blk.set X 0 (.int .u8 N) (by simp)).set 1 (.int .u16 i) (by simp)).set 2 (.int .u32 ((k : Int) + 1)) (by simp)
          simp only [List.set_cons_zero, List.set_cons_succ] at X
          replace b := Gw.st (Gw.st (Gw.st b (p := ⟨w.heap.size, 0, none⟩) (Nat.le_refl _) (.int .u8 N)) (p := ⟨w.heap.size, 1, none⟩) (Nat.le_refl _) (.int .u16 i)) (p := ⟨w.heap.size, 2, none⟩) (Nat.le_refl _) (.int .u32 ((k : Int) + 1))
          have hl3 : ∀ k', (Value.slice A3 (k + 1) c3).ownBlock = some k' → k' ≠ w.heap.size := fun k' h => by have := Own.lt hown3 k' h; omega
          replace hown3 := ((hown3.far (p := ⟨w.heap.size, 0, none⟩) hl3 (.int .u8 N)).far (p := ⟨w.heap.size, 1, none⟩) hl3 (.int .u16 i)).far (p := ⟨w.heap.size, 2, none⟩) hl3 (.int .u32 ((k : Int) + 1))
          clear hlo hhi hl3 M
          go_wp2_with (first | (go_at_call 11; (with_reducible refine (R1.out _).mono ?_); rintro e w' ⟨rfl, hb⟩; replace b := (by first | exact Gw.call b hb | exact Gw.call (Gw.al b _) hb | exact Gw.call (Gw.al (Gw.al b _) _) hb | exact Gw.call (Below.drew b) hb | exact Gw.call (Gw.drewN b _) hb); replace X := (by first | exact Blk.call X hb | exact Blk.call (Blk.alloc X _) hb | exact Blk.call (Blk.alloc (Blk.alloc X _) _) hb | exact Blk.call (Blk.drew X) hb | exact Blk.call (Blk.drewN X _) hb); replace hown3 := (by first | exact Own.below hown3 hb | exact Own.below (Own.drew hown3) hb | exact Own.below (Own.alloc hown3 _) hb | exact Own.below (Own.alloc (Own.alloc hown3 _) _) hb); clear hb; (try clear q0X q1X q2X qsX); obtain ⟨q0X, q1X, q2X⟩ := Blk.c3 X; have qsX := Blk.lt X))
          go_roundg gk
          case measure => omega
          case rel => exact ⟨k + 1, A3, c3, by omega, by omega, by go_num, hown3, X, b⟩
  · go_enter Try.func7, Try.ntmps7
    go_wp2_with (go_at_call 10; (with_reducible refine (awake_any _).mono ?_); rintro e w1 ⟨rfl, hb⟩; replace b := Gw.call b hb)
    go_ret
    exact ⟨rfl, b⟩
end Go.Proofs.Ytddebgdilcfgkaa
