/-
  The chapter's examples: grapevinelaw17.awake returns true.
-/
import Derived.Test.YthockpallaoelaaLacks
import Derived.Test.YthockpallaoelaaDigMarks
import Derived.Test.YthockpallaoelaaMarksSame
import Derived.Test.YthockpallaoelaaNewer
namespace Go.Proofs.Ythockpallaoelaa
open Go.RowKit
instance (x : Id) : Decidable x.ok := inferInstanceAs (Decidable ((0 ≤ x.n ∧ x.n ≤ 255) ∧ (0 ≤ x.i ∧ x.i ≤ 65535) ∧ (0 ≤ x.s ∧ x.s ≤ 4294967295)))
instance (x : Rw) : Decidable x.ok := inferInstanceAs (Decidable ((0 ≤ x.i ∧ x.i ≤ 65535) ∧ (0 ≤ x.p ∧ x.p ≤ 4294967295) ∧ (0 ≤ x.b ∧ x.b ≤ 18446744073709551615)))
theorem id17_any (n i s : Int) (w : World) : Calls Try.prog 25 #[.int .u8 n, .int .u16 i, .int .u32 s] w fun e w' => e = .returned (idv ⟨n, i, s⟩) ∧ Below w.heap.size w w' := by
  have b0 := Gw.al (Below.refl w.heap.size w) (.cells #[.int .u8 n, .int .u16 i, .int .u32 s] 30)
  have M := Ob.new w #[.int .u8 n, .int .u16 i, .int .u32 s] 30
  have m0 := M.blk.2.1 0 _ rfl
  have m1 := M.blk.2.1 1 _ rfl
  have m2 := M.blk.2.1 2 _ rfl
  go_enter Try.func25, Try.ntmps25
  go_wp2_with fail
  refine bodyPost_ret (v := idv ⟨n, i, s⟩) (by simp [results, Try.results25, go_sem, m0, m1, m2]) rfl ⟨rfl, b0⟩
set_option maxRecDepth 100000 in
set_option maxHeartbeats 4000000 in
theorem awake_any (w : World) : Calls Try.prog 9 #[] w fun e w' => e = .returned (.bool true) ∧ Below w.heap.size w w' := by
  go_enter Try.func9, Try.ntmps9
  go_wp2_with fail
  have bb := (Gw.al (Below.refl w.heap.size w) (.cells #[.int .u16 1, .int .u32 2, .int .u64 2, .int .u16 0, .int .u32 0, .int .u64 0, .int .u16 3, .int .u32 0, .int .u64 0] 34))
  have LR0 := Own.lit (enc := rowc) (sz := 3) (E := 34) (base := 0) (l := [⟨1, 2, 2⟩, ⟨0, 0, 0⟩, ⟨3, 0, 0⟩]) w #[.int .u16 1, .int .u32 2, .int .u64 2, .int .u16 0, .int .u32 0, .int .u64 0, .int .u16 3, .int .u32 0, .int .u64 0] 3 (Nat.zero_le _) (by simp [maxLen]) rfl rfl rfl
  refine (id17_any 0 1 2 _).mono ?_
  rintro e w1 ⟨rfl, hb⟩
  have b1 := Gw.call bb hb
  have LR := LR0.below hb
  clear hb bb
  clear LR0
  go_wp2_with fail
  have bb := b1
  refine (id17_any 0 1 3 _).mono ?_
  rintro e w2 ⟨rfl, hb⟩
  have b2 := Gw.call bb hb
  replace LR := Own.below LR hb
  clear hb bb b1
  go_wp2_with fail
  have bb := b2
  refine (id17_any 0 1 4 _).mono ?_
  rintro e w3 ⟨rfl, hb⟩
  have b3 := Gw.call bb hb
  replace LR := Own.below LR hb
  clear hb bb b2
  go_wp2_with fail
  have bb := b3
  refine (id17_any 1 1 1 _).mono ?_
  rintro e w4 ⟨rfl, hb⟩
  have b4 := Gw.call bb hb
  replace LR := Own.below LR hb
  clear hb bb b3
  go_wp2_with fail
  have bb := b4
  refine (id17_any 2 2 1 _).mono ?_
  rintro e w5 ⟨rfl, hb⟩
  have b5 := Gw.call bb hb
  replace LR := Own.below LR hb
  clear hb bb b4
  go_wp2_with fail
  have bb := b5
  refine (id17_any 2 3 1 _).mono ?_
  rintro e w6 ⟨rfl, hb⟩
  have b6 := Gw.call bb hb
  replace LR := Own.below LR hb
  clear hb bb b5
  go_wp2_with fail
  have bb := b6
  refine (id17_any 0 1 3 _).mono ?_
  rintro e w7 ⟨rfl, hb⟩
  have b7 := Gw.call bb hb
  replace LR := Own.below LR hb
  clear hb bb b6
  go_wp2_with fail
  have bb := b7
  refine (id17_any 5 1 1 _).mono ?_
  rintro e w8 ⟨rfl, hb⟩
  have b8 := Gw.call bb hb
  replace LR := Own.below LR hb
  clear hb bb b7
  go_wp2_with fail
  replace LR := (LR.alloc (.cells #[.int .u8 0, .int .u16 1, .int .u32 2, .int .u8 0, .int .u16 1, .int .u32 3, .int .u8 0, .int .u16 1, .int .u32 4, .int .u8 1, .int .u16 1, .int .u32 1, .int .u8 2, .int .u16 2, .int .u32 1, .int .u8 2, .int .u16 3, .int .u32 1, .int .u8 0, .int .u16 1, .int .u32 3, .int .u8 5, .int .u16 1, .int .u32 1] 30))
  have bb := (Gw.al b8 (.cells #[.int .u8 0, .int .u16 1, .int .u32 2, .int .u8 0, .int .u16 1, .int .u32 3, .int .u8 0, .int .u16 1, .int .u32 4, .int .u8 1, .int .u16 1, .int .u32 1, .int .u8 2, .int .u16 2, .int .u32 1, .int .u8 2, .int .u16 3, .int .u32 1, .int .u8 0, .int .u16 1, .int .u32 3, .int .u8 5, .int .u16 1, .int .u32 1] 30))
  have LI := Own.lit (enc := idc) (sz := 3) (E := 30) (base := 0) (l := [⟨0, 1, 2⟩, ⟨0, 1, 3⟩, ⟨0, 1, 4⟩, ⟨1, 1, 1⟩, ⟨2, 2, 1⟩, ⟨2, 3, 1⟩, ⟨0, 1, 3⟩, ⟨5, 1, 1⟩]) w8 #[.int .u8 0, .int .u16 1, .int .u32 2, .int .u8 0, .int .u16 1, .int .u32 3, .int .u8 0, .int .u16 1, .int .u32 4, .int .u8 1, .int .u16 1, .int .u32 1, .int .u8 2, .int .u16 2, .int .u32 1, .int .u8 2, .int .u16 3, .int .u32 1, .int .u8 0, .int .u16 1, .int .u32 3, .int .u8 5, .int .u16 1, .int .u32 1] 8 (Nat.zero_le _) (by simp [maxLen]) rfl rfl rfl
  refine (lacks_any [⟨0, 1, 2⟩, ⟨0, 1, 3⟩, ⟨0, 1, 4⟩, ⟨1, 1, 1⟩, ⟨2, 2, 1⟩, ⟨2, 3, 1⟩, ⟨0, 1, 3⟩, ⟨5, 1, 1⟩] [⟨1, 2, 2⟩, ⟨0, 0, 0⟩, ⟨3, 0, 0⟩] 4 _ _ 8 3 _ (LI.rd idc_len) (LR.rd rowc_len) (by decide) (by decide) (by simp) (by simp)).mono ?_
  rintro e w9 ⟨A1, c1, rfl, o1, hb⟩
  have b9 := Gw.call bb hb
  replace LR := Own.below LR hb
  have OL := o1
  clear hb bb b8
  have hl : lacksL [⟨0, 1, 2⟩, ⟨0, 1, 3⟩, ⟨0, 1, 4⟩, ⟨1, 1, 1⟩, ⟨2, 2, 1⟩, ⟨2, 3, 1⟩, ⟨0, 1, 3⟩, ⟨5, 1, 1⟩] [⟨1, 2, 2⟩, ⟨0, 0, 0⟩, ⟨3, 0, 0⟩] 4 = [⟨0, 1, 3⟩, ⟨1, 1, 1⟩, ⟨2, 3, 1⟩] := by decide
  rw [hl] at OL ⊢
  clear hl o1 LI
  go_wp2_with fail
  have bb := b9
  refine (dmarks_any [⟨1, 2, 2⟩, ⟨0, 0, 0⟩, ⟨3, 0, 0⟩] _ 3 _ (LR.rd rowc_len) (by simp)).mono ?_
  rintro e w10 ⟨A2, c2, rfl, o2, hb⟩
  have b10 := Gw.call bb hb
  clear LR
  replace OL := Own.below OL hb
  have OM := o2
  clear hb bb b9
  have hl : marksL [⟨1, 2, 2⟩, ⟨0, 0, 0⟩, ⟨3, 0, 0⟩] = [⟨0, 1, 2⟩, ⟨2, 3, 0⟩] := by decide
  rw [hl] at OM ⊢
  clear hl o2
  go_wp2_with fail
  replace OL := (OL.alloc (.cells #[.int .u8 0, .int .u16 1, .int .u32 2, .int .u8 2, .int .u16 3, .int .u32 0] 43))
  replace OM := (OM.alloc (.cells #[.int .u8 0, .int .u16 1, .int .u32 2, .int .u8 2, .int .u16 3, .int .u32 0] 43))
  have bb := (Gw.al b10 (.cells #[.int .u8 0, .int .u16 1, .int .u32 2, .int .u8 2, .int .u16 3, .int .u32 0] 43))
  have LM := Own.lit (enc := idc) (sz := 3) (E := 43) (base := 0) (l := [⟨0, 1, 2⟩, ⟨2, 3, 0⟩]) w10 #[.int .u8 0, .int .u16 1, .int .u32 2, .int .u8 2, .int .u16 3, .int .u32 0] 2 (Nat.zero_le _) (by simp [maxLen]) rfl rfl rfl
  refine (msame_any [⟨0, 1, 2⟩, ⟨2, 3, 0⟩] [⟨0, 1, 2⟩, ⟨2, 3, 0⟩] _ _ _ 2 _ (OM.rd idc_len) (LM.rd idc_len) (by simp) (by simp)).mono ?_
  rintro e w11 ⟨rfl, hb⟩
  have b11 := Gw.call bb hb
  replace OL := Own.below OL hb
  clear OM
  clear hb bb b10
  rw [decide_eq_true rfl]
  clear LM
  go_wp2_with fail
  have bb := b11
  refine (id17_any 0 1 3 _).mono ?_
  rintro e w12 ⟨rfl, hb⟩
  have b12 := Gw.call bb hb
  replace OL := Own.below OL hb
  clear hb bb b11
  go_wp2_with fail
  have bb := b12
  refine (id17_any 1 1 1 _).mono ?_
  rintro e w13 ⟨rfl, hb⟩
  have b13 := Gw.call bb hb
  replace OL := Own.below OL hb
  clear hb bb b12
  go_wp2_with fail
  have bb := b13
  refine (id17_any 2 3 1 _).mono ?_
  rintro e w14 ⟨rfl, hb⟩
  have b14 := Gw.call bb hb
  replace OL := Own.below OL hb
  clear hb bb b13
  go_wp2_with fail
  replace OL := (OL.alloc (.cells #[.int .u8 0, .int .u16 1, .int .u32 3, .int .u8 1, .int .u16 1, .int .u32 1, .int .u8 2, .int .u16 3, .int .u32 1] 30))
  have bb := (Gw.al b14 (.cells #[.int .u8 0, .int .u16 1, .int .u32 3, .int .u8 1, .int .u16 1, .int .u32 1, .int .u8 2, .int .u16 3, .int .u32 1] 30))
  have LI := Own.lit (enc := idc) (sz := 3) (E := 30) (base := 0) (l := [⟨0, 1, 3⟩, ⟨1, 1, 1⟩, ⟨2, 3, 1⟩]) w14 #[.int .u8 0, .int .u16 1, .int .u32 3, .int .u8 1, .int .u16 1, .int .u32 1, .int .u8 2, .int .u16 3, .int .u32 1] 3 (Nat.zero_le _) (by simp [maxLen]) rfl rfl rfl
  refine (same_any [⟨0, 1, 3⟩, ⟨1, 1, 1⟩, ⟨2, 3, 1⟩] [⟨0, 1, 3⟩, ⟨1, 1, 1⟩, ⟨2, 3, 1⟩] _ _ _ 3 _ (OL.rd idc_len) (LI.rd idc_len) (by simp) (by simp)).mono ?_
  rintro e w15 ⟨rfl, hb⟩
  have b15 := Gw.call bb hb
  clear OL
  clear hb bb b14
  rw [decide_eq_true rfl]
  clear LI
  go_wp2_with fail
  have bb := b15
  refine (newer_any ⟨0, 2, 1⟩ ⟨0, 1, 9⟩ _).mono ?_
  rintro e w16 ⟨rfl, hb⟩
  have b16 := Gw.call bb hb
  clear hb bb b15
  rw [show newerB ⟨0, 2, 1⟩ ⟨0, 1, 9⟩ = true by decide]
  go_wp2_with fail
  have bb := b16
  refine (newer_any ⟨0, 1, 1⟩ ⟨1, 0, 0⟩ _).mono ?_
  rintro e w17 ⟨rfl, hb⟩
  have b17 := Gw.call bb hb
  clear hb bb b16
  rw [show newerB ⟨0, 1, 1⟩ ⟨1, 0, 0⟩ = false by decide]
  go_wp2_with fail
  go_ret
  exact ⟨rfl, b17⟩
end Go.Proofs.Ythockpallaoelaa
