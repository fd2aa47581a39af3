/-
  The chapter's examples: grapevinelaw19.awake returns true.
-/
import Derived.Test.YtcclnfpegepcnaaAw19
namespace Go.Proofs.Ytcclnfpegepcnaa
open Go.RowKit
def T1 : List (List Id) := List.replicate 3 (blank 3)
def T2 : List (List Id) := reportL T1 1 [⟨2, 1, 4⟩]
def T3 : List (List Id) := reportL T2 2 [⟨2, 1, 9⟩]
def T4 : List (List Id) := reportL T3 1 [⟨2, 1, 3⟩]
def T5 : List (List Id) := reportL T3 1 [⟨2, 2, 0⟩]
theorem new19_any (w : World) : Calls Try.prog 17 #[.int .i64 3] w fun e w' => ∃ A' c', e = .returned (.slice A' 3 c') ∧ Rep w'.heap.size w' A' T1 ∧ Below w.heap.size w w' := by
  refine (show Calls Try.prog 17 #[.int .i64 3] w _ from new_any 3 w (by omega)).mono ?_
  rintro e w' ⟨A', c', rfl, h, hb⟩
  exact ⟨A', c', rfl, h.rd, hb⟩
theorem rep19_any (t : List (List Id)) (A : Option Addr) (ca : Nat) (mem : Int) (mk : Id) (B : Option Addr) (cb : Nat) (w : World) (h3 : t.length = 3) (hl : ∀ r ∈ t, r.length ≤ 256) (hm : 0 ≤ mem ∧ mem ≤ 255) (rt : Rep w.heap.size w A t) (rb : Rd idc 3 w.heap.size w B [mk]) (hk : mk.ok) :
    Calls Try.prog 14 #[.slice A 3 ca, .int .u8 mem, .slice B 1 cb] w fun e w' => ∃ A' c', e = .returned (.slice A' 3 c') ∧ RepO w.heap.size w' (.slice A' 3 c') (reportL t mem.toNat [mk]) ∧ Below w.heap.size w w' := by
  refine (report_any t A ca 3 mem [mk] B cb w h3 rt (by omega) hl hm rb (by simp) (fun x hx => by obtain rfl : x = mk := by simpa using hx
                                                                                                  exact hk)).mono ?_
  rintro e w' ⟨A', c', rfl, h, hb⟩
  exact ⟨A', c', rfl, h, hb⟩
theorem RepO.low {base : Nat} {W : World} {v : Value} {rows : List (List Id)} (h : RepO base W v rows) {p : Addr} (hp : p.block < base) (u : Value) : RepO base (W.setCell p u) v rows := by
  obtain ⟨rs, h1, h2⟩ := h
  exact ⟨rs, h1, h2.low hp u⟩
set_option maxRecDepth 100000 in
set_option maxHeartbeats 8000000 in
theorem awake_any (w : World) : Calls Try.prog 10 #[] w fun e w' => e = .returned (.bool true) ∧ Below w.heap.size w w' := by
  have oM := ((((Ob.new w #[.int .u16 1, .int .u8 1, .int .u8 0, .int .u16 1, .int .u8 1, .int .u8 0, .int .u16 1, .int .u8 1, .int .u8 0] 39).alloc (.cells #[.slice (some ⟨w.heap.size, 0, none⟩) 3 3] 23)).alloc (.cells #[.int .u16 0, .int .u32 0, .int .u64 0, .int .u16 0, .int .u32 0, .int .u64 0, .int .u16 1, .int .u32 5, .int .u64 0] 44)).alloc (.cells #[.slice (some ⟨w.heap.size + 1 + 1, 0, none⟩) 3 3] 24))
  have oPM := (((Ob.new (w.alloc (.cells #[.int .u16 1, .int .u8 1, .int .u8 0, .int .u16 1, .int .u8 1, .int .u8 0, .int .u16 1, .int .u8 1, .int .u8 0] 39)) #[.slice (some ⟨w.heap.size, 0, none⟩) 3 3] 23).alloc (.cells #[.int .u16 0, .int .u32 0, .int .u64 0, .int .u16 0, .int .u32 0, .int .u64 0, .int .u16 1, .int .u32 5, .int .u64 0] 44)).alloc (.cells #[.slice (some ⟨w.heap.size + 1 + 1, 0, none⟩) 3 3] 24))
  simp only [World.size_alloc] at oPM
  have oR := ((Ob.new ((w.alloc (.cells #[.int .u16 1, .int .u8 1, .int .u8 0, .int .u16 1, .int .u8 1, .int .u8 0, .int .u16 1, .int .u8 1, .int .u8 0] 39)).alloc (.cells #[.slice (some ⟨w.heap.size, 0, none⟩) 3 3] 23)) #[.int .u16 0, .int .u32 0, .int .u64 0, .int .u16 0, .int .u32 0, .int .u64 0, .int .u16 1, .int .u32 5, .int .u64 0] 44).alloc (.cells #[.slice (some ⟨w.heap.size + 1 + 1, 0, none⟩) 3 3] 24))
  simp only [World.size_alloc] at oR
  have oPR := (Ob.new (((w.alloc (.cells #[.int .u16 1, .int .u8 1, .int .u8 0, .int .u16 1, .int .u8 1, .int .u8 0, .int .u16 1, .int .u8 1, .int .u8 0] 39)).alloc (.cells #[.slice (some ⟨w.heap.size, 0, none⟩) 3 3] 23)).alloc (.cells #[.int .u16 0, .int .u32 0, .int .u64 0, .int .u16 0, .int .u32 0, .int .u64 0, .int .u16 1, .int .u32 5, .int .u64 0] 44)) #[.slice (some ⟨w.heap.size + 1 + 1, 0, none⟩) 3 3] 24)
  simp only [World.size_alloc] at oPR
  have b0 := (Gw.al (Gw.al (Gw.al (Gw.al (Below.refl w.heap.size w) (.cells #[.int .u16 1, .int .u8 1, .int .u8 0, .int .u16 1, .int .u8 1, .int .u8 0, .int .u16 1, .int .u8 1, .int .u8 0] 39)) (.cells #[.slice (some ⟨w.heap.size, 0, none⟩) 3 3] 23)) (.cells #[.int .u16 0, .int .u32 0, .int .u64 0, .int .u16 0, .int .u32 0, .int .u64 0, .int .u16 1, .int .u32 5, .int .u64 0] 44)) (.cells #[.slice (some ⟨w.heap.size + 1 + 1, 0, none⟩) 3 3] 24))
  go_enter Try.func10, Try.ntmps10
  go_wp2_with fail
  refine (new19_any _).mono ?_
  rintro e w1 ⟨A1, c1, rfl, r1, hb⟩
  replace b0 := Gw.call b0 hb
  replace oM := oM.call hb
  replace oPM := oPM.call hb
  replace oR := oR.call hb
  replace oPR := oPR.call hb
  clear hb
  go_wp2_with fail
  refine ((show stableB T1 [⟨1, 1, 0⟩, ⟨1, 1, 0⟩, ⟨1, 1, 0⟩] 0 rowsA ⟨2, 1, 4⟩ = false by rw [stab3]; rfl) ▸ is19_any T1 [⟨1, 1, 0⟩, ⟨1, 1, 0⟩, ⟨1, 1, 0⟩] A1 _ _ c1 3 3 3 (w.heap.size + 1) (w.heap.size + 1 + 1 + 1) 4 _ rfl rfl r1 (oM.rd memc_len rfl) (oR.rd rowc_len rfl) (by omega) (oPM.blk.2.1 0 _ rfl) (oPR.blk.2.1 0 _ rfl)).mono ?_
  rintro e w1 ⟨rfl, hb⟩
  replace b0 := Gw.call b0 hb
  replace oM := oM.call hb
  replace oPM := oPM.call hb
  replace oR := oR.call hb
  replace oPR := oPR.call hb
  replace r1 := r1.up hb
  clear hb
  go_wp2_with fail
  refine (mark19_any 1 4 _).mono ?_
  rintro e w1 ⟨AM, rfl, rm, hb⟩
  replace b0 := Gw.call b0 hb
  replace oM := oM.call hb
  replace oPM := oPM.call hb
  replace oR := oR.call hb
  replace oPR := oPR.call hb
  replace r1 := r1.up hb
  clear hb
  have hlt := oM.lt
  go_wp2_with fail
  refine (rep19_any T1 A1 c1 1 ⟨2, 1, 4⟩ AM 1 _ (by decide) (by decide) (by omega) r1 rm ⟨by simp, by simp, by simp⟩).mono ?_
  rintro e w1 ⟨A2, c2, rfl, x9, hb⟩
  replace b0 := Gw.call b0 hb
  replace oM := oM.call hb
  replace oPM := oPM.call hb
  replace oR := oR.call hb
  replace oPR := oPR.call hb
  replace r1 := r1.up hb
  clear hb
  have r2 := x9.rd
  clear rm x9 hlt
  go_wp2_with fail
  refine (mark19_any 1 9 _).mono ?_
  rintro e w1 ⟨AM, rfl, rm, hb⟩
  replace b0 := Gw.call b0 hb
  replace oM := oM.call hb
  replace oPM := oPM.call hb
  replace oR := oR.call hb
  replace oPR := oPR.call hb
  replace r1 := r1.up hb
  replace r2 := r2.up hb
  clear hb
  have hlt := oM.lt
  go_wp2_with fail
  refine (rep19_any T2 A2 c2 2 ⟨2, 1, 9⟩ AM 1 _ (by decide) (by decide) (by omega) r2 rm ⟨by simp, by simp, by simp⟩).mono ?_
  rintro e w1 ⟨A3, c3, rfl, x9, hb⟩
  replace b0 := Gw.call b0 hb
  replace oM := oM.call hb
  replace oPM := oPM.call hb
  replace oR := oR.call hb
  replace oPR := oPR.call hb
  replace r1 := r1.up hb
  replace r2 := r2.up hb
  clear hb
  have x3 := x9.base_le (B := w.heap.size + 1) hlt
  have r3 := x9.rd
  clear rm x9 hlt
  clear r1 r2
  go_wp2_with fail
  refine ((show stableB T3 [⟨1, 1, 0⟩, ⟨1, 1, 0⟩, ⟨1, 1, 0⟩] 0 rowsA ⟨2, 1, 4⟩ = true by rw [stab3]; rfl) ▸ is19_any T3 [⟨1, 1, 0⟩, ⟨1, 1, 0⟩, ⟨1, 1, 0⟩] A3 _ _ c3 3 3 3 (w.heap.size + 1) (w.heap.size + 1 + 1 + 1) 4 _ rfl rfl r3 (oM.rd memc_len rfl) (oR.rd rowc_len rfl) (by omega) (oPM.blk.2.1 0 _ rfl) (oPR.blk.2.1 0 _ rfl)).mono ?_
  rintro e w1 ⟨rfl, hb⟩
  replace b0 := Gw.call b0 hb
  replace oM := oM.call hb
  replace oPM := oPM.call hb
  replace oR := oR.call hb
  replace oPR := oPR.call hb
  replace r3 := r3.up hb
  replace x3 := x3.keep hb
  clear hb
  go_wp2_with fail
  refine ((show stableB T3 [⟨1, 1, 0⟩, ⟨1, 1, 0⟩, ⟨1, 1, 0⟩] 0 rowsA ⟨2, 1, 5⟩ = false by rw [stab3]; rfl) ▸ is19_any T3 [⟨1, 1, 0⟩, ⟨1, 1, 0⟩, ⟨1, 1, 0⟩] A3 _ _ c3 3 3 3 (w.heap.size + 1) (w.heap.size + 1 + 1 + 1) 5 _ rfl rfl r3 (oM.rd memc_len rfl) (oR.rd rowc_len rfl) (by omega) (oPM.blk.2.1 0 _ rfl) (oPR.blk.2.1 0 _ rfl)).mono ?_
  rintro e w1 ⟨rfl, hb⟩
  replace b0 := Gw.call b0 hb
  replace oM := oM.call hb
  replace oPM := oPM.call hb
  replace oR := oR.call hb
  replace oPR := oPR.call hb
  replace r3 := r3.up hb
  replace x3 := x3.keep hb
  clear hb
  go_wp2_with fail
  refine (mark19_any 1 3 _).mono ?_
  rintro e w1 ⟨AM, rfl, rm, hb⟩
  replace b0 := Gw.call b0 hb
  replace oM := oM.call hb
  replace oPM := oPM.call hb
  replace oR := oR.call hb
  replace oPR := oPR.call hb
  replace r3 := r3.up hb
  replace x3 := x3.keep hb
  clear hb
  have hlt := oM.lt
  go_wp2_with fail
  refine (rep19_any T3 A3 c3 1 ⟨2, 1, 3⟩ AM 1 _ (by decide) (by decide) (by omega) r3 rm ⟨by simp, by simp, by simp⟩).mono ?_
  rintro e w1 ⟨A4, c4, rfl, x9, hb⟩
  replace b0 := Gw.call b0 hb
  replace oM := oM.call hb
  replace oPM := oPM.call hb
  replace oR := oR.call hb
  replace oPR := oPR.call hb
  replace r3 := r3.up hb
  replace x3 := x3.keep hb
  clear hb
  have r4 := x9.rd
  clear rm x9 hlt
  go_wp2_with fail
  refine ((show decide (T4 = T3) = true by rfl) ▸ same_any T4 T3 A4 A3 c4 c3 3 3 _ rfl rfl r4 r3 (by decide) (by decide) (by omega) (by omega)).mono ?_
  rintro e w1 ⟨rfl, hb⟩
  replace b0 := Gw.call b0 hb
  replace oM := oM.call hb
  replace oPM := oPM.call hb
  replace oR := oR.call hb
  replace oPR := oPR.call hb
  replace r3 := r3.up hb
  replace r4 := r4.up hb
  replace x3 := x3.keep hb
  clear hb
  clear r4
  go_wp2_with fail
  refine (mark19_any 2 0 _).mono ?_
  rintro e w1 ⟨AM, rfl, rm, hb⟩
  replace b0 := Gw.call b0 hb
  replace oM := oM.call hb
  replace oPM := oPM.call hb
  replace oR := oR.call hb
  replace oPR := oPR.call hb
  replace r3 := r3.up hb
  replace x3 := x3.keep hb
  clear hb
  have hlt := oM.lt
  go_wp2_with fail
  refine (rep19_any T3 A3 c3 1 ⟨2, 2, 0⟩ AM 1 _ (by decide) (by decide) (by omega) r3 rm ⟨by simp, by simp, by simp⟩).mono ?_
  rintro e w1 ⟨A5, c5, rfl, x9, hb⟩
  replace b0 := Gw.call b0 hb
  replace oM := oM.call hb
  replace oPM := oPM.call hb
  replace oR := oR.call hb
  replace oPR := oPR.call hb
  replace r3 := r3.up hb
  replace x3 := x3.keep hb
  clear hb
  have r5 := x9.rd
  clear rm x9 hlt
  go_wp2_with fail
  refine ((show stableB T5 [⟨1, 1, 0⟩, ⟨1, 1, 0⟩, ⟨1, 1, 0⟩] 0 rowsA ⟨2, 1, 5⟩ = true by rw [stab3]; rfl) ▸ is19_any T5 [⟨1, 1, 0⟩, ⟨1, 1, 0⟩, ⟨1, 1, 0⟩] A5 _ _ c5 3 3 3 (w.heap.size + 1) (w.heap.size + 1 + 1 + 1) 5 _ rfl rfl r5 (oM.rd memc_len rfl) (oR.rd rowc_len rfl) (by omega) (oPM.blk.2.1 0 _ rfl) (oPR.blk.2.1 0 _ rfl)).mono ?_
  rintro e w1 ⟨rfl, hb⟩
  replace b0 := Gw.call b0 hb
  replace oM := oM.call hb
  replace oPM := oPM.call hb
  replace oR := oR.call hb
  replace oPR := oPR.call hb
  replace r3 := r3.up hb
  replace r5 := r5.up hb
  replace x3 := x3.keep hb
  clear hb
  clear r5
  have k0 := oPM.blk.2.1 0 _ rfl
  have k1 := oM.blk.2.1 4 _ rfl
  have k2 := oM.blk.2.2
  go_wp2_with fail
  have oM2 : Ob (w1.setCell ⟨w.heap.size, 4, none⟩ (.int .u8 3)) w.heap.size #[.int .u16 1, .int .u8 1, .int .u8 0, .int .u16 1, .int .u8 3, .int .u8 0, .int .u16 1, .int .u8 1, .int .u8 0] 39 := oM.set 4 (.int .u8 3)
  replace oPM := oPM.far (p := w.heap.size) (j := 4) (by omega) (.int .u8 3)
  replace oR := oR.far (p := w.heap.size) (j := 4) (by omega) (.int .u8 3)
  replace oPR := oPR.far (p := w.heap.size) (j := 4) (by omega) (.int .u8 3)
  replace x3 := x3.low (p := ⟨w.heap.size, 4, none⟩) (Nat.lt_succ_self _) (.int .u8 3)
  clear r3
  have r3 := x3.rd
  replace b0 := Gw.st b0 (p := ⟨w.heap.size, 4, none⟩) (Nat.le_refl _) (.int .u8 3)
  clear oM k0 k1 k2
  have oM := oM2
  clear oM2
  generalize w1.setCell ⟨w.heap.size, 4, none⟩ (.int .u8 3) = w2 at *
  refine ((show stableB T3 [⟨1, 1, 0⟩, ⟨1, 3, 0⟩, ⟨1, 1, 0⟩] 0 rowsA ⟨2, 1, 5⟩ = true by rw [stab3]; rfl) ▸ is19_any T3 [⟨1, 1, 0⟩, ⟨1, 3, 0⟩, ⟨1, 1, 0⟩] A3 _ _ c3 3 3 3 (w.heap.size + 1) (w.heap.size + 1 + 1 + 1) 5 _ rfl rfl r3 (oM.rd memc_len rfl) (oR.rd rowc_len rfl) (by omega) (oPM.blk.2.1 0 _ rfl) (oPR.blk.2.1 0 _ rfl)).mono ?_
  rintro e w1 ⟨rfl, hb⟩
  replace b0 := Gw.call b0 hb
  replace oM := oM.call hb
  replace oPM := oPM.call hb
  replace oR := oR.call hb
  replace oPR := oPR.call hb
  replace r3 := r3.up hb
  replace x3 := x3.keep hb
  clear hb
  go_wp2_with fail
  refine ((show stableB T3 [⟨1, 1, 0⟩, ⟨1, 3, 0⟩, ⟨1, 1, 0⟩] 0 rowsA ⟨2, 1, 6⟩ = false by rw [stab3]; rfl) ▸ is19_any T3 [⟨1, 1, 0⟩, ⟨1, 3, 0⟩, ⟨1, 1, 0⟩] A3 _ _ c3 3 3 3 (w.heap.size + 1) (w.heap.size + 1 + 1 + 1) 6 _ rfl rfl r3 (oM.rd memc_len rfl) (oR.rd rowc_len rfl) (by omega) (oPM.blk.2.1 0 _ rfl) (oPR.blk.2.1 0 _ rfl)).mono ?_
  rintro e w1 ⟨rfl, hb⟩
  replace b0 := Gw.call b0 hb
  replace oM := oM.call hb
  replace oPM := oPM.call hb
  replace oR := oR.call hb
  replace oPR := oPR.call hb
  replace r3 := r3.up hb
  replace x3 := x3.keep hb
  clear hb
  go_wp2_with fail
  go_ret
  exact ⟨rfl, b0⟩
end Go.Proofs.Ytcclnfpegepcnaa
