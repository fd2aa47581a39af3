/-
  TapeNone: a tape without numbers, and one of one number (23).
-/
import Derived.Test.YtbdipaooekiofaaAwake23
namespace Go.Proofs.Ytbdipaooekiofaa
open Go.RowKit
set_option maxRecDepth 100000 in
set_option maxHeartbeats 4000000 in
theorem none_any (a x n m : Int) (w : World) (ha : -9223372036854775808 ≤ a ∧ a ≤ 9223372036854775807) (hx : 0 ≤ x ∧ x ≤ 4294967295) (hn : 0 ≤ n ∧ n ≤ 65535) (hm : 0 ≤ m ∧ m ≤ 255) :
    Calls Try.prog 7 #[.int .i64 a, .int .u32 x, .int .u16 n, .int .u8 m] w fun e w' => e = .returned (.bool true) ∧ Below w.heap.size w w' := by
  obtain ⟨Z, hZ⟩ : ∃ Z, n + 1 = Z := ⟨_, rfl⟩
  have hN1 : 1 ≤ Z := by omega
  have hN2 : Z ≤ 65536 := by omega
  obtain ⟨V, hV⟩ : ∃ V, x % Z = V := ⟨_, rfl⟩
  have hV1 : 0 ≤ V := by rw [← hV]; exact Int.emod_nonneg _ (by omega)
  have hV2 : V < 65536 := by rw [← hV]; have := Int.emod_lt_of_pos x (b := Z) (by omega); omega
  obtain ⟨r, hr⟩ : ∃ r : Nat, m % 101 = r := ⟨(m % 101).toNat, by omega⟩
  have hr1 : r ≤ 100 := by omega
  have HX : Hid (∀ z ∈ [x], 0 ≤ z ∧ z ≤ 4294967295) := Lib.hid (by simpa using hx)
  have bb := Gw.al (Gw.al (Gw.al (Below.refl w.heap.size w) (.cells #[.int .u32 x] 34)) (.cells #[.slice none 0 0, .int .i64 a] 24)) (.cells #[.slice (some ⟨w.heap.size, 0, none⟩) 1 1, .int .i64 a] 24)
  have S := ((Ob.new w #[.int .u32 x] 34).alloc (.cells #[.slice none 0 0, .int .i64 a] 24)).alloc (.cells #[.slice (some ⟨w.heap.size, 0, none⟩) 1 1, .int .i64 a] 24)
  have N0 := (Ob.new (w.alloc (.cells #[.int .u32 x] 34)) #[.slice none 0 0, .int .i64 a] 24).alloc (.cells #[.slice (some ⟨w.heap.size, 0, none⟩) 1 1, .int .i64 a] 24)
  have O0 := Ob.new ((w.alloc (.cells #[.int .u32 x] 34)).alloc (.cells #[.slice none 0 0, .int .i64 a] 24)) #[.slice (some ⟨w.heap.size, 0, none⟩) 1 1, .int .i64 a] 24
  simp only [World.size_alloc] at N0 O0
  go_enter Try.func7, Try.ntmps7
  go_wp2_with fail
  rw [hr]
  go_loopw [27] (fun i wr => ∃ k : Nat, k ≤ r ∧ i = .int .u8 k ∧ Below w.heap.size w wr ∧ ∃ An cn pn Ao co po, Ob wr (w.heap.size + 1) #[.slice An 0 cn, .int .i64 pn] 24 ∧ Ob wr (w.heap.size + 1 + 1) #[.slice Ao 1 co, .int .i64 po] 24 ∧ Rd (fun z : Int => [Value.int .u32 z]) 1 wr.heap.size wr Ao [x]) (fun i _ => r - (intOf i).toNat)
  case atStart => exact ⟨0, Nat.zero_le _, rfl, bb, none, 0, a, _, 1, a, N0, O0, Rd.litOb .u32 S [x] rfl⟩
  case round =>
    obtain ⟨k, hk, rfl, hw, An, cn, pn, Ao, co, po, N, O, ro⟩ := hrel
    by_cases hlt : k < r
    · have NV : Hid (drawnV [] pn Z = 0) := Lib.hid (by unfold drawnV; split <;> simp [val])
      have NP : Hid (drawnP [] pn Z = 0) := Lib.hid (by unfold drawnP; split; unfold plc; simp; omega; simp [pos])
      have OV : Hid (drawnV [x] po Z = V) := Lib.hid (by unfold drawnV; rw [if_neg (by omega)]; simp [val, pos, Nat.mod_one, hV])
      have OP : Hid (drawnP [x] po Z = 0) := Lib.hid (by unfold drawnP; rw [if_neg (by omega)]; simp [pos, Nat.mod_one])
      skip
      have c0N := N.blk.2.1 0 _ rfl
      have c1N := N.blk.2.1 1 _ rfl
      have lN := N.lt
      have c0O := O.blk.2.1 0 _ rfl
      have c1O := O.blk.2.1 1 _ rfl
      have lO := O.lt
      go_wp2_with fail
      clear c0N c1N lN c0O c1O lO
      have bb := hw
      refine (draw_any [] An cn pn Z _ Rd.nil_ (by simp) (by simp) (by omega)).mono ?_
      rintro e w1 ⟨A1, k1, rfl, -, hb⟩
      have b1 := Gw.call bb hb
      replace N := N.call hb
      replace O := O.call hb
      replace ro := Rd.up ro hb
      clear hb bb
      rw [NV.out, NP.out]
      have z1 := O.lt
      have c0N := N.blk.2.1 0 _ rfl
      have c1N := N.blk.2.1 1 _ rfl
      have lN := N.lt
      have c0O := O.blk.2.1 0 _ rfl
      have c1O := O.blk.2.1 1 _ rfl
      have lO := O.lt
      go_wp2_with fail
      clear c0N c1N lN c0O c1O lO
      replace N := (N.alloc (.cells #[.slice A1 0 k1, .int .i64 0] 24))
      replace O := (O.alloc (.cells #[.slice A1 0 k1, .int .i64 0] 24))
      replace ro := (Rd.allocS ro (.cells #[.slice A1 0 k1, .int .i64 0] 24))
      have X1 := (Ob.new w1 #[.slice A1 0 k1, .int .i64 0] 24)
      have bb := (Gw.al b1 (.cells #[.slice A1 0 k1, .int .i64 0] 24))
      refine (draw_any [x] Ao co po Z _ ro (by simp) HX.out (by omega)).mono ?_
      rintro e w2 ⟨A2, k2, rfl, o2, hb⟩
      have b2 := Gw.call bb hb
      replace N := N.call hb
      replace O := O.call hb
      replace X1 := X1.call hb
      clear ro
      clear hb bb b1
      rw [OV.out, OP.out]
      have z2 := O.lt
      have c0N := N.blk.2.1 0 _ rfl
      have c1N := N.blk.2.1 1 _ rfl
      have lN := N.lt
      have c0O := O.blk.2.1 0 _ rfl
      have c1O := O.blk.2.1 1 _ rfl
      have lO := O.lt
      have c0X1 := X1.blk.2.1 0 _ rfl
      have c1X1 := X1.blk.2.1 1 _ rfl
      have lX1 := X1.lt
      go_wp2_with fail
      clear c0N c1N lN c0O c1O lO c0X1 c1X1 lX1
      replace N := ((N.alloc (.cells #[.slice A2 1 k2, .int .i64 0] 24)).alloc (.cells #[.int .u32 x] 34))
      replace O := ((O.alloc (.cells #[.slice A2 1 k2, .int .i64 0] 24)).alloc (.cells #[.int .u32 x] 34))
      replace X1 := ((X1.alloc (.cells #[.slice A2 1 k2, .int .i64 0] 24)).alloc (.cells #[.int .u32 x] 34))
      replace o2 := ((o2.alloc (.cells #[.slice A2 1 k2, .int .i64 0] 24)).alloc (.cells #[.int .u32 x] 34))
      have X2 := ((Ob.new w2 #[.slice A2 1 k2, .int .i64 0] 24).alloc (.cells #[.int .u32 x] 34))
      have L2 := (Ob.new (w2.alloc (.cells #[.slice A2 1 k2, .int .i64 0] 24)) #[.int .u32 x] 34)
      simp only [World.size_alloc] at L2
      have bb := (Gw.al (Gw.al b2 (.cells #[.slice A2 1 k2, .int .i64 0] 24)) (.cells #[.int .u32 x] 34))
      refine (nums_any [x] [x] A2 _ 1 1 k2 1 _ (o2.rd (int_len .u32)) (Rd.litOb .u32 L2 [x] rfl) rfl rfl (by simp) (by simp)).mono ?_
      rintro e w3 ⟨rfl, hb⟩
      have b3 := Gw.call bb hb
      replace N := N.call hb
      replace O := O.call hb
      replace X1 := X1.call hb
      replace X2 := X2.call hb
      clear L2
      replace o2 := Own.below o2 hb
      clear hb bb b2
      rw [decide_eq_true rfl]
      have c0N := N.blk.2.1 0 _ rfl
      have c1N := N.blk.2.1 1 _ rfl
      have lN := N.lt
      have c0O := O.blk.2.1 0 _ rfl
      have c1O := O.blk.2.1 1 _ rfl
      have lO := O.lt
      have c0X1 := X1.blk.2.1 0 _ rfl
      have c1X1 := X1.blk.2.1 1 _ rfl
      have lX1 := X1.lt
      have c0X2 := X2.blk.2.1 0 _ rfl
      have c1X2 := X2.blk.2.1 1 _ rfl
      have lX2 := X2.lt
      go_wp2_with fail
      have y1 : ¬ w.heap.size + 1 = w1.heap.size := by omega
      have y2 : ¬ w.heap.size + 1 = w2.heap.size := by omega
      have y3 : ¬ w.heap.size + 1 + 1 = w1.heap.size := by omega
      have y4 : ¬ w.heap.size + 1 + 1 = w2.heap.size := by omega
      have y5 : ¬ w1.heap.size = w.heap.size + 1 := by omega
      have y6 : ¬ w2.heap.size = w.heap.size + 1 := by omega
      have y7 : ¬ w1.heap.size = w.heap.size + 1 + 1 := by omega
      have y8 : ¬ w2.heap.size = w.heap.size + 1 + 1 := by omega
      have fN := N.blk.2.2
      have fO := O.blk.2.2
      go_region
      go_wp2
      go_roundw
      case rel =>
        have lo : ∀ j, (Value.slice A2 1 k2).ownBlock = some j → w.heap.size + 1 + 1 < j := fun j hj => by have := Own.lt o2 j hj; simp only [World.size_alloc] at this; omega
        exact ⟨k + 1, by omega, by go_num, ((Gw.st (Gw.st (Gw.st (Gw.st b3 (p := ⟨(w.heap.size + 1), 0, none⟩) (by show w.heap.size ≤ (w.heap.size + 1); omega) (Value.slice A1 0 k1)) (p := ⟨(w.heap.size + 1), 1, none⟩) (by show w.heap.size ≤ (w.heap.size + 1); omega) (.int .i64 0)) (p := ⟨(w.heap.size + 1 + 1), 0, none⟩) (by show w.heap.size ≤ (w.heap.size + 1 + 1); omega) (Value.slice A2 1 k2)) (p := ⟨(w.heap.size + 1 + 1), 1, none⟩) (by show w.heap.size ≤ (w.heap.size + 1 + 1); omega) (.int .i64 0))).drew, A1, k1, 0, A2, k2, 0, (((((N.set 0 (Value.slice A1 0 k1)).set 1 (.int .i64 0)).far (p := (w.heap.size + 1 + 1)) (j := 0) (by omega) (Value.slice A2 1 k2)).far (p := (w.heap.size + 1 + 1)) (j := 1) (by omega) (.int .i64 0))).drew, (((((O.far (p := (w.heap.size + 1)) (j := 0) (by omega) (Value.slice A1 0 k1)).far (p := (w.heap.size + 1)) (j := 1) (by omega) (.int .i64 0)).set 0 (Value.slice A2 1 k2)).set 1 (.int .i64 0))).drew, Own.rd (int_len .u32) ((Own.far (p := ⟨(w.heap.size + 1 + 1), 1, none⟩) (Own.far (p := ⟨(w.heap.size + 1 + 1), 0, none⟩) (Own.far (p := ⟨(w.heap.size + 1), 1, none⟩) (Own.far (p := ⟨(w.heap.size + 1), 0, none⟩) o2 (fun j hj => by have := lo j hj; show j ≠ (w.heap.size + 1); omega) (Value.slice A1 0 k1)) (fun j hj => by have := lo j hj; show j ≠ (w.heap.size + 1); omega) (.int .i64 0)) (fun j hj => by have := lo j hj; show j ≠ (w.heap.size + 1 + 1); omega) (Value.slice A2 1 k2)) (fun j hj => by have := lo j hj; show j ≠ (w.heap.size + 1 + 1); omega) (.int .i64 0))).drew⟩
      case measure => simp [intOf]; omega
    · obtain rfl : k = r := by omega
      go_wp2_with fail
      refine (awake_any _).mono ?_
      rintro e w5 ⟨rfl, hb⟩
      have b5 := Gw.call hw hb
      clear hb
      go_wp2_with fail
      go_ret
      exact ⟨rfl, b5⟩
end Go.Proofs.Ytbdipaooekiofaa
