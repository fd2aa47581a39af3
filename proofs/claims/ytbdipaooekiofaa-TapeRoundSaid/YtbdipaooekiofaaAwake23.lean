/-
  The chapter's examples hold (23); the contracts of Draw and Some for every number.
-/
import Derived.Test.YtbdipaooekiofaaSome
import Derived.Test.YtbdipaooekiofaaNums
namespace Go.Proofs.Ytbdipaooekiofaa
open Go.RowKit

def drawnV (l : List Int) (p n : Int) : Int := if n < 1 then 0 else val l (plc l p) 0 % n
def drawnP (l : List Int) (p n : Int) : Nat := if n < 1 then plc l p else pos l (plc l p) 1
def cnt (n : Int) : Nat := (min n 1000).toNat
theorem draw_any (l : List Int) (A : Option Addr) (cap : Nat) (p n : Int) (w : World) (hr : Rd (fun z : Int => [Value.int .u32 z]) 1 w.heap.size w A l) (hlen : l.length ≤ 1000000) (hl : ∀ x ∈ l, 0 ≤ x ∧ x ≤ 4294967295) (hn2 : n ≤ 9223372036854775807) :
    Calls Try.prog 9 #[.agg #[.slice A l.length cap, .int .i64 p], .int .i64 n] w (Told l w (fun t => .tuple #[.int .i64 (drawnV l p n), t]) (drawnP l p n)) := by
  unfold drawnV drawnP
  by_cases h : n < 1
  · rw [if_pos h, if_pos h]; exact draw_no l A cap p n w hr hlen h
  · rw [if_neg h, if_neg h]; exact draw_yes l A cap p n w hr hlen hl (by omega) hn2
theorem plc_ok (l : List Int) (p : Int) : plc l p < l.length ∨ plc l p = 0 := by
  rcases Nat.eq_zero_or_pos l.length with h0 | h0
  · right; unfold plc; split <;> omega
  · exact .inl (plc_lt l p h0)
theorem some_any (l : List Int) (A : Option Addr) (cap : Nat) (p n : Int) (w : World) (hr : Rd (fun z : Int => [Value.int .u32 z]) 1 w.heap.size w A l) (hlen : l.length ≤ 1000000) (hl : ∀ x ∈ l, 0 ≤ x ∧ x ≤ 4294967295) (hn2 : n ≤ 9223372036854775807) (hn3 : -9223372036854775808 ≤ n) :
    Calls Try.prog 11 #[.agg #[.slice A l.length cap, .int .i64 p], .int .i64 n] w (Drew l (vals l (plc l p) (cnt n)) w (pos l (plc l p) (cnt n))) := by
  by_cases h : n < 1
  · have : cnt n = 0 := by unfold cnt; omega
    rw [this, pos_start (plc_ok l p)]
    exact some_no l A cap p n w hr hlen h hn3
  · exact some_yes l A cap p n (cnt n) w hr hlen hl (by unfold cnt; split <;> omega) (by unfold cnt; omega) hn2
theorem Rd.litOb (k : IntKind) {W : World} {g : Nat} {cs : Array Value} {T : TypeId} (h : Ob W g cs T) (l : List Int) (hl : cs.toList = l.map (Value.int k)) : Rd (fun z : Int => [Value.int k z]) 1 W.heap.size W (some ⟨g, 0, none⟩) l := fun _ =>
  ⟨g, 0, rfl, h.lt, fun j x hx i c hi => by
    cases i with
    | zero =>
      simp at hi; subst hi
      have := h.blk.2.1 j (.int k x) (by rw [hl]; simp [hx])
      simpa using this
    | succ i => simp at hi⟩
set_option maxRecDepth 100000 in
set_option maxHeartbeats 4000000 in
theorem awake_any (w : World) : Calls Try.prog 8 #[] w fun e w' => e = .returned (.bool true) ∧ Below w.heap.size w w' := by
  go_enter Try.func8, Try.ntmps8
  go_wp2_with fail
  have S := ((Ob.new w #[.int .u32 5, .int .u32 7, .int .u32 9] 34).alloc (.cells #[.slice (some ⟨w.heap.size, 0, none⟩) 3 3, .int .i64 0] 24))
  have T := (Ob.new (w.alloc (.cells #[.int .u32 5, .int .u32 7, .int .u32 9] 34)) #[.slice (some ⟨w.heap.size, 0, none⟩) 3 3, .int .i64 0] 24)
  simp only [World.size_alloc] at T
  have bb := (Gw.al (Gw.al (Below.refl w.heap.size w) (.cells #[.int .u32 5, .int .u32 7, .int .u32 9] 34)) (.cells #[.slice (some ⟨w.heap.size, 0, none⟩) 3 3, .int .i64 0] 24))
  refine (draw_any [5, 7, 9] _ 3 0 4 _ (Rd.litOb .u32 S [5, 7, 9] rfl) (by simp) (by simp) (by omega)).mono ?_
  rintro e w1 ⟨A1, k1, rfl, o1, hb⟩
  have b1 := Gw.call bb hb
  replace S := S.call hb
  replace T := T.call hb
  clear hb bb
  rw [show drawnV [5, 7, 9] 0 4 = 1 by decide, show drawnP [5, 7, 9] 0 4 = 1 by decide]
  have c0S := S.blk.2.1 0 _ rfl
  have c1S := S.blk.2.1 1 _ rfl
  have c2S := S.blk.2.1 2 _ rfl
  have lS := S.lt
  have c0T := T.blk.2.1 0 _ rfl
  have c1T := T.blk.2.1 1 _ rfl
  have lT := T.lt
  go_wp2_with fail
  clear c0S c1S c2S lS c0T c1T lT
  replace S := (S.alloc (.cells #[.slice A1 3 k1, .int .i64 1] 24))
  replace T := (T.alloc (.cells #[.slice A1 3 k1, .int .i64 1] 24))
  replace o1 := (o1.alloc (.cells #[.slice A1 3 k1, .int .i64 1] 24))
  have X3 := (Ob.new w1 #[.slice A1 3 k1, .int .i64 1] 24)
  have bb := (Gw.al b1 (.cells #[.slice A1 3 k1, .int .i64 1] 24))
  refine (some_any [5, 7, 9] A1 k1 1 3 _ (o1.rd (int_len .u32)) (by simp) (by simp) (by omega) (by omega)).mono ?_
  rintro e w2 ⟨D2, d2, A2, k2, rfl, o2, -, -, hb⟩
  have b2 := Gw.call bb hb
  replace S := S.call hb
  replace T := T.call hb
  replace X3 := X3.call hb
  clear o1
  clear hb bb b1
  rw [show vals [5, 7, 9] (plc [5, 7, 9] 1) (cnt 3) = [7, 9, 5] by decide] at o2 ⊢
  rw [show pos [5, 7, 9] (plc [5, 7, 9] 1) (cnt 3) = 1 by decide]
  have c0S := S.blk.2.1 0 _ rfl
  have c1S := S.blk.2.1 1 _ rfl
  have c2S := S.blk.2.1 2 _ rfl
  have lS := S.lt
  have c0T := T.blk.2.1 0 _ rfl
  have c1T := T.blk.2.1 1 _ rfl
  have lT := T.lt
  have c0X3 := X3.blk.2.1 0 _ rfl
  have c1X3 := X3.blk.2.1 1 _ rfl
  have lX3 := X3.lt
  go_wp2_with fail
  clear c0S c1S c2S lS c0T c1T lT c0X3 c1X3 lX3
  replace S := (S.alloc (.cells #[.slice A2 3 k2, .int .i64 1] 24))
  replace T := (T.alloc (.cells #[.slice A2 3 k2, .int .i64 1] 24))
  replace X3 := (X3.alloc (.cells #[.slice A2 3 k2, .int .i64 1] 24))
  replace o2 := (o2.alloc (.cells #[.slice A2 3 k2, .int .i64 1] 24))
  have X5 := (Ob.new w2 #[.slice A2 3 k2, .int .i64 1] 24)
  have bb := (Gw.al b2 (.cells #[.slice A2 3 k2, .int .i64 1] 24))
  refine (draw_any [5, 7, 9] _ 3 7 4 _ (Rd.litOb .u32 S [5, 7, 9] rfl) (by simp) (by simp) (by omega)).mono ?_
  rintro e w3 ⟨A3, k3, rfl, -, hb⟩
  have b3 := Gw.call bb hb
  replace S := S.call hb
  replace T := T.call hb
  replace X3 := X3.call hb
  replace X5 := X5.call hb
  replace o2 := Own.below o2 hb
  clear hb bb b2
  rw [show drawnV [5, 7, 9] 7 4 = 1 by decide, show drawnP [5, 7, 9] 7 4 = 1 by decide]
  have c0S := S.blk.2.1 0 _ rfl
  have c1S := S.blk.2.1 1 _ rfl
  have c2S := S.blk.2.1 2 _ rfl
  have lS := S.lt
  have c0T := T.blk.2.1 0 _ rfl
  have c1T := T.blk.2.1 1 _ rfl
  have lT := T.lt
  have c0X3 := X3.blk.2.1 0 _ rfl
  have c1X3 := X3.blk.2.1 1 _ rfl
  have lX3 := X3.lt
  have c0X5 := X5.blk.2.1 0 _ rfl
  have c1X5 := X5.blk.2.1 1 _ rfl
  have lX5 := X5.lt
  go_wp2_with fail
  clear c0S c1S c2S lS c0T c1T lT c0X3 c1X3 lX3 c0X5 c1X5 lX5
  replace S := (S.alloc (.cells #[.slice A3 3 k3, .int .i64 1] 24))
  replace T := (T.alloc (.cells #[.slice A3 3 k3, .int .i64 1] 24))
  replace X3 := (X3.alloc (.cells #[.slice A3 3 k3, .int .i64 1] 24))
  replace X5 := (X5.alloc (.cells #[.slice A3 3 k3, .int .i64 1] 24))
  replace o2 := (o2.alloc (.cells #[.slice A3 3 k3, .int .i64 1] 24))
  have X7 := (Ob.new w3 #[.slice A3 3 k3, .int .i64 1] 24)
  have bb := (Gw.al b3 (.cells #[.slice A3 3 k3, .int .i64 1] 24))
  refine (draw_any [5, 7, 9] _ 3 0 0 _ (Rd.litOb .u32 S [5, 7, 9] rfl) (by simp) (by simp) (by omega)).mono ?_
  rintro e w4 ⟨A4, k4, rfl, -, hb⟩
  have b4 := Gw.call bb hb
  clear S
  replace T := T.call hb
  replace X3 := X3.call hb
  replace X5 := X5.call hb
  replace X7 := X7.call hb
  replace o2 := Own.below o2 hb
  clear hb bb b3
  rw [show drawnV [5, 7, 9] 0 0 = 0 by decide, show drawnP [5, 7, 9] 0 0 = 0 by decide]
  have c0T := T.blk.2.1 0 _ rfl
  have c1T := T.blk.2.1 1 _ rfl
  have lT := T.lt
  have c0X3 := X3.blk.2.1 0 _ rfl
  have c1X3 := X3.blk.2.1 1 _ rfl
  have lX3 := X3.lt
  have c0X5 := X5.blk.2.1 0 _ rfl
  have c1X5 := X5.blk.2.1 1 _ rfl
  have lX5 := X5.lt
  have c0X7 := X7.blk.2.1 0 _ rfl
  have c1X7 := X7.blk.2.1 1 _ rfl
  have lX7 := X7.lt
  go_wp2_with fail
  clear c0T c1T lT c0X3 c1X3 lX3 c0X5 c1X5 lX5 c0X7 c1X7 lX7
  replace T := (T.alloc (.cells #[.slice A4 3 k4, .int .i64 0] 24))
  replace X3 := (X3.alloc (.cells #[.slice A4 3 k4, .int .i64 0] 24))
  replace X5 := (X5.alloc (.cells #[.slice A4 3 k4, .int .i64 0] 24))
  replace X7 := (X7.alloc (.cells #[.slice A4 3 k4, .int .i64 0] 24))
  replace o2 := (o2.alloc (.cells #[.slice A4 3 k4, .int .i64 0] 24))
  have X9 := (Ob.new w4 #[.slice A4 3 k4, .int .i64 0] 24)
  have bb := (Gw.al b4 (.cells #[.slice A4 3 k4, .int .i64 0] 24))
  refine (some_any [] none 0 3 2 _ Rd.nil_ (by simp) (by simp) (by omega) (by omega)).mono ?_
  rintro e w5 ⟨D5, d5, A5, k5, rfl, o5, -, -, hb⟩
  have b5 := Gw.call bb hb
  clear T
  replace X3 := X3.call hb
  replace X5 := X5.call hb
  replace X7 := X7.call hb
  replace X9 := X9.call hb
  replace o2 := Own.below o2 hb
  clear hb bb b4
  rw [show vals [] (plc [] 3) (cnt 2) = [0, 0] by decide] at o5 ⊢
  rw [show pos [] (plc [] 3) (cnt 2) = 0 by decide]
  have c0X3 := X3.blk.2.1 0 _ rfl
  have c1X3 := X3.blk.2.1 1 _ rfl
  have lX3 := X3.lt
  have c0X5 := X5.blk.2.1 0 _ rfl
  have c1X5 := X5.blk.2.1 1 _ rfl
  have lX5 := X5.lt
  have c0X7 := X7.blk.2.1 0 _ rfl
  have c1X7 := X7.blk.2.1 1 _ rfl
  have lX7 := X7.lt
  have c0X9 := X9.blk.2.1 0 _ rfl
  have c1X9 := X9.blk.2.1 1 _ rfl
  have lX9 := X9.lt
  go_wp2_with fail
  clear c0X3 c1X3 lX3 c0X5 c1X5 lX5 c0X7 c1X7 lX7 c0X9 c1X9 lX9
  replace X3 := ((X3.alloc (.cells #[.slice A5 0 k5, .int .i64 0] 24)).alloc (.cells #[.int .u32 7, .int .u32 9, .int .u32 5] 34))
  replace X5 := ((X5.alloc (.cells #[.slice A5 0 k5, .int .i64 0] 24)).alloc (.cells #[.int .u32 7, .int .u32 9, .int .u32 5] 34))
  replace X7 := ((X7.alloc (.cells #[.slice A5 0 k5, .int .i64 0] 24)).alloc (.cells #[.int .u32 7, .int .u32 9, .int .u32 5] 34))
  replace X9 := ((X9.alloc (.cells #[.slice A5 0 k5, .int .i64 0] 24)).alloc (.cells #[.int .u32 7, .int .u32 9, .int .u32 5] 34))
  replace o2 := ((o2.alloc (.cells #[.slice A5 0 k5, .int .i64 0] 24)).alloc (.cells #[.int .u32 7, .int .u32 9, .int .u32 5] 34))
  replace o5 := ((o5.alloc (.cells #[.slice A5 0 k5, .int .i64 0] 24)).alloc (.cells #[.int .u32 7, .int .u32 9, .int .u32 5] 34))
  have XB := ((Ob.new w5 #[.slice A5 0 k5, .int .i64 0] 24).alloc (.cells #[.int .u32 7, .int .u32 9, .int .u32 5] 34))
  have L1 := (Ob.new (w5.alloc (.cells #[.slice A5 0 k5, .int .i64 0] 24)) #[.int .u32 7, .int .u32 9, .int .u32 5] 34)
  simp only [World.size_alloc] at L1
  have bb := (Gw.al (Gw.al b5 (.cells #[.slice A5 0 k5, .int .i64 0] 24)) (.cells #[.int .u32 7, .int .u32 9, .int .u32 5] 34))
  refine (nums_any [7, 9, 5] [7, 9, 5] D2 _ 3 3 d2 3 _ (o2.rd (int_len .u32)) (Rd.litOb .u32 L1 [7, 9, 5] rfl) rfl rfl (by simp) (by simp)).mono ?_
  rintro e w6 ⟨rfl, hb⟩
  have b6 := Gw.call bb hb
  replace X3 := X3.call hb
  replace X5 := X5.call hb
  replace X7 := X7.call hb
  replace X9 := X9.call hb
  replace XB := XB.call hb
  clear L1
  clear o2
  replace o5 := Own.below o5 hb
  clear hb bb b5
  rw [decide_eq_true rfl]
  have c0X3 := X3.blk.2.1 0 _ rfl
  have c1X3 := X3.blk.2.1 1 _ rfl
  have lX3 := X3.lt
  have c0X5 := X5.blk.2.1 0 _ rfl
  have c1X5 := X5.blk.2.1 1 _ rfl
  have lX5 := X5.lt
  have c0X7 := X7.blk.2.1 0 _ rfl
  have c1X7 := X7.blk.2.1 1 _ rfl
  have lX7 := X7.lt
  have c0X9 := X9.blk.2.1 0 _ rfl
  have c1X9 := X9.blk.2.1 1 _ rfl
  have lX9 := X9.lt
  have c0XB := XB.blk.2.1 0 _ rfl
  have c1XB := XB.blk.2.1 1 _ rfl
  have lXB := XB.lt
  go_wp2_with fail
  clear c0X3 c1X3 lX3 c0X5 c1X5 lX5 c0X7 c1X7 lX7 c0X9 c1X9 lX9 c0XB c1XB lXB
  replace X3 := (X3.alloc (.cells #[.int .u32 0, .int .u32 0] 34))
  replace X5 := (X5.alloc (.cells #[.int .u32 0, .int .u32 0] 34))
  replace X7 := (X7.alloc (.cells #[.int .u32 0, .int .u32 0] 34))
  replace X9 := (X9.alloc (.cells #[.int .u32 0, .int .u32 0] 34))
  replace XB := (XB.alloc (.cells #[.int .u32 0, .int .u32 0] 34))
  replace o5 := (o5.alloc (.cells #[.int .u32 0, .int .u32 0] 34))
  have L2 := (Ob.new w6 #[.int .u32 0, .int .u32 0] 34)
  have bb := (Gw.al b6 (.cells #[.int .u32 0, .int .u32 0] 34))
  refine (nums_any [0, 0] [0, 0] D5 _ 2 2 d5 2 _ (o5.rd (int_len .u32)) (Rd.litOb .u32 L2 [0, 0] rfl) rfl rfl (by simp) (by simp)).mono ?_
  rintro e w7 ⟨rfl, hb⟩
  have b7 := Gw.call bb hb
  replace X3 := X3.call hb
  replace X5 := X5.call hb
  replace X7 := X7.call hb
  replace X9 := X9.call hb
  replace XB := XB.call hb
  clear L2
  clear o5
  clear hb bb b6
  rw [decide_eq_true rfl]
  have c0X3 := X3.blk.2.1 0 _ rfl
  have c1X3 := X3.blk.2.1 1 _ rfl
  have lX3 := X3.lt
  have c0X5 := X5.blk.2.1 0 _ rfl
  have c1X5 := X5.blk.2.1 1 _ rfl
  have lX5 := X5.lt
  have c0X7 := X7.blk.2.1 0 _ rfl
  have c1X7 := X7.blk.2.1 1 _ rfl
  have lX7 := X7.lt
  have c0X9 := X9.blk.2.1 0 _ rfl
  have c1X9 := X9.blk.2.1 1 _ rfl
  have lX9 := X9.lt
  have c0XB := XB.blk.2.1 0 _ rfl
  have c1XB := XB.blk.2.1 1 _ rfl
  have lXB := XB.lt
  go_wp2_with fail
  go_ret
  exact ⟨rfl, b7⟩
end Go.Proofs.Ytbdipaooekiofaa
