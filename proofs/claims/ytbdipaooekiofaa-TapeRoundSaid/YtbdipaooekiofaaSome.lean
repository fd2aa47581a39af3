/-
  tape.Some.
-/
import Derived.Test.YtbdipaooekiofaaDraw
import Derived.Test.YtbdipaooekiofaaAppIn
namespace Go.Proofs.Ytbdipaooekiofaa
open Go.RowKit Go.Shelf
attribute [local go_sem] Oper.semAt_some

theorem Try.infoU32s : (Try.prog.info? 34).map (fun i => (i.zero, i.size, i.bytes)) = some (some (.int .u32 0), 1, 4) := by kernel_rfl
def vals (l : List Int) (q k : Nat) : List Int := (List.range k).map (val l q)
theorem vals_len (l : List Int) (q k : Nat) : (vals l q k).length = k := by simp [vals]
theorem vals_snoc (l : List Int) (q k : Nat) : vals l q (k + 1) = vals l q k ++ [val l q k] := by simp [vals, List.range_succ]
/-- what a call of Some leaves -/
def Drew (l r : List Int) (w : World) (p : Int) (e : Ending) (w' : World) : Prop :=
  ∃ D d A c, e = .returned (.tuple #[.slice D r.length d, .agg #[.slice A l.length c, .int .i64 p]]) ∧ Own (fun z : Int => [Value.int .u32 z]) 1 34 w.heap.size w' (.slice D r.length d) r ∧ Own (fun z : Int => [Value.int .u32 z]) 1 34 w.heap.size w' (.slice A l.length c) l ∧ Apart (.slice D r.length d) (.slice A l.length c) ∧ Below w.heap.size w w'
set_option maxRecDepth 100000 in
set_option maxHeartbeats 4000000 in
theorem some_no (l : List Int) (A : Option Addr) (cap : Nat) (p n : Int) (w : World) (hr : Rd (fun z : Int => [Value.int .u32 z]) 1 w.heap.size w A l) (hlen : l.length ≤ 1000000) (hn : n < 1) (hn2 : -9223372036854775808 ≤ n) :
    Calls Try.prog 11 #[.agg #[.slice A l.length cap, .int .i64 p], .int .i64 n] w (Drew l [] w (plc l p)) := by
  have hmin : min n 1000 = n := by omega
  go_enter Try.func11, Try.ntmps11
  go_wp2_with fail
  have b0 := Gw.al (Gw.al (Gw.al (Below.refl w.heap.size w) (.cells #[.slice A l.length cap, .int .i64 p] 24)) (.cells #[.int .i64 n] 3)) (.cells #[.slice none 0 0, .int .i64 0] 24)
  have x2 := ((Ob.new w #[.slice A l.length cap, .int .i64 p] 24).alloc (.cells #[.int .i64 n] 3)).alloc (.cells #[.slice none 0 0, .int .i64 0] 24)
  have x3 := (Ob.new (w.alloc (.cells #[.slice A l.length cap, .int .i64 p] 24)) #[.int .i64 n] 3).alloc (.cells #[.slice none 0 0, .int .i64 0] 24)
  have x5 := Ob.new ((w.alloc (.cells #[.slice A l.length cap, .int .i64 p] 24)).alloc (.cells #[.int .i64 n] 3)) #[.slice none 0 0, .int .i64 0] 24
  simp only [World.size_alloc] at x3 x5
  refine (settled_any l A cap p _ (hr.up b0) hlen).mono ?_
  rintro e w1 ⟨A1, c1, rfl, o1, hb⟩
  simp only [World.size_alloc] at o1
  dsimp only [id]
  replace b0 := Gw.call b0 hb
  replace x2 := x2.call hb
  replace x3 := x3.call hb
  replace x5 := x5.call hb
  clear hb
  have t20 := x2.blk.2.1 0 _ rfl
  have t21 := x2.blk.2.1 1 _ rfl
  have t30 := x3.blk.2.1 0 _ rfl
  have t50 := x5.blk.2.1 0 _ rfl
  have t51 := x5.blk.2.1 1 _ rfl
  have f2 := x2.blk.2.2
  have f3 := x3.blk.2.2
  have f5 := x5.blk.2.2
  have hlt := x5.lt
  have lo := Own.lt o1
  go_wp2_with fail
  go_region
  go_wp2_with fail
  have y5 := (((((x5.far (p := w.heap.size) (j := 0) (by omega) (.slice A1 l.length c1)).far (p := w.heap.size) (j := 1) (by omega) (.int .i64 (plc l p))).far (p := w.heap.size + 1) (j := 0) (by omega) (.int .i64 n)).set 0 (.slice A1 l.length c1)).set 1 (.int .i64 (plc l p))).drew
  have r50 := y5.blk.2.1 0 _ rfl
  have r51 := y5.blk.2.1 1 _ rfl
  refine bodyPost_ret (v := .tuple #[.slice none 0 0, .agg #[.slice A1 l.length c1, .int .i64 (plc l p)]]) (by simp [results, Try.results11, go_sem, r50, r51]) rfl ⟨none, 0, A1, c1, rfl, Own.nil_, ?_, (fun k hk => by simp [Value.ownBlock] at hk), ?_⟩
  · exact (Own.far (p := ⟨w.heap.size + 1 + 1, 1, none⟩) (Own.far (p := ⟨w.heap.size + 1 + 1, 0, none⟩) (Own.far (p := ⟨w.heap.size + 1, 0, none⟩) (Own.far (p := ⟨w.heap.size, 1, none⟩) (Own.far (p := ⟨w.heap.size, 0, none⟩) o1 (fun j hj => by have := lo j hj; show j ≠ w.heap.size; omega) (.slice A1 l.length c1)) (fun j hj => by have := lo j hj; show j ≠ w.heap.size; omega) (.int .i64 (plc l p))) (fun j hj => by have := lo j hj; show j ≠ w.heap.size + 1; omega) (.int .i64 n)) (fun j hj => by have := lo j hj; show j ≠ w.heap.size + 1 + 1; omega) (.slice A1 l.length c1)) (fun j hj => by have := lo j hj; show j ≠ w.heap.size + 1 + 1; omega) (.int .i64 (plc l p))).drew.base_le (by omega)
  · exact Gw.drew (Gw.st (Gw.st (Gw.st (Gw.st (Gw.st b0 (p := ⟨w.heap.size, 0, none⟩) (by show w.heap.size ≤ w.heap.size; omega) (.slice A1 l.length c1)) (p := ⟨w.heap.size, 1, none⟩) (by show w.heap.size ≤ w.heap.size; omega) (.int .i64 (plc l p))) (p := ⟨w.heap.size + 1, 0, none⟩) (by show w.heap.size ≤ w.heap.size + 1; omega) (.int .i64 n)) (p := ⟨w.heap.size + 1 + 1, 0, none⟩) (by show w.heap.size ≤ w.heap.size + 1 + 1; omega) (.slice A1 l.length c1)) (p := ⟨w.heap.size + 1 + 1, 1, none⟩) (by show w.heap.size ≤ w.heap.size + 1 + 1; omega) (.int .i64 (plc l p)))

set_option maxRecDepth 100000 in
set_option maxHeartbeats 4000000 in
theorem some_yes (l : List Int) (A : Option Addr) (cap : Nat) (p n : Int) (m : Nat) (w : World) (hr : Rd (fun z : Int => [Value.int .u32 z]) 1 w.heap.size w A l) (hlen : l.length ≤ 1000000) (hl : ∀ x ∈ l, 0 ≤ x ∧ x ≤ 4294967295) (hm : (if 1000 < n then (1000 : Int) else n) = m) (hm1 : 1 ≤ m) (hn2 : n ≤ 9223372036854775807) :
    Calls Try.prog 11 #[.agg #[.slice A l.length cap, .int .i64 p], .int .i64 n] w (Drew l (vals l (plc l p) m) w (pos l (plc l p) m)) := by
  obtain ⟨i0, hi0, hz0, hz1, hz2⟩ := info_parts Try.infoU32s
  have hm2 : m ≤ 1000 := by split at hm <;> omega
  have HLL := Lib.hid hl
  have e1 : decide ((m : Int) < 1) = false := by simp; omega
  have e2 : ¬ (m : Int) < 1 := by omega
  clear hl
  refine (callsIn_wide (n := 5)).1 ?_
  refine callsIn_of_wp_marks Try.func11 rfl trivial ?_ rfl
  simp only [Try.ntmps11, List.size_toArray, List.length_cons, List.length_nil, Nat.reduceAdd, Nat.reduceSub, Array.replicate_succ, Array.replicate_zero, List.push_toArray, List.append_toArray, List.nil_append, List.cons_append]
  gi_wp2_with fail
  have b0 := Gw.al (Gw.al (Gw.al (Below.refl w.heap.size w) (.cells #[.slice A l.length cap, .int .i64 p] 24)) (.cells #[.int .i64 n] 3)) (.cells #[.slice none 0 0, .int .i64 0] 24)
  have x2 := ((Ob.new w #[.slice A l.length cap, .int .i64 p] 24).alloc (.cells #[.int .i64 n] 3)).alloc (.cells #[.slice none 0 0, .int .i64 0] 24)
  have x3 := (Ob.new (w.alloc (.cells #[.slice A l.length cap, .int .i64 p] 24)) #[.int .i64 n] 3).alloc (.cells #[.slice none 0 0, .int .i64 0] 24)
  have x5 := Ob.new ((w.alloc (.cells #[.slice A l.length cap, .int .i64 p] 24)).alloc (.cells #[.int .i64 n] 3)) #[.slice none 0 0, .int .i64 0] 24
  simp only [World.size_alloc] at x3 x5
  refine ⟨trivial, (callsIn_wide.2 (settled_any l A cap p _ (hr.up b0) hlen)).mono ?_⟩
  rintro e w1 ⟨A1, c1, rfl, o1, hb⟩
  simp only [World.size_alloc] at o1
  dsimp only [id]
  replace b0 := Gw.call b0 hb
  replace x2 := x2.call hb
  replace x3 := x3.call hb
  replace x5 := x5.call hb
  clear hb
  have t20 := x2.blk.2.1 0 _ rfl
  have t21 := x2.blk.2.1 1 _ rfl
  have t30 := x3.blk.2.1 0 _ rfl
  have t50 := x5.blk.2.1 0 _ rfl
  have t51 := x5.blk.2.1 1 _ rfl
  have f2 := x2.blk.2.2
  have f3 := x3.blk.2.2
  have f5 := x5.blk.2.2
  have hlt := x5.lt
  have lo := Own.lt o1
  gi_wp2_with (gi_at_make; refine wpListIn_make_own _ rfl _ _ 22 rfl w1.heap.size 34 i0 _ 1 Try.underlying22 hi0 hz0 hz1 _ _ _ m rfl rfl rfl (by rw [hz2]; omega) (by unfold maxLen; omega) (by simp [World.setCell]) ?_; intro w3 hown3 hg3; have y2 := (((x2.set 0 (.slice A1 l.length c1)).set 1 (.int .i64 (plc l p))).far (p := w.heap.size + 1) (j := 0) (by omega) (.int .i64 m)).call (Gw.none_ hg3); have y3 := (((x3.far (p := w.heap.size) (j := 0) (by omega) (.slice A1 l.length c1)).far (p := w.heap.size) (j := 1) (by omega) (.int .i64 (plc l p))).set 0 (.int .i64 m)).call (Gw.none_ hg3); have y5 := (((x5.far (p := w.heap.size) (j := 0) (by omega) (.slice A1 l.length c1)).far (p := w.heap.size) (j := 1) (by omega) (.int .i64 (plc l p))).far (p := w.heap.size + 1) (j := 0) (by omega) (.int .i64 m)).call (Gw.none_ hg3); have oy := (Own.far (p := ⟨w.heap.size + 1, 0, none⟩) (Own.far (p := ⟨w.heap.size, 1, none⟩) (Own.far (p := ⟨w.heap.size, 0, none⟩) o1 (fun j hj => by have := lo j hj; show j ≠ w.heap.size; omega) (.slice A1 l.length c1)) (fun j hj => by have := lo j hj; show j ≠ w.heap.size; omega) (.int .i64 (plc l p))) (fun j hj => by have := lo j hj; show j ≠ w.heap.size + 1; omega) (.int .i64 m)).below (Gw.none_ hg3); have bz := Gw.call (Gw.st (Gw.st (Gw.st b0 (p := ⟨w.heap.size, 0, none⟩) (by show w.heap.size ≤ w.heap.size; omega) (.slice A1 l.length c1)) (p := ⟨w.heap.size, 1, none⟩) (by show w.heap.size ≤ w.heap.size; omega) (.int .i64 (plc l p))) (p := ⟨w.heap.size + 1, 0, none⟩) (by show w.heap.size ≤ w.heap.size + 1; omega) (.int .i64 m)) (Gw.none_ hg3); replace y2 : Ob w3 w.heap.size #[.slice A1 l.length c1, .int .i64 (plc l p)] 24 := (by simpa using y2); replace y3 : Ob w3 (w.heap.size + 1) #[.int .i64 m] 3 := (by simpa using y3); have u20 := y2.blk.2.1 0 _ rfl; have u21 := y2.blk.2.1 1 _ rfl; have l3 := y2.lt; have l5 := y5.lt; have hs3 := hg3.size; simp only [Gw.setSize] at hs3 hown3; clear hg3 t20 t21 t30 t50 t51 f2 f3 f5 x2 x3 x5)
  refine ⟨trivial, (callsIn_wide.2 (numbers_any _ _ _)).mono ?_⟩
  rintro e w9 ⟨rfl, rfl⟩
  gi_wp2_with fail

  have SL_hi := Own.hi o1
  have z2 := (y2.alloc (.cells #[.slice (some ⟨w1.heap.size, 0, none⟩) 0 m] 22)).alloc (.cells #[.slice A1 l.length c1, .int .i64 (plc l p)] 24)
  have z3 := (y3.alloc (.cells #[.slice (some ⟨w1.heap.size, 0, none⟩) 0 m] 22)).alloc (.cells #[.slice A1 l.length c1, .int .i64 (plc l p)] 24)
  have z5 := (y5.alloc (.cells #[.slice (some ⟨w1.heap.size, 0, none⟩) 0 m] 22)).alloc (.cells #[.slice A1 l.length c1, .int .i64 (plc l p)] 24)
  have z6 := (Ob.new w3 #[.slice (some ⟨w1.heap.size, 0, none⟩) 0 m] 22).alloc (.cells #[.slice A1 l.length c1, .int .i64 (plc l p)] 24)
  have zt := Ob.new (w3.alloc (.cells #[.slice (some ⟨w1.heap.size, 0, none⟩) 0 m] 22)) #[.slice A1 l.length c1, .int .i64 (plc l p)] 24
  rw [World.size_alloc] at zt
  have oz := (oy.alloc (.cells #[.slice (some ⟨w1.heap.size, 0, none⟩) 0 m] 22)).alloc (.cells #[.slice A1 l.length c1, .int .i64 (plc l p)] 24)
  have hown4 : Own (fun z : Int => [Value.int .u32 z]) 1 34 w1.heap.size w3 (.slice (some ⟨w1.heap.size, 0, none⟩) 0 m) ([] : List Int) := hown3
  have ow := (hown4.alloc (.cells #[.slice (some ⟨w1.heap.size, 0, none⟩) 0 m] 22)).alloc (.cells #[.slice A1 l.length c1, .int .i64 (plc l p)] 24)
  have bw := Gw.al (Gw.al bz (.cells #[.slice (some ⟨w1.heap.size, 0, none⟩) 0 m] 22)) (.cells #[.slice A1 l.length c1, .int .i64 (plc l p)] 24)
  have sz : ((w3.alloc (.cells #[.slice (some ⟨w1.heap.size, 0, none⟩) 0 m] 22)).alloc (.cells #[.slice A1 l.length c1, .int .i64 (plc l p)] 24)).heap.size = w3.heap.size + 1 + 1 := by rw [World.size_alloc, World.size_alloc]
  generalize (w3.alloc (.cells #[.slice (some ⟨w1.heap.size, 0, none⟩) 0 m] 22)).alloc (.cells #[.slice A1 l.length c1, .int .i64 (plc l p)] 24) = W2 at *
  have SZ := Lib.hid sz
  have hbt : w3.heap.size + 1 < W2.heap.size := by omega
  obtain ⟨q, hq⟩ : ∃ q, q = plc l p := ⟨_, rfl⟩
  have hql : q < l.length ∨ q = 0 := by
    rcases Nat.eq_zero_or_pos l.length with h0 | h0
    · right; rw [hq]; unfold plc; split <;> omega
    · left; rw [hq]; exact plc_lt l p h0
  rw [← hq] at z2 zt ⊢
  have HQ := Lib.hid hq
  have sv : ∀ j, (Value.slice A1 l.length c1).ownBlock = some j → w.heap.size + 1 + 1 + 1 ≤ j ∧ j < w1.heap.size := fun j hj => ⟨lo j hj, SL_hi j hj⟩
  obtain ⟨g, o, hg0, hg1, hg2, hgt, hA, hlc⟩ : ∃ g o, g < W2.heap.size ∧ g ≠ w.heap.size ∧ g ≠ w3.heap.size ∧ (g = w3.heap.size + 1 ∨ g < w1.heap.size) ∧ (0 < l.length → A1 = some ⟨g, o, none⟩) ∧ ∀ j x, l[j]? = some x → W2.cell? ⟨g, o + j, none⟩ = some (.int .u32 x) := by
    rcases Nat.eq_zero_or_pos l.length with h0 | h0
    · exact ⟨w3.heap.size + 1, 0, hbt, by omega, by omega, .inl rfl, fun hp => by omega, fun j x hx => by rw [List.length_eq_zero_iff.1 h0] at hx; simp at hx⟩
    · obtain ⟨b, o', hA, hb, hc⟩ := (oz.rd (int_len .u32)) h0
      have hs := sv b (by rw [hA]; rfl)
      exact ⟨b, o', hb, by omega, by omega, .inr hs.2, fun _ => hA, fun j x hx => by simpa using hc j x hx 0 _ rfl⟩
  clear sz u20 u21 y2 y3 y5 hown3 hown4 oy bz hq o1 b0 l3 SL_hi
  refine wp_seqs (n := 5) rfl (by omega) (gf := 20) (lb := #[.pointer (some ⟨w3.heap.size + 1, 0, none⟩)]) rfl trivial (enters_of Try.func20 (by kernel_rfl) rfl)
    (numbers1_seqs 4 (by omega) m l A1 c1 q (w3.heap.size + 1) g o W2 hql hlen hbt hg0 (zt.blk.2.1 0 _ rfl) (zt.blk.2.1 1 _ rfl) hA hlc) (fun h k => h.trans k) (fun W r o o' hr _ _ _ => Keep2.put hbt hg0 W r o' hr) (Below.refl _ _) (fun _ => rfl)
    (fun k W => k < m ∧ Ob W w.heap.size #[.slice A1 l.length c1, .int .i64 (pos l q k)] 24 ∧ Ob W (w.heap.size + 1) #[.int .i64 m] 3 ∧ Ob W (w.heap.size + 1 + 1) #[.slice none 0 0, .int .i64 0] 24 ∧ Ob W (w3.heap.size + 1) #[.slice A1 l.length c1, .int .i64 q] 24 ∧ (∃ D d, Ob W w3.heap.size #[.slice D k d] 22 ∧ Own (fun z : Int => [Value.int .u32 z]) 1 34 w1.heap.size W (.slice D k d) (vals l q k)) ∧ Own (fun z : Int => [Value.int .u32 z]) 1 34 (w.heap.size + 1 + 1 + 1) W (.slice A1 l.length c1) l ∧ Below w.heap.size w W)
    (fun c k W => c = .exit 0 ∧ Ob W w.heap.size #[.slice A1 l.length c1, .int .i64 (pos l q m)] 24 ∧ Ob W (w.heap.size + 1 + 1) #[.slice none 0 0, .int .i64 0] 24 ∧ (∃ D d, Ob W w3.heap.size #[.slice D m d] 22 ∧ Own (fun z : Int => [Value.int .u32 z]) 1 34 w1.heap.size W (.slice D m d) (vals l q m)) ∧ Own (fun z : Int => [Value.int .u32 z]) 1 34 (w.heap.size + 1 + 1 + 1) W (.slice A1 l.length c1) l ∧ Below w.heap.size w W)
    (fun s A B row hs hg hr => by
      obtain ⟨h1, h2, h3, h4, h5, ⟨D, d, h6, h7⟩, h8, h9⟩ := hs
      have hr' := fun r e => (hr r e).2
      exact ⟨h1, h2.turn hg hr', h3.turn hg hr', h4.turn hg hr', h5.turn hg hr', ⟨D, d, h6.turn hg hr', h7.turn hg hr'⟩, h8.turn hg hr', h9.grown hg h9.size (fun k e => by have := (hr k e).1; omega)⟩)
    (fun c s A B row hs hg hr => by
      obtain ⟨h1, h2, h4, ⟨D, d, h6, h7⟩, h8, h9⟩ := hs
      have hr' := fun r e => (hr r e).2
      exact ⟨h1, h2.turn hg hr', h4.turn hg hr', ⟨D, d, h6.turn hg hr', h7.turn hg hr'⟩, h8.turn hg hr', h9.grown hg h9.size (fun k e => by have := (hr k e).1; omega)⟩)
    ⟨by omega, by rw [pos_start hql]; exact z2, z3, z5, zt, ⟨_, _, z6, ow⟩, oz, bw⟩ (fun _ k W h => h.1)
    (fun k => { tmps := #[.agg #[.slice A l.length cap, .int .i64 p], .int .i64 n, .pointer (some ⟨w.heap.size, 0, none⟩), .pointer (some ⟨w.heap.size + 1, 0, none⟩), .slice none 0 0, .pointer (some ⟨w.heap.size + 1 + 1, 0, none⟩), .pointer (some ⟨w3.heap.size, 0, none⟩), .int .u32 (val l q k), .int .i64 (pos l q (k + 1)), .agg #[.slice A l.length cap, .int .i64 p], .agg #[.slice A1 l.length c1, .int .i64 q], .int .i64 n, .int .i64 m, .int .i64 m, .bool false, undef, .int .i64 m, .slice (some ⟨w1.heap.size, 0, none⟩) 0 m, .agg #[.slice A1 l.length c1, .int .i64 q], .func (.func 20) #[] #[.pointer (some ⟨w3.heap.size + 1, 0, none⟩)], .int .u32 (val l q k), .int .i64 (pos l q (k + 1)), undef, undef, undef, undef, undef, undef, undef, undef, undef, undef, undef, undef], defers := [] }) ?assign ?body ?done ?stop
  case assign =>
    intro r k W K hK
    dsimp only [strm]
    gi_wp2
    exact hK
  case body =>
    rintro r k W ⟨hkm, X2, X3, X5, XT, ⟨D, d, X6, OD⟩, OS, Bl⟩ _
    have t20 := X2.blk.2.1 0 _ rfl
    have t21 := X2.blk.2.1 1 _ rfl
    have t30 := X3.blk.2.1 0 _ rfl
    have t60 := X6.blk.2.1 0 _ rfl
    have lW := XT.lt
    obtain ⟨v1, v2⟩ := val_in HLL.out q k
    have ple := pos_le (l := l) q (k + 1) hlen
    have rowlo := Own.lt OD
    have fin : ∀ D' d' w4, Own (fun z : Int => [Value.int .u32 z]) 1 34 w1.heap.size w4 (.slice D' (k + 1) d') (vals l q k ++ [val l q k]) → (W.alloc (.cells #[.int .u32 (val l q k)] 34)).grownBy w4 (Value.slice D k d).ownBlock → Ob w4 w3.heap.size #[.slice D k d] 22 →
        KeepsFrom W2.heap.size W ((w4.setCell ⟨w3.heap.size, 0, none⟩ (.slice D' (k + 1) d')).setCell ⟨w.heap.size, 1, none⟩ (.int .i64 (pos l q (k + 1)))) ∧ Own (fun z : Int => [Value.int .u32 z]) 1 34 w1.heap.size ((w4.setCell ⟨w3.heap.size, 0, none⟩ (.slice D' (k + 1) d')).setCell ⟨w.heap.size, 1, none⟩ (.int .i64 (pos l q (k + 1)))) (.slice D' (k + 1) d') (vals l q (k + 1)) ∧
        Own (fun z : Int => [Value.int .u32 z]) 1 34 (w.heap.size + 1 + 1 + 1) ((w4.setCell ⟨w3.heap.size, 0, none⟩ (.slice D' (k + 1) d')).setCell ⟨w.heap.size, 1, none⟩ (.int .i64 (pos l q (k + 1)))) (.slice A1 l.length c1) l ∧ Below w.heap.size w ((w4.setCell ⟨w3.heap.size, 0, none⟩ (.slice D' (k + 1) d')).setCell ⟨w.heap.size, 1, none⟩ (.int .i64 (pos l q (k + 1)))) := fun D' d' w4 od hg4 a6 => by
      have odlo := Own.lt od
      refine ⟨((((KeepsOthers.alloc W _).trans (KeepsOthers.of_grownBy hg4 (own_cells (OD.alloc _)))).trans (KeepsOthers.setCell _ _ _)).trans (KeepsOthers.setCell _ _ _)).from _, ?_, ?_, ?_⟩
      · rw [vals_snoc]
        exact Own.far (p := ⟨w.heap.size, 1, none⟩) (Own.far (p := ⟨w3.heap.size, 0, none⟩) od (a6.row_ne od (by decide)) _) (fun j hj => by have := odlo j hj; show j ≠ w.heap.size; omega) _
      · exact Own.far (p := ⟨w.heap.size, 1, none⟩) (Own.far (p := ⟨w3.heap.size, 0, none⟩) (Own.keep (OS.alloc _) hg4 (by
          rcases hv : (Value.slice A1 l.length c1).ownBlock with _ | j
          · exact .inl rfl
          · exact .inr (fun e => by have h1 := sv j hv; have h2 := rowlo j e.symm; omega))) (fun j hj => by have := sv j hj; show j ≠ w3.heap.size; omega) _) (fun j hj => by have := sv j hj; show j ≠ w.heap.size; omega) _
      · exact Gw.st (Gw.st (Gw.gr (Gw.al Bl _) hg4 (fun j hj => by have := rowlo j hj; omega)) (p := ⟨w3.heap.size, 0, none⟩) (by show w.heap.size ≤ w3.heap.size; omega) _) (p := ⟨w.heap.size, 1, none⟩) (by show w.heap.size ≤ w.heap.size; omega) _
    by_cases hk2 : k + 1 = m
    · subst hk2
      gi_wp2_with (gi_at_builtin; refine wpListIn_app _ rfl _ _ 22 rfl w1.heap.size 34 i0 _ 4 Try.underlying22 hi0 hz0 hz1 hz2 rfl (by omega) (int_len .u32) (int_one .u32) _ (vals l q k) rfl (OD.alloc _) k (vals_len l q k).symm _ _ 1 1 [val l q k] rfl rfl (Rd.oneAt .u32 W _ rfl _ _) (by omega) (by omega) (by rw [World.size_alloc]; omega) ?_; intro D' d' w4 od hg4; have a2 := (X2.alloc (.cells #[.int .u32 (val l q k)] 34)).app (OD.alloc _) hg4 (by decide); have a3 := (X3.alloc (.cells #[.int .u32 (val l q k)] 34)).app (OD.alloc _) hg4 (by decide); have a5 := (X5.alloc (.cells #[.int .u32 (val l q k)] 34)).app (OD.alloc _) hg4 (by decide); have at_ := (XT.alloc (.cells #[.int .u32 (val l q k)] 34)).app (OD.alloc _) hg4 (by decide); have a6 := (X6.alloc (.cells #[.int .u32 (val l q k)] 34)).app (OD.alloc _) hg4 (by decide); have v20 := a2.blk.2.1 0 _ rfl; have v21 := a2.blk.2.1 1 _ rfl; have v30 := a3.blk.2.1 0 _ rfl; have v60 := a6.blk.2.1 0 _ rfl; have g2 := a2.blk.2.2; have g6 := a6.blk.2.2; have m2 := a2.lt; have m6 := a6.lt; have m3 := a3.lt; clear t20 t21 t30 t60)
      obtain ⟨f1, f2, f3, f4⟩ := fin _ _ _ od hg4 a6
      exact ⟨f1, rfl, ((a2.far (p := w3.heap.size) (j := 0) (by omega) _).set 1 _), ((a5.far (p := w3.heap.size) (j := 0) (by omega) _).far (p := w.heap.size) (j := 1) (by omega) _), ⟨D', d', ((a6.set 0 _).far (p := w.heap.size) (j := 1) (by omega) _), f2⟩, f3, f4⟩
    · have hk3 : decide ((k : Int) + 1 = m) = false := by simp; omega
      have hk4 : ¬ ((k : Int) + 1 = m) := by omega
      gi_wp2_with (gi_at_builtin; refine wpListIn_app _ rfl _ _ 22 rfl w1.heap.size 34 i0 _ 4 Try.underlying22 hi0 hz0 hz1 hz2 rfl (by omega) (int_len .u32) (int_one .u32) _ (vals l q k) rfl (OD.alloc _) k (vals_len l q k).symm _ _ 1 1 [val l q k] rfl rfl (Rd.oneAt .u32 W _ rfl _ _) (by omega) (by omega) (by rw [World.size_alloc]; omega) ?_; intro D' d' w4 od hg4; have a2 := (X2.alloc (.cells #[.int .u32 (val l q k)] 34)).app (OD.alloc _) hg4 (by decide); have a3 := (X3.alloc (.cells #[.int .u32 (val l q k)] 34)).app (OD.alloc _) hg4 (by decide); have a5 := (X5.alloc (.cells #[.int .u32 (val l q k)] 34)).app (OD.alloc _) hg4 (by decide); have at_ := (XT.alloc (.cells #[.int .u32 (val l q k)] 34)).app (OD.alloc _) hg4 (by decide); have a6 := (X6.alloc (.cells #[.int .u32 (val l q k)] 34)).app (OD.alloc _) hg4 (by decide); have v20 := a2.blk.2.1 0 _ rfl; have v21 := a2.blk.2.1 1 _ rfl; have v30 := a3.blk.2.1 0 _ rfl; have v60 := a6.blk.2.1 0 _ rfl; have g2 := a2.blk.2.2; have g6 := a6.blk.2.2; have m2 := a2.lt; have m6 := a6.lt; have m3 := a3.lt; clear t20 t21 t30 t60)
      obtain ⟨f1, f2, f3, f4⟩ := fin _ _ _ od hg4 a6
      have xt := ((at_.far (p := w3.heap.size) (j := 0) (by omega) (.slice D' (k + 1) d')).far (p := w.heap.size) (j := 1) (by omega) (.int .i64 (pos l q (k + 1))))
      have kt : ((w4.setCell ⟨w3.heap.size, 0, none⟩ (.slice D' (k + 1) d')).setCell ⟨w.heap.size, 1, none⟩ (.int .i64 (pos l q (k + 1)))).heap[w3.heap.size + 1]? = W.heap[w3.heap.size + 1]? := Eq.trans xt (Eq.symm XT)
      refine ⟨f1, ⟨kt, ?_⟩, by omega, ((a2.far (p := w3.heap.size) (j := 0) (by omega) _).set 1 _), ((a3.far (p := w3.heap.size) (j := 0) (by omega) _).far (p := w.heap.size) (j := 1) (by omega) _), ((a5.far (p := w3.heap.size) (j := 0) (by omega) _).far (p := w.heap.size) (j := 1) (by omega) _), xt, ⟨D', d', ((a6.set 0 _).far (p := w.heap.size) (j := 1) (by omega) _), f2⟩, f3, f4⟩
      rcases hgt with rfl | hgl
      · exact kt
      · have hgW : g < W.heap.size := by omega
        have h5 : w4.heap[g]? = W.heap[g]? := (hg4.block g (by rw [World.size_alloc]; omega) (fun e => by have := rowlo g e.symm; omega)).trans (Below.heap_alloc W _ g hgW)
        rw [← h5]
        simp [World.setCell, Array.getElem?_modify, Ne.symm hg1, Ne.symm hg2]
  case done =>
    intro D W hD hf
    cases hf
  case stop =>
    rintro D0 c k W hD ⟨rfl, X2, X5, ⟨D, d, X6, OD⟩, OS, Bl⟩ hK
    have t20 := X2.blk.2.1 0 _ rfl
    have t21 := X2.blk.2.1 1 _ rfl
    have t50 := X5.blk.2.1 0 _ rfl
    have t51 := X5.blk.2.1 1 _ rfl
    have t60 := X6.blk.2.1 0 _ rfl
    have f5 := X5.blk.2.2
    gi_wp2
    gi_region
    all_goals gi_wp2
    all_goals (have kk : ((W.setCell ⟨w.heap.size + 1 + 1, 0, none⟩ (.slice A1 l.length c1)).setCell ⟨w.heap.size + 1 + 1, 1, none⟩ (.int .i64 (pos l q m))).drew.heap[D0]? = some (.deferred (some [])) := ((KeepsOthers.setCell W ⟨w.heap.size + 1 + 1, 0, none⟩ (.slice A1 l.length c1)).trans (KeepsOthers.setCell _ ⟨w.heap.size + 1 + 1, 1, none⟩ (.int .i64 (pos l q m)))).same D0 _ hK rfl
               have y5 := ((X5.set 0 (.slice A1 l.length c1)).set 1 (.int .i64 (pos l q m))).drew
               have y5' := y5.turn (grownBy_putObj' _ D0 (.deferred none)) (fun r e => by cases e; exact ⟨_, kk, rfl⟩)
               have r50 := y5'.blk.2.1 0 _ rfl
               have r51 := y5'.blk.2.1 1 _ rfl
               have odlo := Own.lt OD
               refine ⟨by simp, .inl ⟨_, _, rfl, run_takeDeferred kk, ?_⟩⟩
               refine ⟨.tuple #[.slice D m d, .agg #[.slice A1 l.length c1, .int .i64 (pos l q m)]], by simp [results, Try.results11, go_sem, r50, r51], ?_⟩
               rw [← HQ.out]
               unfold Drew
               rw [vals_len]
               refine ⟨D, d, A1, c1, rfl, ?_, ?_, ?_, ?_⟩
               · exact ((Own.far (p := ⟨w.heap.size + 1 + 1, 1, none⟩) (Own.far (p := ⟨w.heap.size + 1 + 1, 0, none⟩) OD (fun j hj => by have := odlo j hj; show j ≠ w.heap.size + 1 + 1; omega) _) (fun j hj => by have := odlo j hj; show j ≠ w.heap.size + 1 + 1; omega) _).drew.turn (grownBy_putObj' _ D0 (.deferred none)) (fun r e => by cases e; exact ⟨_, kk, rfl⟩)).base_le (by omega)
               · exact ((Own.far (p := ⟨w.heap.size + 1 + 1, 1, none⟩) (Own.far (p := ⟨w.heap.size + 1 + 1, 0, none⟩) OS (fun j hj => by have := sv j hj; show j ≠ w.heap.size + 1 + 1; omega) _) (fun j hj => by have := sv j hj; show j ≠ w.heap.size + 1 + 1; omega) _).drew.turn (grownBy_putObj' _ D0 (.deferred none)) (fun r e => by cases e; exact ⟨_, kk, rfl⟩)).base_le (by omega)
               · intro j h1 h2
                 have := odlo j h1
                 have := sv j h2
                 omega
               · have bb := Gw.drew (Gw.st (Gw.st Bl (p := ⟨w.heap.size + 1 + 1, 0, none⟩) (by show w.heap.size ≤ w.heap.size + 1 + 1; omega) (.slice A1 l.length c1)) (p := ⟨w.heap.size + 1 + 1, 1, none⟩) (by show w.heap.size ≤ w.heap.size + 1 + 1; omega) (.int .i64 (pos l q m)))
                 exact bb.grown (grownBy_putObj' _ D0 (.deferred none)) bb.size (fun k e => by cases e; omega))
end Go.Proofs.Ytbdipaooekiofaa
