/-
  tape.Draw.
-/
import Derived.Test.YtbdipaooekiofaaNumbers
import Derived.Test.YtbdipaooekiofaaTurn
import Derived.RegionTactic
import Derived.RegionIn
import Derived.Shelf.Abstract
namespace Go.Proofs.Ytbdipaooekiofaa
open Go.RowKit Go.Shelf
attribute [local go_sem] Oper.semAt_some

theorem rd_at {l : List Int} {W : World} {A : Option Addr} (h : Rd (fun z : Int => [Value.int .u32 z]) 1 W.heap.size W A l) (h0 : 0 < W.heap.size) :
    ∃ g o, g < W.heap.size ∧ (0 < l.length → A = some ⟨g, o, none⟩) ∧ ∀ j x, l[j]? = some x → W.cell? ⟨g, o + j, none⟩ = some (.int .u32 x) := by
  rcases Nat.eq_zero_or_pos l.length with hl | hl
  · exact ⟨0, 0, h0, fun hp => by omega, fun j x hx => by rw [List.length_eq_zero_iff.1 hl] at hx; simp at hx⟩
  · obtain ⟨b, o, hA, hb, hc⟩ := h hl
    exact ⟨b, o, hb, fun _ => hA, fun j x hx => by simpa using hc j x hx 0 _ rfl⟩
theorem val_in {l : List Int} (hl : ∀ x ∈ l, 0 ≤ x ∧ x ≤ 4294967295) (p k : Nat) : 0 ≤ val l p k ∧ val l p k ≤ 4294967295 := by
  unfold val
  rw [List.getD_eq_getElem?_getD]
  rcases hx : l[pos l p k]? with _ | x
  · simp
  · exact hl x (List.mem_of_getElem? hx)
theorem pos_le {l : List Int} (p k : Nat) (h : l.length ≤ 1000000) : pos l p k ≤ 1000000 := by
  rcases Nat.eq_zero_or_pos l.length with h0 | h0
  · rw [pos_zero h0]; omega
  · have := pos_lt h0 p k; omega
set_option maxHeartbeats 1000000 in
theorem numbers_any (v : Value) (p : Int) (w : World) : Calls Try.prog 16 #[.agg #[v, .int .i64 p]] w fun e w' => e = .returned (.func (.func 20) #[] #[.pointer (some ⟨w.heap.size, 0, none⟩)]) ∧ w' = w.alloc (.cells #[v, .int .i64 p] 24) := by
  have hmf : ∀ (fn : Fn) (first cap : Array Value) (w : World), (Instr.makeFunc fn first cap).run Try.prog w = .ok (.func fn first cap) w := fun _ _ _ _ => rfl
  go_enter Try.func16, Try.ntmps16
  go_wp2
  go_ret
  exact ⟨rfl, rfl⟩
set_option maxRecDepth 100000 in
set_option maxHeartbeats 4000000 in
theorem draw_no (l : List Int) (A : Option Addr) (cap : Nat) (p n : Int) (w : World) (hr : Rd (fun z : Int => [Value.int .u32 z]) 1 w.heap.size w A l) (hlen : l.length ≤ 1000000) (hn : n < 1) :
    Calls Try.prog 9 #[.agg #[.slice A l.length cap, .int .i64 p], .int .i64 n] w (Told l w (fun t => .tuple #[.int .i64 0, t]) (plc l p)) := by
  go_enter Try.func9, Try.ntmps9
  go_wp2_with fail
  have b0 := Gw.al (Gw.al (Gw.al (Gw.al (Below.refl w.heap.size w) (.cells #[.slice A l.length cap, .int .i64 p] 24)) (.cells #[.int .i64 n] 3)) (.cells #[.int .i64 0] 3)) (.cells #[.slice none 0 0, .int .i64 0] 24)
  have x2 := (((Ob.new w #[.slice A l.length cap, .int .i64 p] 24).alloc (.cells #[.int .i64 n] 3)).alloc (.cells #[.int .i64 0] 3)).alloc (.cells #[.slice none 0 0, .int .i64 0] 24)
  have x3 := ((Ob.new (w.alloc (.cells #[.slice A l.length cap, .int .i64 p] 24)) #[.int .i64 n] 3).alloc (.cells #[.int .i64 0] 3)).alloc (.cells #[.slice none 0 0, .int .i64 0] 24)
  have x4 := (Ob.new ((w.alloc (.cells #[.slice A l.length cap, .int .i64 p] 24)).alloc (.cells #[.int .i64 n] 3)) #[.int .i64 0] 3).alloc (.cells #[.slice none 0 0, .int .i64 0] 24)
  have x5 := Ob.new (((w.alloc (.cells #[.slice A l.length cap, .int .i64 p] 24)).alloc (.cells #[.int .i64 n] 3)).alloc (.cells #[.int .i64 0] 3)) #[.slice none 0 0, .int .i64 0] 24
  simp only [World.size_alloc] at x3 x4 x5
  refine (settled_any l A cap p _ (hr.up b0) hlen).mono ?_
  rintro e w1 ⟨A1, c1, rfl, o1, hb⟩
  simp only [World.size_alloc] at o1
  dsimp only [id]
  replace b0 := Gw.call b0 hb
  replace x2 := x2.call hb
  replace x3 := x3.call hb
  replace x4 := x4.call hb
  replace x5 := x5.call hb
  clear hb
  have t20 := x2.blk.2.1 0 _ rfl
  have t21 := x2.blk.2.1 1 _ rfl
  have t30 := x3.blk.2.1 0 _ rfl
  have t40 := x4.blk.2.1 0 _ rfl
  have t50 := x5.blk.2.1 0 _ rfl
  have t51 := x5.blk.2.1 1 _ rfl
  have f2 := x2.blk.2.2
  have f4 := x4.blk.2.2
  have f5 := x5.blk.2.2
  have hlt := x5.lt
  go_wp2_with fail
  go_region
  go_wp2_with fail
  have y4 := (((((x4.far (p := w.heap.size) (j := 0) (by omega) (.slice A1 l.length c1)).far (p := w.heap.size) (j := 1) (by omega) (.int .i64 (plc l p))).set 0 (.int .i64 0)).far (p := w.heap.size + 1 + 1 + 1) (j := 0) (by omega) (.slice A1 l.length c1)).far (p := w.heap.size + 1 + 1 + 1) (j := 1) (by omega) (.int .i64 (plc l p))).drew
  have y5 := (((((x5.far (p := w.heap.size) (j := 0) (by omega) (.slice A1 l.length c1)).far (p := w.heap.size) (j := 1) (by omega) (.int .i64 (plc l p))).far (p := w.heap.size + 1 + 1) (j := 0) (by omega) (.int .i64 0)).set 0 (.slice A1 l.length c1)).set 1 (.int .i64 (plc l p))).drew
  have r40 := y4.blk.2.1 0 _ rfl
  have r50 := y5.blk.2.1 0 _ rfl
  have r51 := y5.blk.2.1 1 _ rfl
  have lo := Own.lt o1
  refine bodyPost_ret (v := .tuple #[.int .i64 0, .agg #[.slice A1 l.length c1, .int .i64 (plc l p)]]) (by simp [results, Try.results9, go_sem, r40, r50, r51]) rfl ⟨A1, c1, rfl, ?_, ?_⟩
  · exact (Own.far (p := ⟨w.heap.size + 1 + 1 + 1, 1, none⟩) (Own.far (p := ⟨w.heap.size + 1 + 1 + 1, 0, none⟩) (Own.far (p := ⟨w.heap.size + 1 + 1, 0, none⟩) (Own.far (p := ⟨w.heap.size, 1, none⟩) (Own.far (p := ⟨w.heap.size, 0, none⟩) o1 (fun j hj => by have := lo j hj; show j ≠ w.heap.size; omega) (.slice A1 l.length c1)) (fun j hj => by have := lo j hj; show j ≠ w.heap.size; omega) (.int .i64 (plc l p))) (fun j hj => by have := lo j hj; show j ≠ w.heap.size + 1 + 1; omega) (.int .i64 0)) (fun j hj => by have := lo j hj; show j ≠ w.heap.size + 1 + 1 + 1; omega) (.slice A1 l.length c1)) (fun j hj => by have := lo j hj; show j ≠ w.heap.size + 1 + 1 + 1; omega) (.int .i64 (plc l p))).drew.base_le (by omega)
  · exact Gw.drew (Gw.st (Gw.st (Gw.st (Gw.st (Gw.st b0 (p := ⟨w.heap.size, 0, none⟩) (by show w.heap.size ≤ w.heap.size; omega) (.slice A1 l.length c1)) (p := ⟨w.heap.size, 1, none⟩) (by show w.heap.size ≤ w.heap.size; omega) (.int .i64 (plc l p))) (p := ⟨w.heap.size + 1 + 1, 0, none⟩) (by show w.heap.size ≤ w.heap.size + 1 + 1; omega) (.int .i64 0)) (p := ⟨w.heap.size + 1 + 1 + 1, 0, none⟩) (by show w.heap.size ≤ w.heap.size + 1 + 1 + 1; omega) (.slice A1 l.length c1)) (p := ⟨w.heap.size + 1 + 1 + 1, 1, none⟩) (by show w.heap.size ≤ w.heap.size + 1 + 1 + 1; omega) (.int .i64 (plc l p)))
set_option maxRecDepth 100000 in
set_option maxHeartbeats 4000000 in
theorem draw_yes (l : List Int) (A : Option Addr) (cap : Nat) (p n : Int) (w : World) (hr : Rd (fun z : Int => [Value.int .u32 z]) 1 w.heap.size w A l) (hlen : l.length ≤ 1000000) (hl : ∀ x ∈ l, 0 ≤ x ∧ x ≤ 4294967295) (hn : 1 ≤ n) (hn2 : n ≤ 9223372036854775807) :
    Calls Try.prog 9 #[.agg #[.slice A l.length cap, .int .i64 p], .int .i64 n] w (Told l w (fun t => .tuple #[.int .i64 (val l (plc l p) 0 % n), t]) (pos l (plc l p) 1)) := by
  have HLL := Lib.hid hl
  clear hl
  have hn1 : decide (n < 1) = false := by simp; omega
  have hn3 : ¬ n < 1 := by omega
  refine (callsIn_wide (n := 5)).1 ?_
  refine callsIn_of_wp_marks Try.func9 rfl trivial ?_ rfl
  simp only [Try.ntmps9, List.size_toArray, List.length_cons, List.length_nil, Nat.reduceAdd, Nat.reduceSub, Array.replicate_succ, Array.replicate_zero, List.push_toArray, List.append_toArray, List.nil_append, List.cons_append]
  gi_wp2_with fail
  have b0 := Gw.al (Gw.al (Gw.al (Gw.al (Below.refl w.heap.size w) (.cells #[.slice A l.length cap, .int .i64 p] 24)) (.cells #[.int .i64 n] 3)) (.cells #[.int .i64 0] 3)) (.cells #[.slice none 0 0, .int .i64 0] 24)
  have x2 := (((Ob.new w #[.slice A l.length cap, .int .i64 p] 24).alloc (.cells #[.int .i64 n] 3)).alloc (.cells #[.int .i64 0] 3)).alloc (.cells #[.slice none 0 0, .int .i64 0] 24)
  have x3 := ((Ob.new (w.alloc (.cells #[.slice A l.length cap, .int .i64 p] 24)) #[.int .i64 n] 3).alloc (.cells #[.int .i64 0] 3)).alloc (.cells #[.slice none 0 0, .int .i64 0] 24)
  have x4 := (Ob.new ((w.alloc (.cells #[.slice A l.length cap, .int .i64 p] 24)).alloc (.cells #[.int .i64 n] 3)) #[.int .i64 0] 3).alloc (.cells #[.slice none 0 0, .int .i64 0] 24)
  have x5 := Ob.new (((w.alloc (.cells #[.slice A l.length cap, .int .i64 p] 24)).alloc (.cells #[.int .i64 n] 3)).alloc (.cells #[.int .i64 0] 3)) #[.slice none 0 0, .int .i64 0] 24
  simp only [World.size_alloc] at x3 x4 x5
  refine ⟨trivial, (callsIn_wide.2 (settled_any l A cap p _ (hr.up b0) hlen)).mono ?_⟩
  rintro e w1 ⟨A1, c1, rfl, o1, hb⟩
  simp only [World.size_alloc] at o1
  dsimp only [id]
  replace b0 := Gw.call b0 hb
  replace x2 := x2.call hb
  replace x3 := x3.call hb
  replace x4 := x4.call hb
  replace x5 := x5.call hb
  clear hb
  have t20 := x2.blk.2.1 0 _ rfl
  have t21 := x2.blk.2.1 1 _ rfl
  have t30 := x3.blk.2.1 0 _ rfl
  have t40 := x4.blk.2.1 0 _ rfl
  have t50 := x5.blk.2.1 0 _ rfl
  have t51 := x5.blk.2.1 1 _ rfl
  have f2 := x2.blk.2.2
  have f4 := x4.blk.2.2
  have f5 := x5.blk.2.2
  have hlt := x5.lt
  gi_wp2_with fail
  refine ⟨trivial, (callsIn_wide.2 (numbers_any _ _ _)).mono ?_⟩
  rintro e w2 ⟨rfl, rfl⟩
  gi_wp2_with fail
  have lo := Own.lt o1
  have y2 := (((x2.set 0 (.slice A1 l.length c1)).set 1 (.int .i64 (plc l p)))).alloc (.cells #[.slice A1 l.length c1, .int .i64 (plc l p)] 24)
  have y3 := (((x3.far (p := w.heap.size) (j := 0) (by omega) (.slice A1 l.length c1)).far (p := w.heap.size) (j := 1) (by omega) (.int .i64 (plc l p)))).alloc (.cells #[.slice A1 l.length c1, .int .i64 (plc l p)] 24)
  have y4 := (((x4.far (p := w.heap.size) (j := 0) (by omega) (.slice A1 l.length c1)).far (p := w.heap.size) (j := 1) (by omega) (.int .i64 (plc l p)))).alloc (.cells #[.slice A1 l.length c1, .int .i64 (plc l p)] 24)
  have y5 := (((x5.far (p := w.heap.size) (j := 0) (by omega) (.slice A1 l.length c1)).far (p := w.heap.size) (j := 1) (by omega) (.int .i64 (plc l p)))).alloc (.cells #[.slice A1 l.length c1, .int .i64 (plc l p)] 24)
  have yt := Ob.new ((w1.setCell ⟨w.heap.size, 0, none⟩ (.slice A1 l.length c1)).setCell ⟨w.heap.size, 1, none⟩ (.int .i64 (plc l p))) #[.slice A1 l.length c1, .int .i64 (plc l p)] 24
  rw [Gw.setSize, Gw.setSize] at yt
  have oy := ((Own.far (p := ⟨w.heap.size, 1, none⟩) (Own.far (p := ⟨w.heap.size, 0, none⟩) o1 (fun j hj => by have := lo j hj; show j ≠ w.heap.size; omega) (.slice A1 l.length c1)) (fun j hj => by have := lo j hj; show j ≠ w.heap.size; omega) (.int .i64 (plc l p)))).alloc (.cells #[.slice A1 l.length c1, .int .i64 (plc l p)] 24)
  have by_ := Gw.al (Gw.st (Gw.st b0 (p := ⟨w.heap.size, 0, none⟩) (by show w.heap.size ≤ w.heap.size; omega) (.slice A1 l.length c1)) (p := ⟨w.heap.size, 1, none⟩) (by show w.heap.size ≤ w.heap.size; omega) (.int .i64 (plc l p))) (.cells #[.slice A1 l.length c1, .int .i64 (plc l p)] 24)
  have sz : (((w1.setCell ⟨w.heap.size, 0, none⟩ (.slice A1 l.length c1)).setCell ⟨w.heap.size, 1, none⟩ (.int .i64 (plc l p))).alloc (.cells #[.slice A1 l.length c1, .int .i64 (plc l p)] 24)).heap.size = w1.heap.size + 1 := by rw [World.size_alloc, Gw.setSize, Gw.setSize]
  have hlt2 : w.heap.size + 1 + 1 + 1 < w1.heap.size := x5.lt
  generalize ((w1.setCell ⟨w.heap.size, 0, none⟩ (.slice A1 l.length c1)).setCell ⟨w.heap.size, 1, none⟩ (.int .i64 (plc l p))).alloc (.cells #[.slice A1 l.length c1, .int .i64 (plc l p)] 24) = W2 at *
  have SZ := Lib.hid sz
  have hbt : w1.heap.size < W2.heap.size := by omega
  clear sz t20 t21 t30 t40 t50 t51 f2 f4 f5 x2 x3 x4 x5 o1 b0 hlt
  obtain ⟨q, hq⟩ : ∃ q, q = plc l p := ⟨_, rfl⟩
  have hql : q < l.length ∨ q = 0 := by
    rcases Nat.eq_zero_or_pos l.length with h0 | h0
    · right; rw [hq]; unfold plc; split <;> omega
    · left; rw [hq]; exact plc_lt l p h0
  rw [← hq] at y2 yt ⊢
  have HQ := Lib.hid hq
  clear hq
  replace y2 : Ob W2 w.heap.size #[.slice A1 l.length c1, .int .i64 q] 24 := by simpa using y2
  obtain ⟨g, o, hg, hA, hlc⟩ := rd_at (oy.rd (int_len .u32)) (by omega)
  refine wp_seqs (n := 5) rfl (by omega) (gf := 20) (lb := #[.pointer (some ⟨w1.heap.size, 0, none⟩)]) rfl trivial (enters_of Try.func20 (by kernel_rfl) rfl)
    (numbers1_seqs 4 (by omega) 1 l A1 c1 q w1.heap.size g o W2 hql hlen hbt hg (yt.blk.2.1 0 _ rfl) (yt.blk.2.1 1 _ rfl) hA hlc) (fun h k => h.trans k) (fun W r o o' hr _ _ _ => Keep2.put hbt hg W r o' hr) (Below.refl _ _) (fun _ => rfl)
    (fun k W => k = 0 ∧ Ob W w.heap.size #[.slice A1 l.length c1, .int .i64 q] 24 ∧ Ob W (w.heap.size + 1) #[.int .i64 n] 3 ∧ Ob W (w.heap.size + 1 + 1) #[.int .i64 0] 3 ∧ Ob W (w.heap.size + 1 + 1 + 1) #[.slice none 0 0, .int .i64 0] 24 ∧ Own (fun z : Int => [Value.int .u32 z]) 1 34 (w.heap.size + 1 + 1 + 1 + 1) W (.slice A1 l.length c1) l ∧ Below w.heap.size w W)
    (fun c k W => c = .ret ∧ Ob W (w.heap.size + 1 + 1) #[.int .i64 (val l q 0 % n)] 3 ∧ Ob W (w.heap.size + 1 + 1 + 1) #[.slice A1 l.length c1, .int .i64 (pos l q 1)] 24 ∧ Own (fun z : Int => [Value.int .u32 z]) 1 34 (w.heap.size + 1 + 1 + 1 + 1) W (.slice A1 l.length c1) l ∧ Below w.heap.size w W)
    (fun s A B row hs hg hr => ⟨hs.1, hs.2.1.turn hg (fun r e => (hr r e).2), hs.2.2.1.turn hg (fun r e => (hr r e).2), hs.2.2.2.1.turn hg (fun r e => (hr r e).2), hs.2.2.2.2.1.turn hg (fun r e => (hr r e).2), hs.2.2.2.2.2.1.turn hg (fun r e => (hr r e).2), hs.2.2.2.2.2.2.grown hg hs.2.2.2.2.2.2.size (fun k e => by have := (hr k e).1; omega)⟩)
    (fun c s A B row hs hg hr => ⟨hs.1, hs.2.1.turn hg (fun r e => (hr r e).2), hs.2.2.1.turn hg (fun r e => (hr r e).2), hs.2.2.2.1.turn hg (fun r e => (hr r e).2), hs.2.2.2.2.grown hg hs.2.2.2.2.size (fun k e => by have := (hr k e).1; omega)⟩)
    ⟨rfl, y2, y3, y4, y5, oy, by_⟩ (fun _ k W h => by have := h.1; omega)
    (fun k => { tmps := #[.agg #[.slice A l.length cap, .int .i64 p], .int .i64 n, .pointer (some ⟨w.heap.size, 0, none⟩), .pointer (some ⟨w.heap.size + 1, 0, none⟩), .pointer (some ⟨w.heap.size + 1 + 1, 0, none⟩), .pointer (some ⟨w.heap.size + 1 + 1 + 1, 0, none⟩), .int .u32 (val l q k), .int .i64 (pos l q (k + 1)), .agg #[.slice A l.length cap, .int .i64 p], .agg #[.slice A1 l.length c1, .int .i64 q], .int .i64 n, .bool false, undef, .agg #[.slice A1 l.length c1, .int .i64 q], .func (.func 20) #[] #[.pointer (some ⟨w1.heap.size, 0, none⟩)], .int .u32 (val l q k), .int .i64 (pos l q (k + 1)), undef, undef, undef, undef, undef, undef, undef, undef], defers := [] }) ?assign ?body ?done ?stop
  case assign =>
    intro r k W K hK
    dsimp only [strm]
    gi_wp2
    exact hK
  case body =>
    rintro r k W ⟨rfl, X2, X3, X4, X5, O, Bl⟩ _
    have t20 := X2.blk.2.1 0 _ rfl
    have t21 := X2.blk.2.1 1 _ rfl
    have t30 := X3.blk.2.1 0 _ rfl
    have t40 := X4.blk.2.1 0 _ rfl
    have t50 := X5.blk.2.1 0 _ rfl
    have t51 := X5.blk.2.1 1 _ rfl
    have f2 := X2.blk.2.2
    have f4 := X4.blk.2.2
    have f5 := X5.blk.2.2
    obtain ⟨v1, v2⟩ := val_in HLL.out q 0
    have ple := pos_le (l := l) q 1 hlen
    rw [Nat.zero_add]
    gi_wp2
    gi_region
    all_goals gi_wp2
    all_goals exact ⟨(((((KeepsOthers.setCell W _ _).trans (KeepsOthers.setCell _ _ _)).trans (KeepsOthers.setCell _ _ _)).trans (KeepsOthers.setCell _ _ _)).trans (KeepsOthers.drew _)).from _, rfl, ((((X4.far (p := w.heap.size) (j := 1) (by omega) (.int .i64 (pos l q 1))).set 0 (.int .i64 (val l q 0 % n))).far (p := w.heap.size + 1 + 1 + 1) (j := 0) (by omega) (.slice A1 l.length c1)).far (p := w.heap.size + 1 + 1 + 1) (j := 1) (by omega) (.int .i64 (pos l q 1))).drew, ((((X5.far (p := w.heap.size) (j := 1) (by omega) (.int .i64 (pos l q 1))).far (p := w.heap.size + 1 + 1) (j := 0) (by omega) (.int .i64 (val l q 0 % n))).set 0 (.slice A1 l.length c1)).set 1 (.int .i64 (pos l q 1))).drew, (Own.far (p := ⟨w.heap.size + 1 + 1 + 1, 1, none⟩) (Own.far (p := ⟨w.heap.size + 1 + 1 + 1, 0, none⟩) (Own.far (p := ⟨w.heap.size + 1 + 1, 0, none⟩) (Own.far (p := ⟨w.heap.size, 1, none⟩) O (fun j hj => by have := lo j hj; show j ≠ w.heap.size; omega) (.int .i64 (pos l q 1))) (fun j hj => by have := lo j hj; show j ≠ w.heap.size + 1 + 1; omega) (.int .i64 (val l q 0 % n))) (fun j hj => by have := lo j hj; show j ≠ w.heap.size + 1 + 1 + 1; omega) (.slice A1 l.length c1)) (fun j hj => by have := lo j hj; show j ≠ w.heap.size + 1 + 1 + 1; omega) (.int .i64 (pos l q 1))).drew, Gw.drew (Gw.st (Gw.st (Gw.st (Gw.st Bl (p := ⟨w.heap.size, 1, none⟩) (by show w.heap.size ≤ w.heap.size; omega) (.int .i64 (pos l q 1))) (p := ⟨w.heap.size + 1 + 1, 0, none⟩) (by show w.heap.size ≤ w.heap.size + 1 + 1; omega) (.int .i64 (val l q 0 % n))) (p := ⟨w.heap.size + 1 + 1 + 1, 0, none⟩) (by show w.heap.size ≤ w.heap.size + 1 + 1 + 1; omega) (.slice A1 l.length c1)) (p := ⟨w.heap.size + 1 + 1 + 1, 1, none⟩) (by show w.heap.size ≤ w.heap.size + 1 + 1 + 1; omega) (.int .i64 (pos l q 1)))⟩
  case done =>
    intro D W hD hf
    cases hf
  case stop =>
    rintro D c k W hD ⟨rfl, X4, X5, O, Bl⟩ hK
    have c4 := X4.blk.2.1 0 _ rfl
    have c50 := X5.blk.2.1 0 _ rfl
    have c51 := X5.blk.2.1 1 _ rfl
    gi_wp2
    have keep : ∀ {a : Addr} {v : Value}, W.cell? a = some v → (W.putObj D (.deferred none)).cell? a = some v := fun h => cell_kept h (grownBy_putObj' _ D (.deferred none)) (fun r e => by cases e; exact ⟨_, hK, rfl⟩)
    have d4 := keep c4
    have d50 := keep c50
    have d51 := keep c51
    refine ⟨by simp, .inl ⟨_, _, rfl, run_takeDeferred hK, ?_⟩⟩
    refine ⟨.tuple #[.int .i64 (val l q 0 % n), .agg #[.slice A1 l.length c1, .int .i64 (pos l q 1)]], by simp [results, Try.results9, go_sem, d4, d50, d51], ?_⟩
    rw [← HQ.out]
    exact ⟨A1, c1, rfl, (O.turn (grownBy_putObj' _ D (.deferred none)) (fun r e => by cases e; exact ⟨_, hK, rfl⟩)).base_le (by omega), Bl.grown (grownBy_putObj' _ D (.deferred none)) Bl.size (fun k e => by cases e; omega)⟩
end Go.Proofs.Ytbdipaooekiofaa
