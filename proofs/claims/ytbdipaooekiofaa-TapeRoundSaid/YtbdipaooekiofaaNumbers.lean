/-
  tape.numbers: the iterator yields the numbers one by one, without end.
-/
import Derived.Test.YtbdipaooekiofaaSeqs
import Derived.Test.YtbdipaooekiofaaTape
import Derived.Sort.LoopGhostIn
namespace Go.Proofs.Ytbdipaooekiofaa
open Go.RowKit

/-- the place behind k numbers from place p on -/
def pos (l : List Int) (p k : Nat) : Nat := if l.length = 0 then 0 else (p + k) % l.length
theorem pos_zero {l : List Int} (h : l.length = 0) (p k : Nat) : pos l p k = 0 := by simp [pos, h]
theorem pos_lt {l : List Int} (h : 0 < l.length) (p k : Nat) : pos l p k < l.length := by unfold pos; rw [if_neg (by omega)]; exact Nat.mod_lt _ h
theorem pos_step {l : List Int} (h : 0 < l.length) (p k : Nat) : (pos l p k + 1) % l.length = pos l p (k + 1) := by
  unfold pos; rw [if_neg (by omega), if_neg (by omega)]; simp [Nat.add_assoc]
theorem pos_start {l : List Int} {p : Nat} (h : p < l.length ∨ p = 0) : pos l p 0 = p := by
  unfold pos
  split
  · omega
  · exact Nat.mod_eq_of_lt (by omega)
def val (l : List Int) (p k : Nat) : Int := l.getD (pos l p k) 0
def strm (l : List Int) (p : Nat) (k : Nat) : Array Value := #[.int .u32 (val l p k), .int .i64 (pos l p (k + 1))]
/-- two blocks are as they were -/
def Keep2 (a b : Nat) (W W' : World) : Prop := W'.heap[a]? = W.heap[a]? ∧ W'.heap[b]? = W.heap[b]?
theorem Keep2.trans {a b : Nat} {A B C : World} (h : Keep2 a b A B) (k : Keep2 a b B C) : Keep2 a b A C := ⟨k.1.trans h.1, k.2.trans h.2⟩
theorem Keep2.put {a b s : Nat} (ha : a < s) (hb : b < s) (W : World) (l : Nat) (o' : Obj) (hl : s ≤ l) : Keep2 a b W (W.putObj l o') := ⟨World.putObj_heap_other (by omega), World.putObj_heap_other (by omega)⟩

set_option maxRecDepth 100000 in
set_option maxHeartbeats 2000000 in
theorem numbers1_seqs (n : Nat) (hn : 1 ≤ n) (N : Nat) (l : List Int) (A : Option Addr) (c p Bt g o : Nat) (w : World) (hp : p < l.length ∨ p = 0) (hlen : l.length ≤ 1000000) (hBt : Bt < w.heap.size) (hg : g < w.heap.size)
    (c0 : w.cell? ⟨Bt, 0, none⟩ = some (.slice A l.length c)) (c1 : w.cell? ⟨Bt, 1, none⟩ = some (.int .i64 p)) (hA : 0 < l.length → A = some ⟨g, o, none⟩) (hl : ∀ j x, l[j]? = some x → w.cell? ⟨g, o + j, none⟩ = some (.int .u32 x)) :
    Seqs Fence.wide n Try.prog 20 #[.pointer (some ⟨Bt, 0, none⟩)] (strm l p) (Keep2 Bt g) N true w := fun r J Jx W hW hJ hJx hinf hY h0 => by
  have hfin := hinf rfl
  have C0 := Lib.hid c0
  have C1 := Lib.hid c1
  have HL := Lib.hid hl
  have e0 := (hW.cell (p := ⟨Bt, 0, none⟩) hBt).trans c0
  have e1 := (hW.cell (p := ⟨Bt, 1, none⟩) hBt).trans c1
  have k0 : Keep2 Bt g w W := ⟨hW.block Bt hBt, hW.block g hg⟩
  clear c0 c1 hl hinf
  refine callsIn_of_wp Try.func20 rfl trivial ?_ rfl
  simp only [Try.ntmps20, List.size_toArray, List.length_cons, List.length_nil, Nat.reduceAdd, Nat.reduceSub, Array.replicate_succ, Array.replicate_zero, List.push_toArray, List.append_toArray, List.nil_append, List.cons_append]
  gi_wp2
  clear e0 e1
  gi_loopg [3] N (fun k q wr => ∃ j : Nat, q = .int .i64 (pos l p j) ∧ J j wr ∧ k = N - j ∧ Keep2 Bt g w wr)
  case atStart => exact ⟨0, by rw [pos_start hp], h0, rfl, k0⟩
  case round =>
    obtain ⟨j, rfl, hj, hgk, hkp⟩ := hrel
    have hjN := hfin j wr hj
    have e0 := (World.cell?_of_block (a := ⟨Bt, 0, none⟩) hkp.1).trans C0.out
    obtain ⟨fn, tmps, assign, body, hy, hR⟩ := hY j wr hj hjN
    by_cases hz : l.length = 0
    · have es : strm l p j = #[.int .u32 0, .int .i64 0] := by
        have : l = [] := List.length_eq_zero_iff.1 hz
        subst this
        simp [strm, val, pos]
      rw [es] at hy
      have ep := pos_zero hz p j
      have ep2 := pos_zero hz p (j + 1)
      rw [ep]
      rw [hz] at e0
      have HZ := Lib.hid hz
      have EP := Lib.hid ep2
      clear es hz ep ep2
      gi_wp2
      refine hR.mono ?_
      rintro e W3 (⟨rfl, hJ3, hk3⟩ | ⟨rfl, hJx3⟩)
      · gi_wp2
        gi_roundg (N - (j + 1))
        case measure => omega
        case rel => exact ⟨j + 1, by rw [EP.out]; rfl, hJ3, rfl, hkp.trans hk3⟩
      · gi_wp2
        refine bodyPost_ret (results_none rfl _ _ _) rfl ?_
        exact ⟨⟨_, rfl⟩, .inr ⟨_, hJx3⟩⟩
    · have hlp : 0 < l.length := by omega
      have hq := pos_lt hlp p j
      have hq2 := pos_lt hlp p (j + 1)
      have hst := pos_step hlp p j
      obtain rfl := hA hlp
      obtain ⟨x, hx⟩ : ∃ x, l[pos l p j]? = some x := ⟨_, List.getElem?_eq_getElem hq⟩
      have hv : val l p j = x := by unfold val; rw [List.getD_eq_getElem?_getD, hx]; rfl
      have cx := (World.cell?_of_block (a := ⟨g, o + pos l p j, none⟩) hkp.2).trans (HL.out _ x hx)
      have es : strm l p j = #[.int .u32 x, .int .i64 (pos l p (j + 1))] := by unfold strm; rw [hv]
      rw [es] at hy
      obtain ⟨q, hqe⟩ : ∃ q, q = pos l p j := ⟨_, rfl⟩
      obtain ⟨q', hqe'⟩ : ∃ q', q' = pos l p (j + 1) := ⟨_, rfl⟩
      rw [← hqe] at hq hst cx ⊢
      rw [← hqe'] at hq2 hst hy
      have hmi : ((q : Int) + 1) % (l.length : Int) = (q' : Int) := by rw [← hst]; simp
      have HQ := Lib.hid hqe'
      have hl0 : (0 : Int) < l.length := by omega
      have hqi : (q : Int) < l.length := by omega
      clear es hv hx hst hqe hqe' hz
      gi_wp2
      refine hR.mono ?_
      rintro e W3 (⟨rfl, hJ3, hk3⟩ | ⟨rfl, hJx3⟩)
      · gi_wp2
        gi_roundg (N - (j + 1))
        case measure => omega
        case rel => exact ⟨j + 1, by rw [← HQ.out], hJ3, rfl, hkp.trans hk3⟩
      · gi_wp2
        refine bodyPost_ret (results_none rfl _ _ _) rfl ?_
        exact ⟨⟨_, rfl⟩, .inr ⟨_, hJx3⟩⟩
end Go.Proofs.Ytbdipaooekiofaa
