/-
  digest.known: the iterator yields the rows of which something is seen, with their places, by rising places.
-/
import Derived.Test.YthockpallaoelaaSeqs
import Derived.Test.YthockpallaoelaaKnown
import Derived.Test.YthockpallaoelaaObj
import Derived.Sort.LoopGhostIn
namespace Go.Proofs.Ythockpallaoelaa
open Go.RowKit
/-- two blocks are as they were -/
def Keep2 (a b : Nat) (W W' : World) : Prop := W'.heap[a]? = W.heap[a]? ∧ W'.heap[b]? = W.heap[b]?
theorem Keep2.trans {a b : Nat} {A B C : World} (h : Keep2 a b A B) (k : Keep2 a b B C) : Keep2 a b A C := ⟨k.1.trans h.1, k.2.trans h.2⟩
theorem Keep2.put {a b s : Nat} (ha : a < s) (hb : b < s) (W : World) (l : Nat) (o' : Obj) (hl : s ≤ l) : Keep2 a b W (W.putObj l o') := ⟨World.putObj_heap_other (by omega), World.putObj_heap_other (by omega)⟩
theorem heap_lt_of {W W' : World} {a : Nat} (h : W'.heap[a]? = W.heap[a]?) (ha : a < W.heap.size) : a < W'.heap.size := by
  rw [Array.getElem?_eq_getElem ha] at h
  exact (Array.getElem?_eq_some_iff.1 h).1
theorem Keep2.al {a b : Nat} {W : World} (ha : a < W.heap.size) (hb : b < W.heap.size) (o : Obj) : Keep2 a b W (W.alloc o) := ⟨Below.heap_alloc W o a ha, Below.heap_alloc W o b hb⟩
def strmK (rows : List Rw) (k : Nat) : Array Value := #[.int .u8 (((kn rows)[k]?.getD (0, ⟨0, 0, 0⟩)).1 : Nat), rwv ((kn rows)[k]?.getD (0, ⟨0, 0, 0⟩)).2]
theorem strmK_at {rows : List Rw} {k : Nat} {r : Rw} (h : rows[k]? = some r) (hr : 0 < r.i) : strmK rows (kn (rows.take k)).length = #[.int .u8 (k : Nat), rwv r] := by
  unfold strmK; rw [kn_at h hr]; rfl
theorem kn_take_all (rows : List Rw) : (kn (rows.take rows.length)).length = (kn rows).length := by rw [List.take_length]
theorem kn_take_lt {rows : List Rw} {k : Nat} {r : Rw} (h : rows[k]? = some r) (hr : 0 < r.i) : (kn (rows.take k)).length < (kn rows).length := (List.getElem?_eq_some_iff.1 (kn_at h hr)).1

set_option maxRecDepth 100000 in
set_option maxHeartbeats 2000000 in
theorem known1_seqs (n : Nat) (hn : 1 ≤ n) (rows : List Rw) (A : Option Addr) (c Bt g o : Nat) (w : World) (hlen : rows.length ≤ 256) (hBt : Bt < w.heap.size) (hg : g < w.heap.size)
    (c0 : w.cell? ⟨Bt, 0, none⟩ = some (.slice A rows.length c)) (hA : 0 < rows.length → A = some ⟨g, o, none⟩) (hl : ∀ (k : Nat) (x : Rw), rows[k]? = some x → ∀ (j : Nat) (c : Value), (rowc x)[j]? = some c → w.cell? ⟨g, o + k * 3 + j, none⟩ = some c) :
    Seqs Fence.wide n Try.prog 41 #[.pointer (some ⟨Bt, 0, none⟩)] (strmK rows) (Keep2 Bt g) (kn rows).length false w := fun r J Jx W hW hJ hJx hinf hY h0 => by
  have e0 := (hW.cell (p := ⟨Bt, 0, none⟩) hBt).trans c0
  have k0 : Keep2 Bt g w W := ⟨hW.block Bt hBt, hW.block g hg⟩
  have HL := Lib.hid hl
  clear c0 hl hinf
  refine callsIn_of_wp Try.func41 rfl trivial ?_ rfl
  simp only [Try.ntmps41, List.size_toArray, List.length_cons, List.length_nil, Nat.reduceAdd, Nat.reduceSub, Array.replicate_succ, Array.replicate_zero, List.push_toArray, List.append_toArray, List.nil_append, List.cons_append]
  gi_wp2
  clear e0
  gi_loopg [7] rows.length (fun m q wr => ∃ j : Nat, j ≤ rows.length ∧ q = .int .i64 j ∧ m = rows.length - j ∧ J (kn (rows.take j)).length wr ∧ Keep2 Bt g w wr)
  case atStart => exact ⟨0, Nat.zero_le _, rfl, rfl, h0, k0⟩
  case round =>
    obtain ⟨j, hj, rfl, hgk, hJj, hkp⟩ := hrel
    by_cases hlt : j < rows.length
    · obtain ⟨r, hx⟩ : ∃ r, rows[j]? = some r := ⟨_, List.getElem?_eq_getElem hlt⟩
      obtain rfl := hA (by omega)
      have q0 := (World.cell?_of_block (a := ⟨g, o + j * 3, none⟩) hkp.2).trans (HL.out j r hx 0 _ rfl)
      have q1 := (World.cell?_of_block (a := ⟨g, o + j * 3 + 1, none⟩) hkp.2).trans (HL.out j r hx 1 _ rfl)
      have q2 := (World.cell?_of_block (a := ⟨g, o + j * 3 + 2, none⟩) hkp.2).trans (HL.out j r hx 2 _ rfl)
      have h255 : ¬ (255 : Int) < (j : Int) := by omega
      have kal := hkp.trans (Keep2.al (heap_lt_of hkp.1 hBt) (heap_lt_of hkp.2 hg) (.cells #[.int .u16 r.i, .int .u32 r.p, .int .u64 r.b] 34))
      have Jal := hJ _ _ _ none hJj (World.grownBy_alloc wr (.cells #[.int .u16 r.i, .int .u32 r.p, .int .u64 r.b] 34) none) (fun _ e => by cases e)
      have HX := Lib.hid hx
      by_cases hr : 0 < r.i
      · obtain ⟨fn, tmps, assign, body, hy, hR⟩ := hY _ _ Jal (kn_take_lt hx hr)
        rw [strmK_at hx hr] at hy
        have KY := Lib.hid (kn_yes hx hr)
        clear hx
        gi_wp2
        refine hR.mono ?_
        rintro e W3 (⟨rfl, hJ3, hk3⟩ | ⟨rfl, hJx3⟩)
        · gi_wp2
          gi_roundg (rows.length - (j + 1))
          case measure => omega
          case rel => exact ⟨j + 1, hlt, by go_num, rfl, by rw [KY.out, List.length_append]; exact hJ3, kal.trans hk3⟩
        · gi_wp2
          refine bodyPost_ret (results_none rfl _ _ _) rfl ?_
          exact ⟨⟨_, rfl⟩, .inr ⟨_, hJx3⟩⟩
      · have KN := Lib.hid (kn_no hx hr)
        clear hx
        gi_wp2
        refine ⟨(fun f h => by cases h), ?_⟩
        gi_wp2
        gi_roundg (rows.length - (j + 1))
        case measure => omega
        case rel => exact ⟨j + 1, hlt, by go_num, rfl, by rw [KN.out]; exact Jal, kal⟩
    · obtain rfl : j = rows.length := by omega
      gi_wp2
      refine bodyPost_end (results_none rfl _ _ _) rfl ?_
      refine ⟨⟨_, rfl⟩, .inl ⟨trivial, ?_⟩⟩
      rw [← kn_take_all]; exact hJj
end Go.Proofs.Ythockpallaoelaa
