/-
  SeenAny: the walk.
-/
import Derived.Test.YtfdppebbpcjhjaaTaken08
import Derived.Test.YtfdppebbpcjhjaaRows1
import Derived.Test.YtfdppebbpcjhjaaStep
import Derived.Test.YtfdppebbpcjhjaaObj
import Derived.Deep.RegionHeld3
import Derived.Deep.DeepCutAuto
namespace Go.Proofs.Ytfdppebbpcjhjaa
open Go.RowKit

theorem Try.infoInt8 : (Try.prog.info? 3).map (fun i => (i.zero, i.size, i.bytes)) = some (some (.int .i64 0), 1, 8) := by kernel_rfl
theorem Try.infoU328 : (Try.prog.info? 28).map (fun i => (i.zero, i.size, i.bytes)) = some (some (.int .u32 0), 1, 4) := by kernel_rfl
/-- which numbers from 0 to M are in l -/
def inV (M : Nat) (l : List Int) : List Value := (List.range (M + 1)).map fun (j : Nat) => .int .i64 (if (j : Int) ∈ l then 1 else 0)
theorem inV_len (M : Nat) (l : List Int) : (inV M l).length = M + 1 := by simp [inV]
theorem inV_nil (M : Nat) : inV M [] = List.replicate (M + 1) (.int .i64 0) := by
  simp [inV]
  rw [List.map_const', List.length_range]
theorem inV_at {M : Nat} {l : List Int} {n : Nat} (h : n ≤ M) : (inV M l)[n]? = some (.int .i64 (if (n : Int) ∈ l then 1 else 0)) := by
  simp [inV, show n < M + 1 by omega]
theorem inV_snoc (M : Nat) (l : List Int) (n : Nat) : inV M (l ++ [(n : Int)]) = (inV M l).set n (.int .i64 1) := by
  apply List.ext_getElem?
  intro j
  rw [List.getElem?_set]
  by_cases hj : j ≤ M
  · rw [inV_at hj, inV_at hj]
    by_cases hn : n = j
    · subst hn; simp [inV]; omega
    · have : ¬ ((j : Int) = (n : Int)) := by omega
      simp [hn, this]
  · rw [List.getElem?_eq_none (by rw [inV_len]; omega), List.getElem?_eq_none (by rw [inV_len]; omega)]
    by_cases hn : n = j
    · subst hn; simp [inV]; omega
    · simp [hn]

theorem nodup_snoc {l : List Int} {x : Int} (h : l.Nodup) (hx : x ∉ l) : (l ++ [x]).Nodup :=
  List.nodup_append.2 ⟨h, by simp, fun a ha b hb => by simp at hb; subst hb; intro e; exact hx (e ▸ ha)⟩
set_option maxRecDepth 100000 in
set_option maxHeartbeats 4000000 in
theorem any_any (inc t n : Int) (l : List Int) (A : Option Addr) (cap : Nat) (w : World) (hi : 0 ≤ inc ∧ inc ≤ 65535) (ht : 0 ≤ t ∧ t ≤ 255) (hn : 0 ≤ n ∧ n ≤ 255) (hl : ∀ x ∈ l, 0 ≤ x ∧ x ≤ 255)
    (hr : Rd (fun z : Int => [Value.int .u8 z]) 1 w.heap.size w A l) (hlc : l.length ≤ cap) (hcm : cap ≤ maxLen) :
    Calls Try.prog 3 #[.int .u16 inc, .slice A l.length cap, .int .u8 t, .int .u8 n] w fun e w' => e = .returned (.bool true) ∧ Below w.heap.size w w' := by
  unfold maxLen at hcm
  obtain ⟨i0, hi0, hz0, hz1, hz2⟩ := info_parts Try.infoInt8
  obtain ⟨j0, hj0, hy0, hy1, hy2⟩ := info_parts Try.infoU328
  have bb := Gw.al (Below.refl w.heap.size w) (.cells #[.int .u16 inc] 22)
  by_cases h0 : inc = 0
  · subst h0
    go_enter Try.func3, Try.ntmps3
    go_wp2_with (go_at_call 8; (with_reducible refine (awake_any _).mono ?_); rintro e w' ⟨rfl, hb⟩; have b1 := Gw.call bb hb)
    go_ret
    exact ⟨rfl, b1⟩
  · have h1 : 0 < inc := by omega
    have e0 : decide (inc = 0) = false := by simpa using h0
    obtain ⟨M, hM⟩ : ∃ M : Nat, 1 + n % 64 = M := ⟨(1 + n % 64).toNat, by omega⟩
    have hM1 : 1 ≤ M := by omega
    have hM2 : M ≤ 64 := by omega
    have WN := Lib.hid (win_any n hn)
    rw [hM] at WN
    have HLL := Lib.hid hl
    clear hl hM
    have bi := Blk.new w #[.int .u16 inc] 22
    go_enter Try.func3, Try.ntmps3
    go_wp2_with (first
      | (go_at_call 9; (with_reducible refine (WN.out _).mono ?_); rintro e w' ⟨rfl, rfl⟩)
      | (refine wpList_make_full _ rfl _ _ 26 rfl w.heap.size 3 i0 _ 1 Try.underlying26 hi0 hz0 hz1 _ _ _ _ (M + 1) rfl rfl (by omega) (by omega) (by rw [hz2]; omega) (by unfold maxLen; omega) (by simp; omega) ?_; intro w1 hown1 hg1))
    rw [made_one _ rfl] at hown1
    simp only [World.size_alloc] at hown1
    have row1 : Row1 w.heap.size 3 w1 (w.heap.size + 1 + 1) (inV M []) := by
      unfold Row1; rw [inV_nil]; simpa using hown1
    have bi1 := (bi.alloc (.cells #[.int .i64 M] 3)).call (Gw.none_ hg1)
    have bm1 := (Blk.new (w.alloc (.cells #[.int .u16 inc] 22)) #[.int .i64 M] 3).call (Gw.none_ hg1)
    have b1 := Gw.call (Gw.al bb (.cells #[.int .i64 M] 3)) (Gw.none_ hg1)
    have sz1 := row1.lt.2
    rw [World.size_alloc] at bm1
    clear hown1 hg1 bi bb
    go_loopw [11, 31] (fun ls i wr => ∃ (k : Nat) (acc : List Int) (P : Option Addr) (c : Nat), i = .int .i64 k ∧ k ≤ l.length ∧ ls = .slice P acc.length c ∧ Own (fun z : Int => [Value.int .u32 z]) 1 28 (w.heap.size + 3) wr (.slice P acc.length c) acc ∧ Row1 w.heap.size 3 wr (w.heap.size + 1 + 1) (inV M acc) ∧ Blk wr w.heap.size [.int .u16 inc] ∧ Blk wr (w.heap.size + 1) [.int .i64 M] ∧ Below w.heap.size w wr ∧ w.heap.size + 3 ≤ wr.heap.size ∧ Hid (acc.Nodup) ∧ Hid (∀ x ∈ acc, 1 ≤ x ∧ x ≤ (M : Int))) (fun _ i _ => l.length - (intOf i).toNat)
    case atStart => exact ⟨0, [], none, 0, rfl, Nat.zero_le _, rfl, Own.nil_, row1, bi1, bm1, b1, by omega, Lib.hid List.nodup_nil, Lib.hid (by simp)⟩
    case round =>
      obtain ⟨k, acc, P, c, rfl, hk, rfl, hown, hrow, hbi, hbm, hb, hsz, hnd, hrg⟩ := hrel
      have hroom := (nodup_room M acc hnd.out hrg.out).1
      have cm := hbm.c1
      by_cases hlt : k < l.length
      · obtain ⟨x, hx⟩ : ∃ x, l[k]? = some x := ⟨_, List.getElem?_eq_getElem hlt⟩
        have hx1 := HLL.out x (List.mem_of_getElem? hx)
        obtain ⟨q, hq⟩ : ∃ q : Nat, 1 + x % (M : Int) = q := ⟨(1 + x % (M : Int)).toNat, by have := Int.emod_nonneg x (b := (M : Int)) (by omega); omega⟩
        have hq1 : 1 ≤ q ∧ q ≤ M := by have := Int.emod_nonneg x (b := (M : Int)) (by omega); have := Int.emod_lt_of_pos x (b := (M : Int)) (by omega); omega
        obtain ⟨bb, o, rfl, hbb, cx⟩ := (hr.below hb).int1 hx
        have cq := hrow.cell (inV_at (l := acc) hq1.2)
        have hlen := inV_len M acc
        have fq := hrow.free q
        have hq2 : (q : Int) < (M : Int) + 1 := by omega
        have hM0 : (0 : Int) < M := by omega
        clear hx
        by_cases hin : (q : Int) ∈ acc
        · rw [if_pos hin] at cq
          clear hin
          go_wp2
          go_roundw
          case rel => exact ⟨k + 1, acc, P, c, by go_num, by omega, rfl, hown, hrow, hbi, hbm, hb, hsz, hnd, hrg⟩
          case measure => simp [intOf]; omega
        · rw [if_neg hin] at cq
          have row2 : Row1 w.heap.size 3 (wr.setCell ⟨w.heap.size + 1 + 1, q, none⟩ (.int .i64 1)) (w.heap.size + 1 + 1) (inV M (acc ++ [(q : Int)])) := by
            rw [inV_snoc]; exact hrow.set q _
          have own2 : Own (fun z : Int => [Value.int .u32 z]) 1 28 (w.heap.size + 3) (wr.setCell ⟨w.heap.size + 1 + 1, q, none⟩ (.int .i64 1)) (.slice P acc.length c) acc := hown.far (fun j hj => by have := (World.ownsRow.lt hown j hj).1; show j ≠ w.heap.size + 1 + 1; omega) _
          have bi2 := hbi.far (g' := w.heap.size + 1 + 1) (j := q) (by omega) (.int .i64 1)
          have bm2 := hbm.far (g' := w.heap.size + 1 + 1) (j := q) (by omega) (.int .i64 1)
          have b2 := Gw.st hb (p := ⟨w.heap.size + 1 + 1, q, none⟩) (show w.heap.size ≤ w.heap.size + 1 + 1 by omega) (.int .i64 1)
          have SZ2 := Lib.hid (Gw.setSize wr ⟨w.heap.size + 1 + 1, q, none⟩ (.int .i64 1))
          have ND := Lib.hid (nodup_snoc hnd.out hin)
          have RG : Hid (∀ x ∈ acc ++ [(q : Int)], 1 ≤ x ∧ x ≤ (M : Int)) := Lib.hid (fun y hy => by
            rcases List.mem_append.1 hy with h | h
            · exact hrg.out y h
            · simp at h; omega)
          have HL3 : Hid ((acc ++ [(q : Int)]).length = acc.length + 1) := Lib.hid (by simp)
          clear hin hown hrow
          go_wp2_with (at_builtin; refine wpList_app _ rfl _ _ 27 rfl (w.heap.size + 3) 28 j0 _ 4 Try.underlying27 hj0 hy0 hy1 hy2 rfl (by omega) (int_len .u32) (int_one .u32) _ acc rfl (own2.alloc _) acc.length rfl _ _ 1 1 [(q : Int)] rfl rfl (Rd.oneAt .u32 _ _ SZ2.out.symm q _) (by omega) (by omega) (by have := SZ2.out; rw [World.size_alloc]; omega) ?_; intro A' c' w4 hown4 hg4)
          have hlow : ∀ j, (Value.slice P acc.length c).ownBlock = some j → w.heap.size + 3 ≤ j := fun j hj => Own.lt own2 j hj
          go_roundw
          case rel => exact ⟨k + 1, acc ++ [(q : Int)], A', c', by go_num, by omega, by rw [HL3.out], by rw [HL3.out]; exact hown4, (row2.alloc _).keep hg4 (fun j hj => by have := hlow j hj; omega), (bi2.alloc _).grown hg4 (fun j hj => by have := hlow j hj; omega), (bm2.alloc _).grown hg4 (fun j hj => by have := hlow j hj; omega), Gw.gr (Gw.al b2 _) hg4 (fun j hj => by have := hlow j hj; omega), by have h7 := hg4.size; have h8 := SZ2.out; rw [World.size_alloc] at h7; omega, ND, RG⟩
          case measure => simp [intOf]; omega
      · obtain rfl : k = l.length := by omega
        have ci := hbi.c1
        have hmf : ∀ (fn : Fn) (first cap : Array Value) (w : World), (Instr.makeFunc fn first cap).run Try.prog w = .ok (.func fn first cap) w := fun _ _ _ _ => rfl
        obtain ⟨kt, hkt⟩ : ∃ kt : Nat, t % ((acc.length : Int) + 1) = kt := ⟨(t % ((acc.length : Int) + 1)).toNat, by have := Int.emod_nonneg t (b := (acc.length : Int) + 1) (by omega); omega⟩
        have hkt2 : kt ≤ acc.length := by have := Int.emod_lt_of_pos t (b := (acc.length : Int) + 1) (by omega); omega
        obtain ⟨P', cc, hPe, hcc⟩ := hown.len
        injection hPe with hP1 _ hP2
        subst hP1 hP2
        have TK := Lib.hid (taken_any acc P c inc M w.heap.size (w.heap.size + 1) wr (hown.rd (int_len .u32)) (by omega) ci cm hbi.lt hbm.lt h1 hi.2 (by omega) (by omega) hnd.out hrg.out)
        go_wp2_with fail
        refine (TK.out).mono ?_
        rintro e w2 ⟨rfl, hb2⟩
        have bi2 := hbi.call hb2
        have bm2 := hbm.call hb2
        have b2 := Gw.call hb hb2
        have own2 := Own.below hown hb2
        clear hbi hbm hb hb2 TK hrow hown
        obtain ⟨r, hr1⟩ : ∃ r, r = rowOf inc acc := ⟨_, rfl⟩
        rw [← hr1]
        have HR1 := Lib.hid hr1
        clear hr1 ci cm
        have row3 := Ob.new w2 #[.int .u16 r.i, .int .u32 r.p, .int .u64 r.b] 31
        have hperm : rowOf inc (acc.drop kt ++ acc.take kt) = rowOf inc acc := by
          have hp : List.Perm (acc.drop kt ++ acc.take kt) acc := (List.perm_append_comm).trans (by rw [List.take_append_drop])
          have g1 := good_row h1 hi.2 (w := M) (by omega) (by omega) acc hnd.out hrg.out acc.length
          have g2 := good_row h1 hi.2 (w := M) (by omega) (by omega) (acc.drop kt ++ acc.take kt) (hp.nodup_iff.2 hnd.out) (fun x hx => hrg.out x (hp.mem_iff.1 hx)) (acc.drop kt ++ acc.take kt).length
          rw [List.take_length] at g1 g2
          exact good_told g2 g1 (fun n => hp.mem_iff)
        have TK2 : Hid (∀ W A' c' n, n = acc.length → Rd (fun z : Int => [Value.int .u32 z]) 1 W.heap.size W A' (acc.drop kt ++ acc.take kt) → Blk W w.heap.size [.int .u16 inc] → Blk W (w.heap.size + 1) [.int .i64 M] → Calls Try.prog 10 #[.slice A' n c', .pointer (some ⟨w.heap.size, 0, none⟩), .pointer (some ⟨w.heap.size + 1, 0, none⟩)] W fun e w' => e = .returned (.tuple #[rwv r, .bool true]) ∧ Below W.heap.size W w') := Lib.hid (fun W A' c' n hn hrd x1 x2 => by
          have hp : List.Perm (acc.drop kt ++ acc.take kt) acc := (List.perm_append_comm).trans (by rw [List.take_append_drop])
          have := taken_any (acc.drop kt ++ acc.take kt) A' c' inc M w.heap.size (w.heap.size + 1) W hrd (by rw [hp.length_eq]; omega) x1.c1 x2.c1 x1.lt x2.lt h1 hi.2 (by omega) (by omega) (hp.nodup_iff.2 hnd.out) (fun x hx => hrg.out x (hp.mem_iff.1 hx))
          rw [hp.length_eq, ← hn, hperm, ← HR1.out] at this
          exact this)
        have d1 : (acc.drop kt).length = acc.length - kt := by simp
        have d2 : (acc.take kt).length = kt := by simp; omega
        have hk1 : (kt : Int) ≤ (acc.length : Int) := by omega
        have hk2 : (kt : Int) ≤ (c : Int) := by omega
        have hk3 : (0 : Int) ≤ (kt : Int) := by omega
        have bi3 := bi2.alloc (.cells #[.int .u16 r.i, .int .u32 r.p, .int .u64 r.b] 31)
        have bm3 := bm2.alloc (.cells #[.int .u16 r.i, .int .u32 r.p, .int .u64 r.b] 31)
        have b3 := Gw.al b2 (.cells #[.int .u16 r.i, .int .u32 r.p, .int .u64 r.b] 31)
        have own3 := own2.alloc (.cells #[.int .u16 r.i, .int .u32 r.p, .int .u64 r.b] 31)
        clear bi2 bm2 b2 own2 hperm
        go_upto_region 17 with fail
        obtain ⟨gr, hgr⟩ : ∃ gr, gr = w2.heap.size := ⟨_, rfl⟩
        rw [← hgr] at row3 ⊢
        generalize w2.alloc (.cells #[.int .u16 r.i, .int .u32 r.p, .int .u64 r.b] 31) = wa at *
        clear hgr
        have hp := Below.refl wa.heap.size wa
        go_cut [19, 20] (fun p q wx => ∃ g, p = .pointer (some ⟨g, 0, none⟩) ∧ q = .bool true ∧ Blk wx g (rowc r) ∧ Below wa.heap.size wa wx)
        case first =>
          go_region_held3 (fun W => True) (first | trivial) (first
            | ((with_reducible show Calls _ _ _ _ _); go_at_call 10; (with_reducible refine (TK2.out _ A6 c6 _ (by omega) (Own.rd (int_len .u32) (by first | exact hc2 | exact Own.alloc hc2 _)) (bi3.call (by first | exact hp | exact Gw.al hp _ | exact Gw.drew (Gw.al hp _) | exact Gw.drew (Gw.al (Gw.al hp _) _))) (bm3.call (by first | exact hp | exact Gw.al hp _ | exact Gw.drew (Gw.al hp _) | exact Gw.drew (Gw.al (Gw.al hp _) _)))).mono ?_); rintro e w6 ⟨rfl, hb⟩; (try have z := Ob.call (by first | exact z | exact Ob.alloc z _ | exact Ob.new _ #[.int .u16 0, .int .u32 0, .int .u64 0] _ | exact Ob.drew (Ob.new _ #[.int .u16 0, .int .u32 0, .int .u64 0] _) | exact Ob.drew (Ob.alloc (Ob.new _ #[.int .u16 0, .int .u32 0, .int .u64 0] _) _)) hb); (try simp only [World.size_alloc] at z); replace hp := Gw.call (by first | exact hp | exact Gw.al hp _ | exact Gw.drew (Gw.al hp _) | exact Gw.drew (Gw.al (Gw.al hp _) _)) hb; clear hb; (try (obtain ⟨zc0, zc1, zc2⟩ := Blk.c3 (show Blk w6 _ [.int .u16 0, .int .u32 0, .int .u64 0] from z.blk); have zf := z.blk.2.2; have zl := z.lt)); (try dsimp only))
            | (refine step_app rfl _ (.tmp 69) (.tmp 72) _ rfl wa.heap.size 28 j0 _ 4 Try.underlying27 hj0 hy0 hy1 hy2 rfl (by omega) (int_len .u32) (int_one .u32) _ ([] : List Int) rfl (by first | exact Own.drew (Own.litg _ _ (by simp) (by simp)) | exact Own.drew (Own.alloc (Own.litg _ _ (by simp) (by simp)) _)) 0 rfl _ _ _ _ (acc.drop kt) rfl (by simp) (Rd.cut1 (Rd.up (own3.rd (int_len .u32)) (by first | exact hp | exact Gw.al hp _ | exact Gw.drew (Gw.al hp _) | exact Gw.drew (Gw.al (Gw.al hp _) _))) hcc) (by omega) (by omega) (by first | (simp; done) | (simp; omega)) ?_; intro A5 c5 w5 hc hg; simp only [Nat.zero_add, List.nil_append] at hc ⊢; (try have z := Ob.app (by first | exact z | exact Ob.alloc z _ | exact Ob.new _ #[.int .u16 0, .int .u32 0, .int .u64 0] _ | exact Ob.drew (Ob.new _ #[.int .u16 0, .int .u32 0, .int .u64 0] _) | exact Ob.drew (Ob.alloc (Ob.new _ #[.int .u16 0, .int .u32 0, .int .u64 0] _) _)) (show Own (fun z : Int => [Value.int .u32 z]) 1 28 wa.heap.size _ (.slice (some ⟨_, 0, none⟩) 0 0) [] by first | exact Own.drew (Own.litg _ _ (by simp) (by simp)) | exact Own.drew (Own.alloc (Own.litg _ _ (by simp) (by simp)) _)) hg (by decide)); (try simp only [World.size_alloc] at z); replace hp := Gw.gr (by first | exact hp | exact Gw.al hp _ | exact Gw.drew (Gw.al hp _) | exact Gw.drew (Gw.al (Gw.al hp _) _)) hg (fun j hj => by have := own_blk hj; simp at this; omega); have s5 := hp.size; clear hg; (try dsimp only))
            | (refine step_app rfl _ (.tmp 73) (.tmp 76) _ rfl wa.heap.size 28 j0 _ 4 Try.underlying27 hj0 hy0 hy1 hy2 rfl (by omega) (int_len .u32) (int_one .u32) _ (acc.drop kt) rfl (by first | exact hc | exact Own.alloc hc _) (acc.length - kt) d1.symm _ _ _ _ (acc.take kt) rfl d2.symm (Rd.take (Rd.up (own3.rd (int_len .u32)) (by first | exact hp | exact Gw.al hp _ | exact Gw.drew (Gw.al hp _) | exact Gw.drew (Gw.al (Gw.al hp _) _))) kt) (by omega) (by omega) (by have := hp.size; first | (simp; omega) | omega) ?_; intro A6 c6 w7 hc2 hg; simp only [Nat.sub_add_cancel hkt2] at hc2 ⊢; (try have z := Ob.app (by first | exact z | exact Ob.alloc z _ | exact Ob.new _ #[.int .u16 0, .int .u32 0, .int .u64 0] _ | exact Ob.drew (Ob.new _ #[.int .u16 0, .int .u32 0, .int .u64 0] _) | exact Ob.drew (Ob.alloc (Ob.new _ #[.int .u16 0, .int .u32 0, .int .u64 0] _) _)) (by first | exact hc | exact Own.alloc hc _) hg (by decide)); have hlo := Own.lt hc; (try simp only [World.size_alloc] at z); replace hp := Gw.gr (by first | exact hp | exact Gw.al hp _ | exact Gw.drew (Gw.al hp _) | exact Gw.drew (Gw.al (Gw.al hp _) _)) hg hlo; have s7 := hp.size; clear hg; (try dsimp only))
            | fail)
          all_goals go_wp2_with fail
          all_goals (try (have hck : c = kt := by assumption
                          subst hck))
          all_goals go_meet
          all_goals first
            | exact ⟨_, rfl, rfl, Blk.new _ #[.int .u16 r.i, .int .u32 r.p, .int .u64 r.b] _, Gw.al hp _⟩
            | exact ⟨_, rfl, rfl, Blk.put3 (r := ⟨0, 0, 0⟩) z.blk _ _ _, Gw.st3 hp (by omega) _ _ _⟩
        case rest =>
          obtain ⟨g, rfl, rfl, bx, bw⟩ := hcut
          obtain ⟨x0, x1, x2⟩ := bx.rw3
          obtain ⟨y0, y1, y2⟩ := Blk.rw3 (r := r) (Ob.blk (row3.call bw))
          have cm := (bm3.call bw).c1
          have b4 := Gw.call b3 bw
          by_cases hfull : acc.length < M
          · go_wp2_with (go_at_call 8; (with_reducible refine (awake_any _).mono ?_); rintro e w9 ⟨rfl, hb⟩; have b9 := Gw.call b4 hb)
            go_ret
            exact ⟨rfl, b9⟩
          · have g1 := good_row h1 hi.2 (w := M) (by omega) (by omega) acc hnd.out hrg.out acc.length
            rw [List.take_length, ← HR1.out] at g1
            obtain ⟨f1, f2⟩ := good_full g1 hnd.out hrg.out (by omega)
            clear g1
            go_wp2_with (go_at_call 8; (with_reducible refine (awake_any _).mono ?_); rintro e w9 ⟨rfl, hb⟩; have b9 := Gw.call b4 hb)
            go_ret
            exact ⟨rfl, b9⟩
end Go.Proofs.Ytfdppebbpcjhjaa
