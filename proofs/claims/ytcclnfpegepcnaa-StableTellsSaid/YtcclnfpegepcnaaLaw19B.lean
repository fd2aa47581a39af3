/-
  StableOwn (19).
-/
import Derived.Test.YtcclnfpegepcnaaLaw19A
import Derived.Test.YtcclnfpegepcnaaFlatRow
import Derived.Test.YtcclnfpegepcnaaOwnPut
namespace Go.Proofs.Ytcclnfpegepcnaa
open Go.RowKit
theorem of_blank (n j s : Nat) (h : s < n) : ofL (List.replicate n (blank n)) j s = ⟨(s : Int), 0, 0⟩ := by
  by_cases hj : j < n
  · exact of_at (by rw [List.getElem?_replicate, if_pos hj]) (blank_at h)
  · exact of_out (by simp; omega)
theorem own_stable {T : List (List Id)} {M : List Mb} {R : List Rw} {s : Nat} {r : Rw} {x : Id} (hr : R[s]? = some r) (hx : x.n = (s : Int)) (hs : M[s]? = some ⟨1, 1, 0⟩) (ho : ∀ (j : Nat) (mb : Mb), M[j]? = some mb → ¬j = s → mb = ⟨0, 0, 0⟩) :
    stableB T M (s : Int) R x = passedB ⟨(s : Int), r.i, r.p⟩ x := by
  have hr' : R[x.n.toNat]? = some r := by rw [hx]; exact hr
  have hl : lagB s ⟨1, 1, 0⟩ (s : Int) r T x = !passedB ⟨(s : Int), r.i, r.p⟩ x := by
    unfold lagB; rw [if_neg (by simp), if_pos rfl, hx]
  cases hp : passedB ⟨(s : Int), r.i, r.p⟩ x
  · exact stable_lag hr' hs (by rw [hl, hp]; rfl)
  · refine stable_yes hr' fun j mb hm => ?_
    by_cases hj : j = s
    · subst hj
      obtain rfl := Option.some.inj (hs.symm.trans hm)
      rw [hl, hp]; rfl
    · rw [ho j mb hm hj]; unfold lagB; rw [if_pos (Or.inl rfl)]
theorem other_lags {T : List (List Id)} {s o : Nat} {r : Rw} {i q : Int} (hos : ¬o = s) (h : ∀ j, ofL T j s = ⟨(s : Int), 0, 0⟩) (hi : 0 < i) : lagB o ⟨4, 2, 0⟩ (s : Int) r T ⟨(s : Int), i, q⟩ = true := by
  unfold lagB
  rw [if_neg (by simp), if_neg (by omega)]
  simp only [Int.toNat_natCast, h]
  simp only [passedB, Bool.not_eq_true', decide_eq_false_iff_not]
  omega
theorem Try.infoRow19 : (Try.prog.info? 44).map (fun i => (i.zero, i.size, i.bytes)) = some (some (.agg #[.int .u16 0, .int .u32 0, .int .u64 0]), 3, 16) := by kernel_rfl
theorem zeroes_row (n : Nat) : (List.replicate n (⟨0, 0, 0⟩ : Rw)).flatMap rowc = (madeCells (Value.agg #[.int .u16 0, .int .u32 0, .int .u64 0]).cells (n * 3)).toList := by
  apply List.ext_getElem?
  intro j
  by_cases hj : j < n * 3
  · have hk : j / 3 < n := by omega
    have h1 := flat_at rowc_len (List.replicate n (⟨0, 0, 0⟩ : Rw)) (j / 3) ⟨0, 0, 0⟩ (by rw [List.getElem?_replicate, if_pos hk]) (j % 3) (by omega)
    rw [show j / 3 * 3 + j % 3 = j by omega] at h1
    rw [h1]
    unfold madeCells
    rw [Array.toList_map, List.getElem?_map, Array.toList_range, List.getElem?_range hj]
    have : j % 3 = 0 ∨ j % 3 = 1 ∨ j % 3 = 2 := by omega
    rcases this with h | h | h <;> simp [rowc, Value.cells, h]
  · rw [List.getElem?_eq_none (by rw [flat_len rowc_len, List.length_replicate]; omega), List.getElem?_eq_none (by unfold madeCells; simp; omega)]
theorem zeroes_mb (n : Nat) : (List.replicate n (⟨0, 0, 0⟩ : Mb)).flatMap memc = (madeCells (Value.agg #[.int .u16 0, .int .u8 0, .int .u8 0]).cells (n * 3)).toList := by
  apply List.ext_getElem?
  intro j
  by_cases hj : j < n * 3
  · have hk : j / 3 < n := by omega
    have h1 := flat_at memc_len (List.replicate n (⟨0, 0, 0⟩ : Mb)) (j / 3) ⟨0, 0, 0⟩ (by rw [List.getElem?_replicate, if_pos hk]) (j % 3) (by omega)
    rw [show j / 3 * 3 + j % 3 = j by omega] at h1
    rw [h1]
    unfold madeCells
    rw [Array.toList_map, List.getElem?_map, Array.toList_range, List.getElem?_range hj]
    have : j % 3 = 0 ∨ j % 3 = 1 ∨ j % 3 = 2 := by omega
    rcases this with h | h | h <;> simp [memc, Value.cells, h]
  · rw [List.getElem?_eq_none (by rw [flat_len memc_len, List.length_replicate]; omega), List.getElem?_eq_none (by unfold madeCells; simp; omega)]
theorem own_put_row {E : TypeId} {base g n c : Nat} {w : World} {l : List Rw} (o : Own rowc 3 E base w (.slice (some ⟨g, 0, none⟩) n c) l) {k : Nat} {x : Rw} (hx : l[k]? = some x) (y : Rw) :
    Own rowc 3 E base (((w.setCell ⟨g, k * 3, none⟩ (.int .u16 y.i)).setCell ⟨g, k * 3 + 1, none⟩ (.int .u32 y.p)).setCell ⟨g, k * 3 + 2, none⟩ (.int .u64 y.b)) (.slice (some ⟨g, 0, none⟩) n c) (l.set k y) := by
  have hlt : k < l.length := (List.getElem?_eq_some_iff.1 hx).1
  have p0 := Own.put1 rowc_len o hx (j := 0) (by omega) ⟨y.i, x.p, x.b⟩ (.int .u16 y.i) rfl
  rw [Nat.add_zero] at p0
  have p1 := Own.put1 rowc_len p0 (k := k) (x := ⟨y.i, x.p, x.b⟩) (by simp [hlt]) (j := 1) (by omega) ⟨y.i, y.p, x.b⟩ (.int .u32 y.p) rfl
  have p2 := Own.put1 rowc_len p1 (k := k) (x := ⟨y.i, y.p, x.b⟩) (by simp [hlt]) (j := 2) (by omega) ⟨y.i, y.p, y.b⟩ (.int .u64 y.b) rfl
  simp only [List.set_set] at p2
  exact p2
theorem own_put_mem {E : TypeId} {base g n c : Nat} {w : World} {l : List Mb} (o : Own memc 3 E base w (.slice (some ⟨g, 0, none⟩) n c) l) {k : Nat} {x : Mb} (hx : l[k]? = some x) (y : Mb) :
    Own memc 3 E base (((w.setCell ⟨g, k * 3, none⟩ (.int .u16 y.i)).setCell ⟨g, k * 3 + 1, none⟩ (.int .u8 y.s)).setCell ⟨g, k * 3 + 2, none⟩ (.int .u8 y.q)) (.slice (some ⟨g, 0, none⟩) n c) (l.set k y) := by
  have hlt : k < l.length := (List.getElem?_eq_some_iff.1 hx).1
  have p0 := Own.put1 memc_len o hx (j := 0) (by omega) ⟨y.i, x.s, x.q⟩ (.int .u16 y.i) rfl
  rw [Nat.add_zero] at p0
  have p1 := Own.put1 memc_len p0 (k := k) (x := ⟨y.i, x.s, x.q⟩) (by simp [hlt]) (j := 1) (by omega) ⟨y.i, y.s, x.q⟩ (.int .u8 y.s) rfl
  have p2 := Own.put1 memc_len p1 (k := k) (x := ⟨y.i, y.s, x.q⟩) (by simp [hlt]) (j := 2) (by omega) ⟨y.i, y.s, y.q⟩ (.int .u8 y.q) rfl
  simp only [List.set_set] at p2
  exact p2
set_option maxRecDepth 100000 in
set_option maxHeartbeats 8000000 in
theorem sown_any (nodes self other : Int) (r : Rw) (x : Id) (w : World) (hn : 0 ≤ nodes ∧ nodes ≤ 255) (hself : 0 ≤ self ∧ self ≤ 255) (hoth : 0 ≤ other ∧ other ≤ 255) (hx : x.ok) :
    Calls Try.prog 5 #[.int .u8 nodes, .int .u8 self, rwv r, idv x, .int .u8 other] w fun e w' => e = .returned (.bool true) ∧ Below w.heap.size w w' := by
  obtain ⟨i0, hi0, hz0, hz1, hz2⟩ := info_parts Try.infoRow19
  obtain ⟨i1, hi1, hy0, hy1, hy2⟩ := info_parts Try.infoMem
  obtain ⟨nn, hnn⟩ : ∃ nn : Nat, 2 + nodes % 11 = (nn : Int) := ⟨(2 + nodes % 11).toNat, by omega⟩
  have nn2 : 2 ≤ nn := by omega
  have nn12 : nn ≤ 12 := by omega
  obtain ⟨s, hs⟩ : ∃ s : Nat, self.tmod (nn : Int) = (s : Int) := ⟨(self.tmod nn).toNat, by rw [Int.toNat_of_nonneg (Int.tmod_nonneg _ hself.1)]⟩
  have hsn : s < nn := by have := Int.tmod_lt_of_pos self (b := (nn : Int)) (by omega); omega
  obtain ⟨n1, hn1⟩ : ∃ n1 : Nat, (nn : Int) - 1 = (n1 : Int) := ⟨nn - 1, by omega⟩
  obtain ⟨p, hp⟩ : ∃ p : Nat, other.tmod (n1 : Int) = (p : Int) := ⟨(other.tmod n1).toNat, by rw [Int.toNat_of_nonneg (Int.tmod_nonneg _ hoth.1)]⟩
  have hpn : p < n1 := by have := Int.tmod_lt_of_pos other (b := (n1 : Int)) (by omega); omega
  obtain ⟨o, ho⟩ : ∃ o : Nat, ((s : Int) + 1 + (p : Int)).tmod (nn : Int) = (o : Int) := ⟨(((s : Int) + 1 + (p : Int)).tmod nn).toNat, by rw [Int.toNat_of_nonneg (Int.tmod_nonneg _ (by omega))]⟩
  have hon : o < nn := by have := Int.tmod_lt_of_pos ((s : Int) + 1 + (p : Int)) (b := (nn : Int)) (by omega); omega
  have hos : ¬o = s := by
    have h1 : ((s : Int) + 1 + (p : Int)) % (nn : Int) = (o : Int) := by rw [← ho, Int.tmod_eq_emod_of_nonneg (by omega)]
    intro h
    subst h
    rcases Nat.lt_or_ge (o + 1 + p) nn with h2 | h2
    · rw [Int.emod_eq_of_lt (by omega) (by omega)] at h1; omega
    · have h3 : ((o : Int) + 1 + (p : Int)) % (nn : Int) = (o : Int) + 1 + (p : Int) - (nn : Int) := by
        rw [← Int.sub_emod_right, Int.emod_eq_of_lt (by omega) (by omega)]
      omega
  have nz : ((nn : Int) == 0) = false := by rw [beq_eq_false_iff_ne]; omega
  have n1z : ((n1 : Int) == 0) = false := by rw [beq_eq_false_iff_ne]; omega
  have HOS := Lib.hid hos
  have HXOK := Lib.hid hx
  obtain ⟨⟨x0, x1⟩, ⟨x2, x3⟩, x4, x5⟩ := hx
  have oR := (Ob.new w #[.int .u16 r.i, .int .u32 r.p, .int .u64 r.b] 44).alloc (.cells #[.int .u8 x.n, .int .u16 x.i, .int .u32 x.s] 28)
  have oX := Ob.new (w.alloc (.cells #[.int .u16 r.i, .int .u32 r.p, .int .u64 r.b] 44)) #[.int .u8 x.n, .int .u16 x.i, .int .u32 x.s] 28
  simp only [World.size_alloc] at oX
  have b0 := Gw.al (Gw.al (Below.refl w.heap.size w) (.cells #[.int .u16 r.i, .int .u32 r.p, .int .u64 r.b] 44)) (.cells #[.int .u8 x.n, .int .u16 x.i, .int .u32 x.s] 28)
  have hsi : (s : Int) < (nn : Int) := by omega
  have hoi : (o : Int) < (nn : Int) := by omega
  have ws : IntKind.u8.wrap (s : Int) = (s : Int) := IntWalk.u8_in _ (by omega)
  have wn : IntKind.u8.wrap (nn : Int) = (nn : Int) := IntWalk.u8_in _ (by omega)
  clear hos x0 x1
  go_enter Try.func5, Try.ntmps5
  go_upto_region 4 with fail
  generalize hw2 : (w.alloc (.cells #[.int .u16 r.i, .int .u32 r.p, .int .u64 r.b] 44)).alloc (.cells #[.int .u8 x.n, .int .u16 x.i, .int .u32 x.s] 28) = w2 at *
  have hw2s : w2.heap.size = w.heap.size + 1 + 1 := by rw [← hw2, World.size_alloc, World.size_alloc]
  have HW2 := Lib.hid hw2s
  clear hw2s hw2 hn hself hoth hnn hs hn1 hp ho hpn
  go_upto_region 5 with (first | (at_make; refine wpList_make_full _ rfl _ _ 24 rfl w2.heap.size 44 i0 _ 3 Try.underlying24 hi0 hz0 hz1 _ _ _ _ nn rfl rfl rfl rfl (by rw [hz2]; omega) (by unfold maxLen; omega) (Nat.le_refl _) ?_; intro w3 hown3 hg3) | fail)
  have o3 : Own rowc 3 44 w2.heap.size w3 (.slice (some ⟨w2.heap.size, 0, none⟩) nn nn) (List.replicate nn ⟨0, 0, 0⟩) := by unfold Own; rw [List.length_replicate]; show World.ownsRow _ _ _ _ _ _ ((List.replicate nn (⟨0, 0, 0⟩ : Rw)).flatMap rowc); rw [zeroes_row]; exact hown3
  have g3 := Gw.none_ hg3
  replace oR := oR.call g3
  replace oX := oX.call g3
  replace b0 := Gw.call b0 g3
  have hat : (List.replicate nn (⟨0, 0, 0⟩ : Rw))[s]? = some ⟨0, 0, 0⟩ := by rw [List.getElem?_replicate, if_pos hsn]
  have f3 := fun j => Own.free o3 j
  have e0 := Own.at_ rowc_len o3 hat (j := 0) rfl
  have e1 := Own.at_ rowc_len o3 hat (j := 1) rfl
  have e2 := Own.at_ rowc_len o3 hat (j := 2) rfl
  rw [Nat.add_zero] at e0
  have k0 := oR.blk.2.1 0 _ rfl
  have k1 := oR.blk.2.1 1 _ rfl
  have k2 := oR.blk.2.1 2 _ rfl
  have o4 := own_put_row o3 hat r
  have hR2 : w.heap.size ≠ w2.heap.size := by have := HW2.out; omega
  have hX2 : w.heap.size + 1 ≠ w2.heap.size := by have := HW2.out; omega
  have oR4 := ((oR.far hR2 (p := w2.heap.size) (j := s * 3) (.int .u16 r.i)).far hR2 (j := s * 3 + 1) (.int .u32 r.p)).far hR2 (j := s * 3 + 2) (.int .u64 r.b)
  have oX4 := ((oX.far hX2 (p := w2.heap.size) (j := s * 3) (.int .u16 r.i)).far hX2 (j := s * 3 + 1) (.int .u32 r.p)).far hX2 (j := s * 3 + 2) (.int .u64 r.b)
  have b4 := Gw.st (Gw.st (Gw.st b0 (p := ⟨w2.heap.size, s * 3, none⟩) (by show w.heap.size ≤ w2.heap.size; have := HW2.out; omega) (.int .u16 r.i)) (p := ⟨w2.heap.size, s * 3 + 1, none⟩) (by show w.heap.size ≤ w2.heap.size; have := HW2.out; omega) (.int .u32 r.p)) (p := ⟨w2.heap.size, s * 3 + 2, none⟩) (by show w.heap.size ≤ w2.heap.size; have := HW2.out; omega) (.int .u64 r.b)
  clear hown3 hg3 g3
  go_upto_region 6 with fail
  clear e0 e1 e2 k0 k1 k2 f3 o3 oR oX b0 hat
  generalize ((w3.setCell ⟨w2.heap.size, s * 3, none⟩ (.int .u16 r.i)).setCell ⟨w2.heap.size, s * 3 + 1, none⟩ (.int .u32 r.p)).setCell ⟨w2.heap.size, s * 3 + 2, none⟩ (.int .u64 r.b) = w4 at *
  have h24 : w2.heap.size < w4.heap.size := by obtain ⟨_, _, cur, ho, _⟩ := Own.row o4; exact ho.lt
  go_upto_region 7 with (first | (at_make; refine wpList_make_full _ rfl _ _ 23 rfl w4.heap.size 39 i1 _ 3 Try.underlying23 hi1 hy0 hy1 _ _ _ _ nn rfl rfl rfl rfl (by rw [hy2]; omega) (by unfold maxLen; omega) (Nat.le_refl _) ?_; intro w5 hown5 hg5) | fail)
  have o5 : Own memc 3 39 w4.heap.size w5 (.slice (some ⟨w4.heap.size, 0, none⟩) nn nn) (List.replicate nn ⟨0, 0, 0⟩) := by unfold Own; rw [List.length_replicate]; show World.ownsRow _ _ _ _ _ _ ((List.replicate nn (⟨0, 0, 0⟩ : Mb)).flatMap memc); rw [zeroes_mb]; exact hown5
  have g5 := Gw.none_ hg5
  replace oR4 := oR4.call g5
  replace oX4 := oX4.call g5
  replace o4 := Own.below o4 g5
  replace b4 := Gw.call b4 g5
  have hat5 : (List.replicate nn (⟨0, 0, 0⟩ : Mb))[s]? = some ⟨0, 0, 0⟩ := by rw [List.getElem?_replicate, if_pos hsn]
  have f5 := fun j => Own.free o5 j
  have e0 := Own.at_ memc_len o5 hat5 (j := 0) rfl
  have e1 := Own.at_ memc_len o5 hat5 (j := 1) rfl
  have e2 := Own.at_ memc_len o5 hat5 (j := 2) rfl
  rw [Nat.add_zero] at e0
  have o6 := own_put_mem o5 hat5 ⟨1, 1, 0⟩
  have hR4 : w.heap.size ≠ w4.heap.size := by have := HW2.out; omega
  have hX4 : w.heap.size + 1 ≠ w4.heap.size := by have := HW2.out; omega
  have oR6 := ((oR4.far hR4 (p := w4.heap.size) (j := s * 3) (.int .u16 1)).far hR4 (j := s * 3 + 1) (.int .u8 1)).far hR4 (j := s * 3 + 2) (.int .u8 0)
  have oX6 := ((oX4.far hX4 (p := w4.heap.size) (j := s * 3) (.int .u16 1)).far hX4 (j := s * 3 + 1) (.int .u8 1)).far hX4 (j := s * 3 + 2) (.int .u8 0)
  have hfar4 : ∀ k, (Value.slice (some ⟨w2.heap.size, 0, none⟩) nn nn).ownBlock = some k → k ≠ w4.heap.size := fun k hk => by have := own_blk hk; simp only at this; have := HW2.out; omega
  have o46 := Own.far (Own.far (Own.far o4 (p := ⟨w4.heap.size, s * 3, none⟩) hfar4 (.int .u16 1)) (p := ⟨w4.heap.size, s * 3 + 1, none⟩) hfar4 (.int .u8 1)) (p := ⟨w4.heap.size, s * 3 + 2, none⟩) hfar4 (.int .u8 0)
  have b6 := Gw.st (Gw.st (Gw.st b4 (p := ⟨w4.heap.size, s * 3, none⟩) (by show w.heap.size ≤ w4.heap.size; have := HW2.out; omega) (.int .u16 1)) (p := ⟨w4.heap.size, s * 3 + 1, none⟩) (by show w.heap.size ≤ w4.heap.size; have := HW2.out; omega) (.int .u8 1)) (p := ⟨w4.heap.size, s * 3 + 2, none⟩) (by show w.heap.size ≤ w4.heap.size; have := HW2.out; omega) (.int .u8 0)
  clear hown5 hg5 g5
  go_upto_region 8 with fail
  clear e0 e1 e2 f5 o5 oR4 oX4 b4 hat5 o4
  generalize ((w5.setCell ⟨w4.heap.size, s * 3, none⟩ (.int .u16 1)).setCell ⟨w4.heap.size, s * 3 + 1, none⟩ (.int .u8 1)).setCell ⟨w4.heap.size, s * 3 + 2, none⟩ (.int .u8 0) = w6 at *
  have k0 := oX6.blk.2.1 0 _ rfl
  have k8 := oX6.blk.2.2
  have oX7 : Ob (w6.setCell ⟨w.heap.size + 1, 0, none⟩ (.int .u8 (s : Int))) (w.heap.size + 1) #[.int .u8 (s : Int), .int .u16 x.i, .int .u32 x.s] 28 := oX6.set 0 (.int .u8 (s : Int))
  have oR7 := oR6.far (p := w.heap.size + 1) (j := 0) (by have := HW2.out; omega) (.int .u8 (s : Int))
  have hf7 : ∀ g, g ≠ w.heap.size + 1 → ∀ k, (Value.slice (some ⟨g, 0, none⟩) nn nn).ownBlock = some k → k ≠ w.heap.size + 1 := fun g hg k hk => by have := own_blk hk; simp only at this; have := HW2.out; omega
  have oA := Own.far o46 (p := ⟨w.heap.size + 1, 0, none⟩) (hf7 _ (by have := HW2.out; omega)) (.int .u8 (s : Int))
  have oM := Own.far o6 (p := ⟨w.heap.size + 1, 0, none⟩) (hf7 _ (by have := HW2.out; omega)) (.int .u8 (s : Int))
  have b7 := Gw.st b6 (p := ⟨w.heap.size + 1, 0, none⟩) (by show w.heap.size ≤ w.heap.size + 1; have := HW2.out; omega) (.int .u8 (s : Int))
  go_upto_region 9 with fail
  clear k0 k8 oX6 oR6 o46 o6 b6 hfar4 hf7
  generalize w6.setCell ⟨w.heap.size + 1, 0, none⟩ (.int .u8 (s : Int)) = w7 at *
  have k1 := oX7.blk.2.1 1 _ rfl
  by_cases hxi : x.i = 0
  · have t1 : (x.i == 0) = true := by simp [hxi]
    clear hxi
    go_wp2_with fail
    refine (awake_any _).mono ?_
    rintro e w9 ⟨rfl, hb⟩
    go_wp2_with fail
    go_ret
    exact ⟨rfl, Gw.call b7 hb⟩
  have t1 : (x.i == 0) = false := by rw [beq_eq_false_iff_ne]; exact hxi
  have HXI := Lib.hid hxi
  clear hxi
  go_wp2_with fail
  have hlt7 : w4.heap.size < w7.heap.size := by
    obtain ⟨_, _, cur, ho, _⟩ := Own.row oM
    exact ho.lt
  refine (new_any nn _ (by omega)).mono ?_
  rintro e w8 ⟨A8, c8, rfl, xt, hb⟩
  replace xt := xt.base_le (B := w4.heap.size + 1) hlt7
  replace oX7 := oX7.call hb
  replace oR7 := oR7.call hb
  replace oA := Own.below oA hb
  replace oM := Own.below oM hb
  replace b7 := Gw.call b7 hb
  clear hb k1
  go_upto_region 12 with fail
  have R1s : Hid (((List.replicate nn (⟨0, 0, 0⟩ : Rw)).set s r)[s]? = some r) := Lib.hid (List.getElem?_set_self (by simpa using hsn))
  have M1s : Hid (((List.replicate nn (⟨0, 0, 0⟩ : Mb)).set s ⟨1, 1, 0⟩)[s]? = some ⟨1, 1, 0⟩) := Lib.hid (List.getElem?_set_self (by simpa using hsn))
  have M1o : Hid (∀ (j : Nat) (mb : Mb), ((List.replicate nn (⟨0, 0, 0⟩ : Mb)).set s ⟨1, 1, 0⟩)[j]? = some mb → ¬j = s → mb = ⟨0, 0, 0⟩) := Lib.hid (fun j mb h hne => by
    rw [List.getElem?_set_ne (fun h => hne h.symm)] at h
    exact List.eq_of_mem_replicate (List.mem_of_getElem? h))
  have M1t : Hid (((List.replicate nn (⟨0, 0, 0⟩ : Mb)).set s ⟨1, 1, 0⟩)[o]? = some ⟨0, 0, 0⟩) := Lib.hid (by
    rw [List.getElem?_set_ne (fun h => HOS.out h.symm), List.getElem?_replicate, if_pos hon])
  have R1l : Hid (((List.replicate nn (⟨0, 0, 0⟩ : Rw)).set s r).length = nn) := Lib.hid (by simp)
  have M1l : Hid (((List.replicate nn (⟨0, 0, 0⟩ : Mb)).set s ⟨1, 1, 0⟩).length = nn) := Lib.hid (by simp)
  obtain ⟨R1, hR1⟩ : ∃ R1, R1 = (List.replicate nn (⟨0, 0, 0⟩ : Rw)).set s r := ⟨_, rfl⟩
  obtain ⟨M1, hM1⟩ : ∃ M1, M1 = (List.replicate nn (⟨0, 0, 0⟩ : Mb)).set s ⟨1, 1, 0⟩ := ⟨_, rfl⟩
  rw [← hR1] at oA R1s R1l
  rw [← hM1] at oM M1s M1o M1t M1l
  clear hR1 hM1
  have TL : Hid ((List.replicate nn (blank nn)).length = nn) := Lib.hid (by simp)
  have T0 : Hid (∀ j, ofL (List.replicate nn (blank nn)) j s = ⟨(s : Int), 0, 0⟩) := Lib.hid (fun j => of_blank nn j s hsn)
  obtain ⟨T, hT⟩ : ∃ T, T = List.replicate nn (blank nn) := ⟨_, rfl⟩
  rw [← hT] at xt TL T0
  clear hT
  have XOK : Hid ((⟨(s : Int), x.i, x.s⟩ : Id).ok) := Lib.hid ⟨⟨by simp, by simp; omega⟩, HXOK.out.2.1, HXOK.out.2.2⟩
  have PA := Lib.hid (own_stable (T := T) (x := (⟨(s : Int), x.i, x.s⟩ : Id)) R1s.out rfl M1s.out M1o.out)
  have CST := Lib.hid (fun W h1 h2 h3 => stable_any T M1 (s : Int) R1 ⟨(s : Int), x.i, x.s⟩ A8 (some ⟨w4.heap.size, 0, none⟩) (some ⟨w2.heap.size, 0, none⟩) c8 nn nn nn nn nn W TL.out M1l.out R1l.out h1 h2 h3 (by omega) XOK.out (by omega) (by omega))
  rw [PA.out] at CST
  go_cut [82] (fun v wx => v = .bool false ∧ Below w8.heap.size w8 wx)
  case first =>
    have HB : Hid (∀ W, Below w8.heap.size w8 W → (fun W : World => W.cell? ⟨w.heap.size, 0, none⟩ = some (.int .u16 r.i) ∧ W.cell? ⟨w.heap.size, 1, none⟩ = some (.int .u32 r.p) ∧ W.cell? ⟨w.heap.size + 1, 0, none⟩ = some (.int .u8 (s : Int)) ∧ W.cell? ⟨w.heap.size + 1, 1, none⟩ = some (.int .u16 x.i) ∧ W.cell? ⟨w.heap.size + 1, 2, none⟩ = some (.int .u32 x.s)) W) := Lib.hid fun W hb => ⟨(oR7.call hb).blk.2.1 0 _ rfl, (oR7.call hb).blk.2.1 1 _ rfl, (oX7.call hb).blk.2.1 0 _ rfl, (oX7.call hb).blk.2.1 1 _ rfl, (oX7.call hb).blk.2.1 2 _ rfl⟩
    have bq := Below.refl w8.heap.size w8
    unfold passedB at CST
    simp only at CST
    by_cases h1 : x.i < r.i
    · have q1 : decide (x.i < r.i) = true := by simp [h1]
      rw [show decide (x.i < r.i ∨ r.i = x.i ∧ x.s ≤ r.p) = true by simp [h1]] at CST
      clear h1
      refine wp_region_held_drew (S := fun W : World => W.cell? ⟨w.heap.size, 0, none⟩ = some (.int .u16 r.i) ∧ W.cell? ⟨w.heap.size, 1, none⟩ = some (.int .u32 r.p) ∧ W.cell? ⟨w.heap.size + 1, 0, none⟩ = some (.int .u8 (s : Int)) ∧ W.cell? ⟨w.heap.size + 1, 1, none⟩ = some (.int .u16 x.i) ∧ W.cell? ⟨w.heap.size + 1, 2, none⟩ = some (.int .u32 x.s)) (by kernel_rfl) (HB.out _ (Below.drew bq)) (fun hHeld => ?_)
      refine take_d (i := 0) (oi := _) (v := ?_) (d := some 56) rfl (by kernel_rfl) (by as_aux_lemma => kernel_rfl) (by as_aux_lemma => kernel_rfl) (by as_aux_lemma => kernel_rfl) (fun _ _ _ h => h) (Or.inl ⟨by kernel_rfl, ?_⟩) hHeld ?_
      rotate_left
      · intro w hSw; (try dsimp only at hSw); go_simp; (try with_reducible rfl)
      try simp only [Act.put, List.setIfInBounds_toArray, List.set_cons_zero, List.set_cons_succ]
      refine take_d (i := 1) (oi := _) (v := ?_) (d := some 57) rfl (by kernel_rfl) (by as_aux_lemma => kernel_rfl) (by as_aux_lemma => kernel_rfl) (by as_aux_lemma => kernel_rfl) (fun _ _ _ h => h) (Or.inl ⟨by kernel_rfl, ?_⟩) hHeld ?_
      rotate_left
      · intro w hSw; (try dsimp only at hSw); go_simp; (try with_reducible rfl)
      try simp only [Act.put, List.setIfInBounds_toArray, List.set_cons_zero, List.set_cons_succ]
      refine take_d (i := 2) (oi := _) (v := ?_) (d := some 58) rfl (by kernel_rfl) (by as_aux_lemma => kernel_rfl) (by as_aux_lemma => kernel_rfl) (by as_aux_lemma => kernel_rfl) (fun _ _ _ h => h) (Or.inl ⟨by kernel_rfl, ?_⟩) hHeld ?_
      rotate_left
      · intro w hSw; (try dsimp only at hSw); go_simp; (try with_reducible rfl)
      try simp only [Act.put, List.setIfInBounds_toArray, List.set_cons_zero, List.set_cons_succ]
      refine take_d (i := 3) (oi := _) (v := ?_) (d := some 59) rfl (by kernel_rfl) (by as_aux_lemma => kernel_rfl) (by as_aux_lemma => kernel_rfl) (by as_aux_lemma => kernel_rfl) (fun _ _ _ h => h) (Or.inl ⟨by kernel_rfl, ?_⟩) hHeld ?_
      rotate_left
      · intro w hSw; (try dsimp only at hSw); go_simp; (try with_reducible rfl)
      try simp only [Act.put, List.setIfInBounds_toArray, List.set_cons_zero, List.set_cons_succ]
      refine take_d (i := 4) (oi := _) (v := ?_) (d := some 60) rfl (by kernel_rfl) (by as_aux_lemma => kernel_rfl) (by as_aux_lemma => kernel_rfl) (by as_aux_lemma => kernel_rfl) (fun _ _ _ h => h) (Or.inl ⟨by kernel_rfl, ?_⟩) hHeld ?_
      rotate_left
      · intro w hSw; (try dsimp only at hSw); go_simp; (try with_reducible rfl)
      try simp only [Act.put, List.setIfInBounds_toArray, List.set_cons_zero, List.set_cons_succ]
      refine take_d (i := 5) (oi := _) (v := ?_) (d := some 61) rfl (by kernel_rfl) (by as_aux_lemma => kernel_rfl) (by as_aux_lemma => kernel_rfl) (by as_aux_lemma => kernel_rfl) (fun _ _ _ h => h) (Or.inl ⟨by kernel_rfl, ?_⟩) hHeld ?_
      rotate_left
      · intro w hSw; (try dsimp only at hSw); go_simp; (try with_reducible rfl)
      try simp only [Act.put, List.setIfInBounds_toArray, List.set_cons_zero, List.set_cons_succ]
      refine take_d (i := 7) (oi := _) (v := ?_) (d := some 63) rfl (by kernel_rfl) (by as_aux_lemma => kernel_rfl) (by as_aux_lemma => kernel_rfl) (by as_aux_lemma => kernel_rfl) (fun _ _ _ h => h) (Or.inl ⟨by kernel_rfl, ?_⟩) hHeld ?_
      rotate_left
      · intro w hSw; (try dsimp only at hSw); go_simp; (try with_reducible rfl)
      try simp only [Act.put, List.setIfInBounds_toArray, List.set_cons_zero, List.set_cons_succ]
      refine take_d (i := 8) (oi := _) (v := ?_) (d := some 64) rfl (by kernel_rfl) (by as_aux_lemma => kernel_rfl) (by as_aux_lemma => kernel_rfl) (by as_aux_lemma => kernel_rfl) (fun _ _ _ h => h) (Or.inl ⟨by kernel_rfl, ?_⟩) hHeld ?_
      rotate_left
      · intro w hSw; (try dsimp only at hSw); go_simp; (try with_reducible rfl)
      try simp only [Act.put, List.setIfInBounds_toArray, List.set_cons_zero, List.set_cons_succ]
      refine take_d (i := 9) (oi := _) (v := ?_) (d := some 65) rfl (by kernel_rfl) (by as_aux_lemma => kernel_rfl) (by as_aux_lemma => kernel_rfl) (by as_aux_lemma => kernel_rfl) (fun _ _ _ h => h) (Or.inl ⟨by kernel_rfl, ?_⟩) hHeld ?_
      rotate_left
      · intro w hSw; (try dsimp only at hSw); go_simp; (try with_reducible rfl)
      try simp only [Act.put, List.setIfInBounds_toArray, List.set_cons_zero, List.set_cons_succ]
      refine take_d (i := 10) (oi := _) (v := ?_) (d := some 66) rfl (by kernel_rfl) (by as_aux_lemma => kernel_rfl) (by as_aux_lemma => kernel_rfl) (by as_aux_lemma => kernel_rfl) (fun _ _ _ h => h) (Or.inl ⟨by kernel_rfl, ?_⟩) hHeld ?_
      rotate_left
      · intro w hSw; (try dsimp only at hSw); go_simp; (try with_reducible rfl)
      try simp only [Act.put, List.setIfInBounds_toArray, List.set_cons_zero, List.set_cons_succ]
      refine take_d (i := 11) (oi := _) (v := .bool true) (d := some 67) rfl (by kernel_rfl) (by as_aux_lemma => kernel_rfl) (by as_aux_lemma => kernel_rfl) (by as_aux_lemma => kernel_rfl) (fun _ _ _ h => h) (Or.inl ⟨by kernel_rfl, ?_⟩) hHeld ?_
      · intro W hSw
        go_simp; first | done | simp only [q1] | simp [q1]
      try simp only [Act.put, List.setIfInBounds_toArray, List.set_cons_zero, List.set_cons_succ]
      refine wpAnyH_ready (rs := [6]) (by kernel_rfl) (by simp) ?_
      refine AllReadyH.cons rfl (fun K hK => ?_) AllReadyH.nil
      go_simp
      refine (CST.out _ (xt.rd.up (by first | exact bq | exact Below.drew bq)) ((oM.rd memc_len).up (by first | exact bq | exact Below.drew bq)) ((oA.rd rowc_len).up (by first | exact bq | exact Below.drew bq))).mono ?_
      rintro e u1 ⟨rfl, hb⟩
      replace bq := (by first | exact Gw.call bq hb | exact Gw.call (Below.drew bq) hb)
      clear hb
      dsimp only
      refine hK.out _ _ (HB.out _ bq) (fun hHeld => ?_)
      clear hK K
      try simp only [Act.put, List.setIfInBounds_toArray, List.set_cons_zero, List.set_cons_succ]
      refine take_d (i := 12) (oi := _) (v := ?_) (d := some 68) rfl (by kernel_rfl) (by as_aux_lemma => kernel_rfl) (by as_aux_lemma => kernel_rfl) (by as_aux_lemma => kernel_rfl) (fun _ _ _ h => h) (Or.inl ⟨by kernel_rfl, ?_⟩) hHeld ?_
      rotate_left
      · intro w hSw; (try dsimp only at hSw); go_simp; (try with_reducible rfl)
      try simp only [Act.put, List.setIfInBounds_toArray, List.set_cons_zero, List.set_cons_succ]
      refine take_d (i := 13) (oi := _) (v := undef) (d := some 69) rfl (by kernel_rfl) (by as_aux_lemma => kernel_rfl) (by as_aux_lemma => kernel_rfl) (by as_aux_lemma => kernel_rfl) (fun _ _ _ h => h) (Or.inr ⟨by kernel_rfl, rfl⟩) hHeld ?_
      try simp only [Act.put, List.setIfInBounds_toArray, List.set_cons_zero, List.set_cons_succ]
      refine take_d (i := 14) (oi := _) (v := undef) (d := some 70) rfl (by kernel_rfl) (by as_aux_lemma => kernel_rfl) (by as_aux_lemma => kernel_rfl) (by as_aux_lemma => kernel_rfl) (fun _ _ _ h => h) (Or.inr ⟨by kernel_rfl, rfl⟩) hHeld ?_
      try simp only [Act.put, List.setIfInBounds_toArray, List.set_cons_zero, List.set_cons_succ]
      refine take_d (i := 15) (oi := _) (v := undef) (d := some 71) rfl (by kernel_rfl) (by as_aux_lemma => kernel_rfl) (by as_aux_lemma => kernel_rfl) (by as_aux_lemma => kernel_rfl) (fun _ _ _ h => h) (Or.inr ⟨by kernel_rfl, rfl⟩) hHeld ?_
      try simp only [Act.put, List.setIfInBounds_toArray, List.set_cons_zero, List.set_cons_succ]
      refine take_d (i := 16) (oi := _) (v := undef) (d := some 72) rfl (by kernel_rfl) (by as_aux_lemma => kernel_rfl) (by as_aux_lemma => kernel_rfl) (by as_aux_lemma => kernel_rfl) (fun _ _ _ h => h) (Or.inr ⟨by kernel_rfl, rfl⟩) hHeld ?_
      try simp only [Act.put, List.setIfInBounds_toArray, List.set_cons_zero, List.set_cons_succ]
      refine take_d (i := 17) (oi := _) (v := undef) (d := some 73) rfl (by kernel_rfl) (by as_aux_lemma => kernel_rfl) (by as_aux_lemma => kernel_rfl) (by as_aux_lemma => kernel_rfl) (fun _ _ _ h => h) (Or.inr ⟨by kernel_rfl, rfl⟩) hHeld ?_
      try simp only [Act.put, List.setIfInBounds_toArray, List.set_cons_zero, List.set_cons_succ]
      refine take_d (i := 18) (oi := _) (v := undef) (d := some 74) rfl (by kernel_rfl) (by as_aux_lemma => kernel_rfl) (by as_aux_lemma => kernel_rfl) (by as_aux_lemma => kernel_rfl) (fun _ _ _ h => h) (Or.inr ⟨by kernel_rfl, rfl⟩) hHeld ?_
      try simp only [Act.put, List.setIfInBounds_toArray, List.set_cons_zero, List.set_cons_succ]
      refine take_d (i := 19) (oi := _) (v := undef) (d := some 75) rfl (by kernel_rfl) (by as_aux_lemma => kernel_rfl) (by as_aux_lemma => kernel_rfl) (by as_aux_lemma => kernel_rfl) (fun _ _ _ h => h) (Or.inr ⟨by kernel_rfl, rfl⟩) hHeld ?_
      try simp only [Act.put, List.setIfInBounds_toArray, List.set_cons_zero, List.set_cons_succ]
      refine take_d (i := 20) (oi := _) (v := undef) (d := some 76) rfl (by kernel_rfl) (by as_aux_lemma => kernel_rfl) (by as_aux_lemma => kernel_rfl) (by as_aux_lemma => kernel_rfl) (fun _ _ _ h => h) (Or.inr ⟨by kernel_rfl, rfl⟩) hHeld ?_
      try simp only [Act.put, List.setIfInBounds_toArray, List.set_cons_zero, List.set_cons_succ]
      refine take_d (i := 21) (oi := _) (v := undef) (d := some 77) rfl (by kernel_rfl) (by as_aux_lemma => kernel_rfl) (by as_aux_lemma => kernel_rfl) (by as_aux_lemma => kernel_rfl) (fun _ _ _ h => h) (Or.inr ⟨by kernel_rfl, rfl⟩) hHeld ?_
      try simp only [Act.put, List.setIfInBounds_toArray, List.set_cons_zero, List.set_cons_succ]
      refine take_d (i := 22) (oi := _) (v := undef) (d := some 78) rfl (by kernel_rfl) (by as_aux_lemma => kernel_rfl) (by as_aux_lemma => kernel_rfl) (by as_aux_lemma => kernel_rfl) (fun _ _ _ h => h) (Or.inr ⟨by kernel_rfl, rfl⟩) hHeld ?_
      try simp only [Act.put, List.setIfInBounds_toArray, List.set_cons_zero, List.set_cons_succ]
      refine take_d (i := 23) (oi := _) (v := undef) (d := some 79) rfl (by kernel_rfl) (by as_aux_lemma => kernel_rfl) (by as_aux_lemma => kernel_rfl) (by as_aux_lemma => kernel_rfl) (fun _ _ _ h => h) (Or.inr ⟨by kernel_rfl, rfl⟩) hHeld ?_
      try simp only [Act.put, List.setIfInBounds_toArray, List.set_cons_zero, List.set_cons_succ]
      refine take_d (i := 24) (oi := _) (v := undef) (d := some 80) rfl (by kernel_rfl) (by as_aux_lemma => kernel_rfl) (by as_aux_lemma => kernel_rfl) (by as_aux_lemma => kernel_rfl) (fun _ _ _ h => h) (Or.inr ⟨by kernel_rfl, rfl⟩) hHeld ?_
      try simp only [Act.put, List.setIfInBounds_toArray, List.set_cons_zero, List.set_cons_succ]
      refine take_d (i := 25) (oi := _) (v := ?_) (d := some 81) rfl (by kernel_rfl) (by as_aux_lemma => kernel_rfl) (by as_aux_lemma => kernel_rfl) (by as_aux_lemma => kernel_rfl) (fun _ _ _ h => h) (Or.inl ⟨by kernel_rfl, ?_⟩) hHeld ?_
      rotate_left
      · intro w hSw; (try dsimp only at hSw); go_simp; (try with_reducible rfl)
      try simp only [Act.put, List.setIfInBounds_toArray, List.set_cons_zero, List.set_cons_succ]
      refine take_d (i := 26) (oi := _) (v := ?_) (d := some 82) rfl (by kernel_rfl) (by as_aux_lemma => kernel_rfl) (by as_aux_lemma => kernel_rfl) (by as_aux_lemma => kernel_rfl) (fun _ _ _ h => h) (Or.inl ⟨by kernel_rfl, ?_⟩) hHeld ?_
      rotate_left
      · intro w hSw; (try dsimp only at hSw); go_simp; (try with_reducible rfl)
      try simp only [Act.put, List.setIfInBounds_toArray, List.set_cons_zero, List.set_cons_succ]
      refine wpAnyH_done (by kernel_rfl) ?_ _
      go_wp2_with fail
      go_meet
      exact ⟨rfl, bq⟩
    have q1 : decide (x.i < r.i) = false := by simp; omega
    by_cases h2 : r.i = x.i
    · have q2 : (r.i == x.i) = true := by simp [h2]
      rw [show decide (x.i < r.i ∨ r.i = x.i ∧ x.s ≤ r.p) = decide (x.s ≤ r.p) by simp [h2]] at CST
      clear h1 h2
      generalize hpb : decide (x.s ≤ r.p) = pb at CST
      refine wp_region_held_drew (S := fun W : World => W.cell? ⟨w.heap.size, 0, none⟩ = some (.int .u16 r.i) ∧ W.cell? ⟨w.heap.size, 1, none⟩ = some (.int .u32 r.p) ∧ W.cell? ⟨w.heap.size + 1, 0, none⟩ = some (.int .u8 (s : Int)) ∧ W.cell? ⟨w.heap.size + 1, 1, none⟩ = some (.int .u16 x.i) ∧ W.cell? ⟨w.heap.size + 1, 2, none⟩ = some (.int .u32 x.s)) (by kernel_rfl) (HB.out _ (Below.drew bq)) (fun hHeld => ?_)
      refine take_d (i := 0) (oi := _) (v := ?_) (d := some 56) rfl (by kernel_rfl) (by as_aux_lemma => kernel_rfl) (by as_aux_lemma => kernel_rfl) (by as_aux_lemma => kernel_rfl) (fun _ _ _ h => h) (Or.inl ⟨by kernel_rfl, ?_⟩) hHeld ?_
      rotate_left
      · intro w hSw; (try dsimp only at hSw); go_simp; (try with_reducible rfl)
      try simp only [Act.put, List.setIfInBounds_toArray, List.set_cons_zero, List.set_cons_succ]
      refine take_d (i := 1) (oi := _) (v := ?_) (d := some 57) rfl (by kernel_rfl) (by as_aux_lemma => kernel_rfl) (by as_aux_lemma => kernel_rfl) (by as_aux_lemma => kernel_rfl) (fun _ _ _ h => h) (Or.inl ⟨by kernel_rfl, ?_⟩) hHeld ?_
      rotate_left
      · intro w hSw; (try dsimp only at hSw); go_simp; (try with_reducible rfl)
      try simp only [Act.put, List.setIfInBounds_toArray, List.set_cons_zero, List.set_cons_succ]
      refine take_d (i := 2) (oi := _) (v := ?_) (d := some 58) rfl (by kernel_rfl) (by as_aux_lemma => kernel_rfl) (by as_aux_lemma => kernel_rfl) (by as_aux_lemma => kernel_rfl) (fun _ _ _ h => h) (Or.inl ⟨by kernel_rfl, ?_⟩) hHeld ?_
      rotate_left
      · intro w hSw; (try dsimp only at hSw); go_simp; (try with_reducible rfl)
      try simp only [Act.put, List.setIfInBounds_toArray, List.set_cons_zero, List.set_cons_succ]
      refine take_d (i := 3) (oi := _) (v := ?_) (d := some 59) rfl (by kernel_rfl) (by as_aux_lemma => kernel_rfl) (by as_aux_lemma => kernel_rfl) (by as_aux_lemma => kernel_rfl) (fun _ _ _ h => h) (Or.inl ⟨by kernel_rfl, ?_⟩) hHeld ?_
      rotate_left
      · intro w hSw; (try dsimp only at hSw); go_simp; (try with_reducible rfl)
      try simp only [Act.put, List.setIfInBounds_toArray, List.set_cons_zero, List.set_cons_succ]
      refine take_d (i := 4) (oi := _) (v := ?_) (d := some 60) rfl (by kernel_rfl) (by as_aux_lemma => kernel_rfl) (by as_aux_lemma => kernel_rfl) (by as_aux_lemma => kernel_rfl) (fun _ _ _ h => h) (Or.inl ⟨by kernel_rfl, ?_⟩) hHeld ?_
      rotate_left
      · intro w hSw; (try dsimp only at hSw); go_simp; (try with_reducible rfl)
      try simp only [Act.put, List.setIfInBounds_toArray, List.set_cons_zero, List.set_cons_succ]
      refine take_d (i := 5) (oi := _) (v := ?_) (d := some 61) rfl (by kernel_rfl) (by as_aux_lemma => kernel_rfl) (by as_aux_lemma => kernel_rfl) (by as_aux_lemma => kernel_rfl) (fun _ _ _ h => h) (Or.inl ⟨by kernel_rfl, ?_⟩) hHeld ?_
      rotate_left
      · intro w hSw; (try dsimp only at hSw); go_simp; (try with_reducible rfl)
      try simp only [Act.put, List.setIfInBounds_toArray, List.set_cons_zero, List.set_cons_succ]
      refine take_d (i := 7) (oi := _) (v := ?_) (d := some 63) rfl (by kernel_rfl) (by as_aux_lemma => kernel_rfl) (by as_aux_lemma => kernel_rfl) (by as_aux_lemma => kernel_rfl) (fun _ _ _ h => h) (Or.inl ⟨by kernel_rfl, ?_⟩) hHeld ?_
      rotate_left
      · intro w hSw; (try dsimp only at hSw); go_simp; (try with_reducible rfl)
      try simp only [Act.put, List.setIfInBounds_toArray, List.set_cons_zero, List.set_cons_succ]
      refine take_d (i := 8) (oi := _) (v := ?_) (d := some 64) rfl (by kernel_rfl) (by as_aux_lemma => kernel_rfl) (by as_aux_lemma => kernel_rfl) (by as_aux_lemma => kernel_rfl) (fun _ _ _ h => h) (Or.inl ⟨by kernel_rfl, ?_⟩) hHeld ?_
      rotate_left
      · intro w hSw; (try dsimp only at hSw); go_simp; (try with_reducible rfl)
      try simp only [Act.put, List.setIfInBounds_toArray, List.set_cons_zero, List.set_cons_succ]
      refine take_d (i := 9) (oi := _) (v := ?_) (d := some 65) rfl (by kernel_rfl) (by as_aux_lemma => kernel_rfl) (by as_aux_lemma => kernel_rfl) (by as_aux_lemma => kernel_rfl) (fun _ _ _ h => h) (Or.inl ⟨by kernel_rfl, ?_⟩) hHeld ?_
      rotate_left
      · intro w hSw; (try dsimp only at hSw); go_simp; (try with_reducible rfl)
      try simp only [Act.put, List.setIfInBounds_toArray, List.set_cons_zero, List.set_cons_succ]
      refine take_d (i := 10) (oi := _) (v := ?_) (d := some 66) rfl (by kernel_rfl) (by as_aux_lemma => kernel_rfl) (by as_aux_lemma => kernel_rfl) (by as_aux_lemma => kernel_rfl) (fun _ _ _ h => h) (Or.inl ⟨by kernel_rfl, ?_⟩) hHeld ?_
      rotate_left
      · intro w hSw; (try dsimp only at hSw); go_simp; (try with_reducible rfl)
      try simp only [Act.put, List.setIfInBounds_toArray, List.set_cons_zero, List.set_cons_succ]
      refine take_d (i := 11) (oi := _) (v := .bool false) (d := some 67) rfl (by kernel_rfl) (by as_aux_lemma => kernel_rfl) (by as_aux_lemma => kernel_rfl) (by as_aux_lemma => kernel_rfl) (fun _ _ _ h => h) (Or.inl ⟨by kernel_rfl, ?_⟩) hHeld ?_
      · intro W hSw
        go_simp; first | done | simp only [q1] | simp [q1]
      try simp only [Act.put, List.setIfInBounds_toArray, List.set_cons_zero, List.set_cons_succ]
      refine wpAnyH_ready (rs := [6]) (by kernel_rfl) (by simp) ?_
      refine AllReadyH.cons rfl (fun K hK => ?_) AllReadyH.nil
      go_simp
      refine (CST.out _ (xt.rd.up (by first | exact bq | exact Below.drew bq)) ((oM.rd memc_len).up (by first | exact bq | exact Below.drew bq)) ((oA.rd rowc_len).up (by first | exact bq | exact Below.drew bq))).mono ?_
      rintro e u1 ⟨rfl, hb⟩
      replace bq := (by first | exact Gw.call bq hb | exact Gw.call (Below.drew bq) hb)
      clear hb
      dsimp only
      refine hK.out _ _ (HB.out _ bq) (fun hHeld => ?_)
      clear hK K
      try simp only [Act.put, List.setIfInBounds_toArray, List.set_cons_zero, List.set_cons_succ]
      refine take_d (i := 12) (oi := _) (v := ?_) (d := some 68) rfl (by kernel_rfl) (by as_aux_lemma => kernel_rfl) (by as_aux_lemma => kernel_rfl) (by as_aux_lemma => kernel_rfl) (fun _ _ _ h => h) (Or.inl ⟨by kernel_rfl, ?_⟩) hHeld ?_
      rotate_left
      · intro w hSw; (try dsimp only at hSw); go_simp; (try with_reducible rfl)
      try simp only [Act.put, List.setIfInBounds_toArray, List.set_cons_zero, List.set_cons_succ]
      refine take_d (i := 13) (oi := _) (v := ?_) (d := some 69) rfl (by kernel_rfl) (by as_aux_lemma => kernel_rfl) (by as_aux_lemma => kernel_rfl) (by as_aux_lemma => kernel_rfl) (fun _ _ _ h => h) (Or.inl ⟨by kernel_rfl, ?_⟩) hHeld ?_
      rotate_left
      · intro w hSw; (try dsimp only at hSw); go_simp; (try with_reducible rfl)
      try simp only [Act.put, List.setIfInBounds_toArray, List.set_cons_zero, List.set_cons_succ]
      refine take_d (i := 14) (oi := _) (v := ?_) (d := some 70) rfl (by kernel_rfl) (by as_aux_lemma => kernel_rfl) (by as_aux_lemma => kernel_rfl) (by as_aux_lemma => kernel_rfl) (fun _ _ _ h => h) (Or.inl ⟨by kernel_rfl, ?_⟩) hHeld ?_
      rotate_left
      · intro w hSw; (try dsimp only at hSw); go_simp; (try with_reducible rfl)
      try simp only [Act.put, List.setIfInBounds_toArray, List.set_cons_zero, List.set_cons_succ]
      refine take_d (i := 15) (oi := _) (v := ?_) (d := some 71) rfl (by kernel_rfl) (by as_aux_lemma => kernel_rfl) (by as_aux_lemma => kernel_rfl) (by as_aux_lemma => kernel_rfl) (fun _ _ _ h => h) (Or.inl ⟨by kernel_rfl, ?_⟩) hHeld ?_
      rotate_left
      · intro w hSw; (try dsimp only at hSw); go_simp; (try with_reducible rfl)
      try simp only [Act.put, List.setIfInBounds_toArray, List.set_cons_zero, List.set_cons_succ]
      refine take_d (i := 16) (oi := _) (v := ?_) (d := some 72) rfl (by kernel_rfl) (by as_aux_lemma => kernel_rfl) (by as_aux_lemma => kernel_rfl) (by as_aux_lemma => kernel_rfl) (fun _ _ _ h => h) (Or.inl ⟨by kernel_rfl, ?_⟩) hHeld ?_
      rotate_left
      · intro w hSw; (try dsimp only at hSw); go_simp; (try with_reducible rfl)
      try simp only [Act.put, List.setIfInBounds_toArray, List.set_cons_zero, List.set_cons_succ]
      refine take_d (i := 17) (oi := _) (v := .bool true) (d := some 73) rfl (by kernel_rfl) (by as_aux_lemma => kernel_rfl) (by as_aux_lemma => kernel_rfl) (by as_aux_lemma => kernel_rfl) (fun _ _ _ h => h) (Or.inl ⟨by kernel_rfl, ?_⟩) hHeld ?_
      · intro W hSw
        go_simp; first | done | simp only [q2] | simp [q2]
      try simp only [Act.put, List.setIfInBounds_toArray, List.set_cons_zero, List.set_cons_succ]
      refine take_d (i := 18) (oi := _) (v := ?_) (d := some 74) rfl (by kernel_rfl) (by as_aux_lemma => kernel_rfl) (by as_aux_lemma => kernel_rfl) (by as_aux_lemma => kernel_rfl) (fun _ _ _ h => h) (Or.inl ⟨by kernel_rfl, ?_⟩) hHeld ?_
      rotate_left
      · intro w hSw; (try dsimp only at hSw); go_simp; (try with_reducible rfl)
      try simp only [Act.put, List.setIfInBounds_toArray, List.set_cons_zero, List.set_cons_succ]
      refine take_d (i := 19) (oi := _) (v := ?_) (d := some 75) rfl (by kernel_rfl) (by as_aux_lemma => kernel_rfl) (by as_aux_lemma => kernel_rfl) (by as_aux_lemma => kernel_rfl) (fun _ _ _ h => h) (Or.inl ⟨by kernel_rfl, ?_⟩) hHeld ?_
      rotate_left
      · intro w hSw; (try dsimp only at hSw); go_simp; (try with_reducible rfl)
      try simp only [Act.put, List.setIfInBounds_toArray, List.set_cons_zero, List.set_cons_succ]
      refine take_d (i := 20) (oi := _) (v := ?_) (d := some 76) rfl (by kernel_rfl) (by as_aux_lemma => kernel_rfl) (by as_aux_lemma => kernel_rfl) (by as_aux_lemma => kernel_rfl) (fun _ _ _ h => h) (Or.inl ⟨by kernel_rfl, ?_⟩) hHeld ?_
      rotate_left
      · intro w hSw; (try dsimp only at hSw); go_simp; (try with_reducible rfl)
      try simp only [Act.put, List.setIfInBounds_toArray, List.set_cons_zero, List.set_cons_succ]
      refine take_d (i := 21) (oi := _) (v := ?_) (d := some 77) rfl (by kernel_rfl) (by as_aux_lemma => kernel_rfl) (by as_aux_lemma => kernel_rfl) (by as_aux_lemma => kernel_rfl) (fun _ _ _ h => h) (Or.inl ⟨by kernel_rfl, ?_⟩) hHeld ?_
      rotate_left
      · intro w hSw; (try dsimp only at hSw); go_simp; (try with_reducible rfl)
      try simp only [Act.put, List.setIfInBounds_toArray, List.set_cons_zero, List.set_cons_succ]
      refine take_d (i := 22) (oi := _) (v := ?_) (d := some 78) rfl (by kernel_rfl) (by as_aux_lemma => kernel_rfl) (by as_aux_lemma => kernel_rfl) (by as_aux_lemma => kernel_rfl) (fun _ _ _ h => h) (Or.inl ⟨by kernel_rfl, ?_⟩) hHeld ?_
      rotate_left
      · intro w hSw; (try dsimp only at hSw); go_simp; (try with_reducible rfl)
      try simp only [Act.put, List.setIfInBounds_toArray, List.set_cons_zero, List.set_cons_succ]
      refine take_d (i := 23) (oi := _) (v := .bool pb) (d := some 79) rfl (by kernel_rfl) (by as_aux_lemma => kernel_rfl) (by as_aux_lemma => kernel_rfl) (by as_aux_lemma => kernel_rfl) (fun _ _ _ h => h) (Or.inl ⟨by kernel_rfl, ?_⟩) hHeld ?_
      · intro W hSw
        go_simp; first | done | simp only [hpb] | simp [hpb]
      try simp only [Act.put, List.setIfInBounds_toArray, List.set_cons_zero, List.set_cons_succ]
      refine take_d (i := 24) (oi := _) (v := ?_) (d := some 80) rfl (by kernel_rfl) (by as_aux_lemma => kernel_rfl) (by as_aux_lemma => kernel_rfl) (by as_aux_lemma => kernel_rfl) (fun _ _ _ h => h) (Or.inl ⟨by kernel_rfl, ?_⟩) hHeld ?_
      rotate_left
      · intro w hSw; (try dsimp only at hSw); go_simp; (try with_reducible rfl)
      try simp only [Act.put, List.setIfInBounds_toArray, List.set_cons_zero, List.set_cons_succ]
      refine take_d (i := 25) (oi := _) (v := ?_) (d := some 81) rfl (by kernel_rfl) (by as_aux_lemma => kernel_rfl) (by as_aux_lemma => kernel_rfl) (by as_aux_lemma => kernel_rfl) (fun _ _ _ h => h) (Or.inl ⟨by kernel_rfl, ?_⟩) hHeld ?_
      rotate_left
      · intro w hSw; (try dsimp only at hSw); go_simp; (try with_reducible rfl)
      try simp only [Act.put, List.setIfInBounds_toArray, List.set_cons_zero, List.set_cons_succ]
      refine take_d (i := 26) (oi := _) (v := .bool false) (d := some 82) rfl (by kernel_rfl) (by as_aux_lemma => kernel_rfl) (by as_aux_lemma => kernel_rfl) (by as_aux_lemma => kernel_rfl) (fun _ _ _ h => h) (Or.inl ⟨by kernel_rfl, ?_⟩) hHeld ?_
      · intro W hSw
        go_simp; first | done | simp
      try simp only [Act.put, List.setIfInBounds_toArray, List.set_cons_zero, List.set_cons_succ]
      refine wpAnyH_done (by kernel_rfl) ?_ _
      go_wp2_with fail
      go_meet
      exact ⟨rfl, bq⟩
    · have q2 : (r.i == x.i) = false := by rw [beq_eq_false_iff_ne]; exact h2
      rw [show decide (x.i < r.i ∨ r.i = x.i ∧ x.s ≤ r.p) = false by simp; exact ⟨by omega, fun h => absurd h h2⟩] at CST
      clear h1 h2
      refine wp_region_held_drew (S := fun W : World => W.cell? ⟨w.heap.size, 0, none⟩ = some (.int .u16 r.i) ∧ W.cell? ⟨w.heap.size, 1, none⟩ = some (.int .u32 r.p) ∧ W.cell? ⟨w.heap.size + 1, 0, none⟩ = some (.int .u8 (s : Int)) ∧ W.cell? ⟨w.heap.size + 1, 1, none⟩ = some (.int .u16 x.i) ∧ W.cell? ⟨w.heap.size + 1, 2, none⟩ = some (.int .u32 x.s)) (by kernel_rfl) (HB.out _ (Below.drew bq)) (fun hHeld => ?_)
      refine take_d (i := 0) (oi := _) (v := ?_) (d := some 56) rfl (by kernel_rfl) (by as_aux_lemma => kernel_rfl) (by as_aux_lemma => kernel_rfl) (by as_aux_lemma => kernel_rfl) (fun _ _ _ h => h) (Or.inl ⟨by kernel_rfl, ?_⟩) hHeld ?_
      rotate_left
      · intro w hSw; (try dsimp only at hSw); go_simp; (try with_reducible rfl)
      try simp only [Act.put, List.setIfInBounds_toArray, List.set_cons_zero, List.set_cons_succ]
      refine take_d (i := 1) (oi := _) (v := ?_) (d := some 57) rfl (by kernel_rfl) (by as_aux_lemma => kernel_rfl) (by as_aux_lemma => kernel_rfl) (by as_aux_lemma => kernel_rfl) (fun _ _ _ h => h) (Or.inl ⟨by kernel_rfl, ?_⟩) hHeld ?_
      rotate_left
      · intro w hSw; (try dsimp only at hSw); go_simp; (try with_reducible rfl)
      try simp only [Act.put, List.setIfInBounds_toArray, List.set_cons_zero, List.set_cons_succ]
      refine take_d (i := 2) (oi := _) (v := ?_) (d := some 58) rfl (by kernel_rfl) (by as_aux_lemma => kernel_rfl) (by as_aux_lemma => kernel_rfl) (by as_aux_lemma => kernel_rfl) (fun _ _ _ h => h) (Or.inl ⟨by kernel_rfl, ?_⟩) hHeld ?_
      rotate_left
      · intro w hSw; (try dsimp only at hSw); go_simp; (try with_reducible rfl)
      try simp only [Act.put, List.setIfInBounds_toArray, List.set_cons_zero, List.set_cons_succ]
      refine take_d (i := 3) (oi := _) (v := ?_) (d := some 59) rfl (by kernel_rfl) (by as_aux_lemma => kernel_rfl) (by as_aux_lemma => kernel_rfl) (by as_aux_lemma => kernel_rfl) (fun _ _ _ h => h) (Or.inl ⟨by kernel_rfl, ?_⟩) hHeld ?_
      rotate_left
      · intro w hSw; (try dsimp only at hSw); go_simp; (try with_reducible rfl)
      try simp only [Act.put, List.setIfInBounds_toArray, List.set_cons_zero, List.set_cons_succ]
      refine take_d (i := 4) (oi := _) (v := ?_) (d := some 60) rfl (by kernel_rfl) (by as_aux_lemma => kernel_rfl) (by as_aux_lemma => kernel_rfl) (by as_aux_lemma => kernel_rfl) (fun _ _ _ h => h) (Or.inl ⟨by kernel_rfl, ?_⟩) hHeld ?_
      rotate_left
      · intro w hSw; (try dsimp only at hSw); go_simp; (try with_reducible rfl)
      try simp only [Act.put, List.setIfInBounds_toArray, List.set_cons_zero, List.set_cons_succ]
      refine take_d (i := 5) (oi := _) (v := ?_) (d := some 61) rfl (by kernel_rfl) (by as_aux_lemma => kernel_rfl) (by as_aux_lemma => kernel_rfl) (by as_aux_lemma => kernel_rfl) (fun _ _ _ h => h) (Or.inl ⟨by kernel_rfl, ?_⟩) hHeld ?_
      rotate_left
      · intro w hSw; (try dsimp only at hSw); go_simp; (try with_reducible rfl)
      try simp only [Act.put, List.setIfInBounds_toArray, List.set_cons_zero, List.set_cons_succ]
      refine take_d (i := 7) (oi := _) (v := ?_) (d := some 63) rfl (by kernel_rfl) (by as_aux_lemma => kernel_rfl) (by as_aux_lemma => kernel_rfl) (by as_aux_lemma => kernel_rfl) (fun _ _ _ h => h) (Or.inl ⟨by kernel_rfl, ?_⟩) hHeld ?_
      rotate_left
      · intro w hSw; (try dsimp only at hSw); go_simp; (try with_reducible rfl)
      try simp only [Act.put, List.setIfInBounds_toArray, List.set_cons_zero, List.set_cons_succ]
      refine take_d (i := 8) (oi := _) (v := ?_) (d := some 64) rfl (by kernel_rfl) (by as_aux_lemma => kernel_rfl) (by as_aux_lemma => kernel_rfl) (by as_aux_lemma => kernel_rfl) (fun _ _ _ h => h) (Or.inl ⟨by kernel_rfl, ?_⟩) hHeld ?_
      rotate_left
      · intro w hSw; (try dsimp only at hSw); go_simp; (try with_reducible rfl)
      try simp only [Act.put, List.setIfInBounds_toArray, List.set_cons_zero, List.set_cons_succ]
      refine take_d (i := 9) (oi := _) (v := ?_) (d := some 65) rfl (by kernel_rfl) (by as_aux_lemma => kernel_rfl) (by as_aux_lemma => kernel_rfl) (by as_aux_lemma => kernel_rfl) (fun _ _ _ h => h) (Or.inl ⟨by kernel_rfl, ?_⟩) hHeld ?_
      rotate_left
      · intro w hSw; (try dsimp only at hSw); go_simp; (try with_reducible rfl)
      try simp only [Act.put, List.setIfInBounds_toArray, List.set_cons_zero, List.set_cons_succ]
      refine take_d (i := 10) (oi := _) (v := ?_) (d := some 66) rfl (by kernel_rfl) (by as_aux_lemma => kernel_rfl) (by as_aux_lemma => kernel_rfl) (by as_aux_lemma => kernel_rfl) (fun _ _ _ h => h) (Or.inl ⟨by kernel_rfl, ?_⟩) hHeld ?_
      rotate_left
      · intro w hSw; (try dsimp only at hSw); go_simp; (try with_reducible rfl)
      try simp only [Act.put, List.setIfInBounds_toArray, List.set_cons_zero, List.set_cons_succ]
      refine take_d (i := 11) (oi := _) (v := .bool false) (d := some 67) rfl (by kernel_rfl) (by as_aux_lemma => kernel_rfl) (by as_aux_lemma => kernel_rfl) (by as_aux_lemma => kernel_rfl) (fun _ _ _ h => h) (Or.inl ⟨by kernel_rfl, ?_⟩) hHeld ?_
      · intro W hSw
        go_simp; first | done | simp only [q1] | simp [q1]
      try simp only [Act.put, List.setIfInBounds_toArray, List.set_cons_zero, List.set_cons_succ]
      refine wpAnyH_ready (rs := [6]) (by kernel_rfl) (by simp) ?_
      refine AllReadyH.cons rfl (fun K hK => ?_) AllReadyH.nil
      go_simp
      refine (CST.out _ (xt.rd.up (by first | exact bq | exact Below.drew bq)) ((oM.rd memc_len).up (by first | exact bq | exact Below.drew bq)) ((oA.rd rowc_len).up (by first | exact bq | exact Below.drew bq))).mono ?_
      rintro e u1 ⟨rfl, hb⟩
      replace bq := (by first | exact Gw.call bq hb | exact Gw.call (Below.drew bq) hb)
      clear hb
      dsimp only
      refine hK.out _ _ (HB.out _ bq) (fun hHeld => ?_)
      clear hK K
      try simp only [Act.put, List.setIfInBounds_toArray, List.set_cons_zero, List.set_cons_succ]
      refine take_d (i := 12) (oi := _) (v := ?_) (d := some 68) rfl (by kernel_rfl) (by as_aux_lemma => kernel_rfl) (by as_aux_lemma => kernel_rfl) (by as_aux_lemma => kernel_rfl) (fun _ _ _ h => h) (Or.inl ⟨by kernel_rfl, ?_⟩) hHeld ?_
      rotate_left
      · intro w hSw; (try dsimp only at hSw); go_simp; (try with_reducible rfl)
      try simp only [Act.put, List.setIfInBounds_toArray, List.set_cons_zero, List.set_cons_succ]
      refine take_d (i := 13) (oi := _) (v := ?_) (d := some 69) rfl (by kernel_rfl) (by as_aux_lemma => kernel_rfl) (by as_aux_lemma => kernel_rfl) (by as_aux_lemma => kernel_rfl) (fun _ _ _ h => h) (Or.inl ⟨by kernel_rfl, ?_⟩) hHeld ?_
      rotate_left
      · intro w hSw; (try dsimp only at hSw); go_simp; (try with_reducible rfl)
      try simp only [Act.put, List.setIfInBounds_toArray, List.set_cons_zero, List.set_cons_succ]
      refine take_d (i := 14) (oi := _) (v := ?_) (d := some 70) rfl (by kernel_rfl) (by as_aux_lemma => kernel_rfl) (by as_aux_lemma => kernel_rfl) (by as_aux_lemma => kernel_rfl) (fun _ _ _ h => h) (Or.inl ⟨by kernel_rfl, ?_⟩) hHeld ?_
      rotate_left
      · intro w hSw; (try dsimp only at hSw); go_simp; (try with_reducible rfl)
      try simp only [Act.put, List.setIfInBounds_toArray, List.set_cons_zero, List.set_cons_succ]
      refine take_d (i := 15) (oi := _) (v := ?_) (d := some 71) rfl (by kernel_rfl) (by as_aux_lemma => kernel_rfl) (by as_aux_lemma => kernel_rfl) (by as_aux_lemma => kernel_rfl) (fun _ _ _ h => h) (Or.inl ⟨by kernel_rfl, ?_⟩) hHeld ?_
      rotate_left
      · intro w hSw; (try dsimp only at hSw); go_simp; (try with_reducible rfl)
      try simp only [Act.put, List.setIfInBounds_toArray, List.set_cons_zero, List.set_cons_succ]
      refine take_d (i := 16) (oi := _) (v := ?_) (d := some 72) rfl (by kernel_rfl) (by as_aux_lemma => kernel_rfl) (by as_aux_lemma => kernel_rfl) (by as_aux_lemma => kernel_rfl) (fun _ _ _ h => h) (Or.inl ⟨by kernel_rfl, ?_⟩) hHeld ?_
      rotate_left
      · intro w hSw; (try dsimp only at hSw); go_simp; (try with_reducible rfl)
      try simp only [Act.put, List.setIfInBounds_toArray, List.set_cons_zero, List.set_cons_succ]
      refine take_d (i := 17) (oi := _) (v := .bool false) (d := some 73) rfl (by kernel_rfl) (by as_aux_lemma => kernel_rfl) (by as_aux_lemma => kernel_rfl) (by as_aux_lemma => kernel_rfl) (fun _ _ _ h => h) (Or.inl ⟨by kernel_rfl, ?_⟩) hHeld ?_
      · intro W hSw
        go_simp; first | done | simp only [q2] | simp [q2]
      try simp only [Act.put, List.setIfInBounds_toArray, List.set_cons_zero, List.set_cons_succ]
      refine take_d (i := 18) (oi := _) (v := ?_) (d := some 74) rfl (by kernel_rfl) (by as_aux_lemma => kernel_rfl) (by as_aux_lemma => kernel_rfl) (by as_aux_lemma => kernel_rfl) (fun _ _ _ h => h) (Or.inl ⟨by kernel_rfl, ?_⟩) hHeld ?_
      rotate_left
      · intro w hSw; (try dsimp only at hSw); go_simp; (try with_reducible rfl)
      try simp only [Act.put, List.setIfInBounds_toArray, List.set_cons_zero, List.set_cons_succ]
      refine take_d (i := 19) (oi := _) (v := undef) (d := some 75) rfl (by kernel_rfl) (by as_aux_lemma => kernel_rfl) (by as_aux_lemma => kernel_rfl) (by as_aux_lemma => kernel_rfl) (fun _ _ _ h => h) (Or.inr ⟨by kernel_rfl, rfl⟩) hHeld ?_
      try simp only [Act.put, List.setIfInBounds_toArray, List.set_cons_zero, List.set_cons_succ]
      refine take_d (i := 20) (oi := _) (v := undef) (d := some 76) rfl (by kernel_rfl) (by as_aux_lemma => kernel_rfl) (by as_aux_lemma => kernel_rfl) (by as_aux_lemma => kernel_rfl) (fun _ _ _ h => h) (Or.inr ⟨by kernel_rfl, rfl⟩) hHeld ?_
      try simp only [Act.put, List.setIfInBounds_toArray, List.set_cons_zero, List.set_cons_succ]
      refine take_d (i := 21) (oi := _) (v := undef) (d := some 77) rfl (by kernel_rfl) (by as_aux_lemma => kernel_rfl) (by as_aux_lemma => kernel_rfl) (by as_aux_lemma => kernel_rfl) (fun _ _ _ h => h) (Or.inr ⟨by kernel_rfl, rfl⟩) hHeld ?_
      try simp only [Act.put, List.setIfInBounds_toArray, List.set_cons_zero, List.set_cons_succ]
      refine take_d (i := 22) (oi := _) (v := undef) (d := some 78) rfl (by kernel_rfl) (by as_aux_lemma => kernel_rfl) (by as_aux_lemma => kernel_rfl) (by as_aux_lemma => kernel_rfl) (fun _ _ _ h => h) (Or.inr ⟨by kernel_rfl, rfl⟩) hHeld ?_
      try simp only [Act.put, List.setIfInBounds_toArray, List.set_cons_zero, List.set_cons_succ]
      refine take_d (i := 23) (oi := _) (v := undef) (d := some 79) rfl (by kernel_rfl) (by as_aux_lemma => kernel_rfl) (by as_aux_lemma => kernel_rfl) (by as_aux_lemma => kernel_rfl) (fun _ _ _ h => h) (Or.inr ⟨by kernel_rfl, rfl⟩) hHeld ?_
      try simp only [Act.put, List.setIfInBounds_toArray, List.set_cons_zero, List.set_cons_succ]
      refine take_d (i := 24) (oi := _) (v := ?_) (d := some 80) rfl (by kernel_rfl) (by as_aux_lemma => kernel_rfl) (by as_aux_lemma => kernel_rfl) (by as_aux_lemma => kernel_rfl) (fun _ _ _ h => h) (Or.inl ⟨by kernel_rfl, ?_⟩) hHeld ?_
      rotate_left
      · intro w hSw; (try dsimp only at hSw); go_simp; (try with_reducible rfl)
      try simp only [Act.put, List.setIfInBounds_toArray, List.set_cons_zero, List.set_cons_succ]
      refine take_d (i := 25) (oi := _) (v := ?_) (d := some 81) rfl (by kernel_rfl) (by as_aux_lemma => kernel_rfl) (by as_aux_lemma => kernel_rfl) (by as_aux_lemma => kernel_rfl) (fun _ _ _ h => h) (Or.inl ⟨by kernel_rfl, ?_⟩) hHeld ?_
      rotate_left
      · intro w hSw; (try dsimp only at hSw); go_simp; (try with_reducible rfl)
      try simp only [Act.put, List.setIfInBounds_toArray, List.set_cons_zero, List.set_cons_succ]
      refine take_d (i := 26) (oi := _) (v := ?_) (d := some 82) rfl (by kernel_rfl) (by as_aux_lemma => kernel_rfl) (by as_aux_lemma => kernel_rfl) (by as_aux_lemma => kernel_rfl) (fun _ _ _ h => h) (Or.inl ⟨by kernel_rfl, ?_⟩) hHeld ?_
      rotate_left
      · intro w hSw; (try dsimp only at hSw); go_simp; (try with_reducible rfl)
      try simp only [Act.put, List.setIfInBounds_toArray, List.set_cons_zero, List.set_cons_succ]
      refine wpAnyH_done (by kernel_rfl) ?_ _
      go_wp2_with fail
      go_meet
      exact ⟨rfl, bq⟩
  case rest =>
    obtain ⟨rfl, bc⟩ := hcut
    replace oX7 := oX7.call bc
    replace oA := Own.below oA bc
    replace oM := Own.below oM bc
    replace xt := xt.keep bc
    replace b7 := Gw.call b7 bc
    clear CST PA oR7 bc
    have f5 := fun j => Own.free oM j
    have e0 := Own.at_ memc_len oM M1t.out (j := 0) rfl
    have e1 := Own.at_ memc_len oM M1t.out (j := 1) rfl
    have e2 := Own.at_ memc_len oM M1t.out (j := 2) rfl
    rw [Nat.add_zero] at e0
    have oM2 := own_put_mem oM M1t.out ⟨4, 2, 0⟩
    have hX4 : w.heap.size + 1 ≠ w4.heap.size := by have := HW2.out; omega
    have oX8 := ((oX7.far hX4 (p := w4.heap.size) (j := o * 3) (.int .u16 4)).far hX4 (j := o * 3 + 1) (.int .u8 2)).far hX4 (j := o * 3 + 2) (.int .u8 0)
    have hfar4 : ∀ k, (Value.slice (some ⟨w2.heap.size, 0, none⟩) nn nn).ownBlock = some k → k ≠ w4.heap.size := fun k hk => by have := own_blk hk; simp only at this; omega
    have oA2 := Own.far (Own.far (Own.far oA (p := ⟨w4.heap.size, o * 3, none⟩) hfar4 (.int .u16 4)) (p := ⟨w4.heap.size, o * 3 + 1, none⟩) hfar4 (.int .u8 2)) (p := ⟨w4.heap.size, o * 3 + 2, none⟩) hfar4 (.int .u8 0)
    have xt2 := ((xt.low (p := ⟨w4.heap.size, o * 3, none⟩) (Nat.lt_succ_self _) (.int .u16 4)).low (p := ⟨w4.heap.size, o * 3 + 1, none⟩) (Nat.lt_succ_self _) (.int .u8 2)).low (p := ⟨w4.heap.size, o * 3 + 2, none⟩) (Nat.lt_succ_self _) (.int .u8 0)
    have b8 := Gw.st (Gw.st (Gw.st b7 (p := ⟨w4.heap.size, o * 3, none⟩) (by show w.heap.size ≤ w4.heap.size; have := HW2.out; omega) (.int .u16 4)) (p := ⟨w4.heap.size, o * 3 + 1, none⟩) (by show w.heap.size ≤ w4.heap.size; have := HW2.out; omega) (.int .u8 2)) (p := ⟨w4.heap.size, o * 3 + 2, none⟩) (by show w.heap.size ≤ w4.heap.size; have := HW2.out; omega) (.int .u8 0)
    go_upto_region 15 with fail
    clear e0 e1 e2 f5 oM oX7 oA xt b7
    generalize ((wc.setCell ⟨w4.heap.size, o * 3, none⟩ (.int .u16 4)).setCell ⟨w4.heap.size, o * 3 + 1, none⟩ (.int .u8 2)).setCell ⟨w4.heap.size, o * 3 + 2, none⟩ (.int .u8 0) = wd at *
    have k0 := oX8.blk.2.1 0 _ rfl
    have k1 := oX8.blk.2.1 1 _ rfl
    have k2 := oX8.blk.2.1 2 _ rfl
    have M2l : Hid ((M1.set o ⟨4, 2, 0⟩).length = nn) := Lib.hid (by rw [List.length_set]; exact M1l.out)
    have PB : Hid (stableB T (M1.set o ⟨4, 2, 0⟩) (s : Int) R1 ⟨(s : Int), x.i, x.s⟩ = false) := Lib.hid (stable_lag (k := o) (mb := ⟨4, 2, 0⟩) (r := r) R1s.out (List.getElem?_set_self (by rw [M1l.out]; exact hon)) (other_lags HOS.out T0.out (by have := HXOK.out.2.1.1; have := HXI.out; omega)))
    have CS2 := Lib.hid (fun W h1 h2 h3 => PB.out ▸ stable_any T (M1.set o ⟨4, 2, 0⟩) (s : Int) R1 ⟨(s : Int), x.i, x.s⟩ A8 (some ⟨w4.heap.size, 0, none⟩) (some ⟨w2.heap.size, 0, none⟩) c8 nn nn nn nn nn W TL.out M2l.out R1l.out h1 h2 h3 (by omega) XOK.out (by omega) (by omega))
    go_wp2_with fail
    refine (CS2.out _ xt2.rd (oM2.rd memc_len) (oA2.rd rowc_len)).mono ?_
    rintro e we ⟨rfl, hb⟩
    have oX9 := oX8.call hb
    have oA3 := Own.below oA2 hb
    have xt3 := xt2.keep hb
    have b9 := Gw.call b8 hb
    clear hb CS2 k0 k1 k2 oX8 oA2 xt2 b8 oM2
    have k0 := oX9.blk.2.1 0 _ rfl
    have k8 := oX9.blk.2.2
    have oX10 : Ob (we.setCell ⟨w.heap.size + 1, 0, none⟩ (.int .u8 (nn : Int))) (w.heap.size + 1) #[.int .u8 (nn : Int), .int .u16 x.i, .int .u32 x.s] 28 := oX9.set 0 (.int .u8 (nn : Int))
    have hfX : ∀ k, (Value.slice (some ⟨w2.heap.size, 0, none⟩) nn nn).ownBlock = some k → k ≠ w.heap.size + 1 := fun k hk => by have := own_blk hk; simp only at this; have := HW2.out; omega
    have oA4 := Own.far oA3 (p := ⟨w.heap.size + 1, 0, none⟩) hfX (.int .u8 (nn : Int))
    have xt4 := xt3.low (p := ⟨w.heap.size + 1, 0, none⟩) (by show w.heap.size + 1 < w4.heap.size + 1; have := HW2.out; omega) (.int .u8 (nn : Int))
    have b10 := Gw.st b9 (p := ⟨w.heap.size + 1, 0, none⟩) (by show w.heap.size ≤ w.heap.size + 1; omega) (.int .u8 (nn : Int))
    go_upto_region 18 with fail
    clear k0 k8 oX9 oA3 xt3 b9
    generalize we.setCell ⟨w.heap.size + 1, 0, none⟩ (.int .u8 (nn : Int)) = wf at *
    have k0 := oX10.blk.2.1 0 _ rfl
    have k1 := oX10.blk.2.1 1 _ rfl
    have k2 := oX10.blk.2.1 2 _ rfl
    have PC : Hid (stableB T [] (s : Int) R1 ⟨(nn : Int), x.i, x.s⟩ = false) := Lib.hid (stable_no (by rw [R1l.out]; simp))
    have CS3 := Lib.hid (fun W h1 h2 h3 => PC.out ▸ stable_any T [] (s : Int) R1 ⟨(nn : Int), x.i, x.s⟩ A8 none (some ⟨w2.heap.size, 0, none⟩) c8 0 nn nn 0 nn W TL.out rfl R1l.out h1 h2 h3 (by omega) ⟨⟨by simp, by simp; omega⟩, HXOK.out.2.1, HXOK.out.2.2⟩ (by omega) (by omega))
    go_wp2_with fail
    refine (CS3.out _ xt4.rd Rd.nil_ (oA4.rd rowc_len)).mono ?_
    rintro e wg ⟨rfl, hb⟩
    replace b10 := Gw.call b10 hb
    clear hb CS3 k0 k1 k2
    go_wp2_with fail
    refine (awake_any _).mono ?_
    rintro e wh ⟨rfl, hb⟩
    go_wp2_with fail
    go_ret
    exact ⟨rfl, Gw.call b10 hb⟩
end Go.Proofs.Ytcclnfpegepcnaa
