/-
  grapevineref16.Pick: marks of what is gone.
-/
import Derived.Test.YtbkmfmemcooagaaPick
import Derived.Test.YtbkmfmemcooagaaRemL
import Derived.Test.YtbkmfmemcooagaaRows1
namespace Go.Proofs.Ytbkmfmemcooagaa
open Go.RowKit

theorem Try.infoBool : (Try.prog.info? 4).map (fun i => (i.zero, i.size, i.bytes)) = some (some (.bool false), 1, 1) := by kernel_rfl
set_option maxHeartbeats 4000000 in
theorem refpick_any (l ds : List Int) (F : Int) (A D : Option Addr) (cap dcap : Nat) (w : World) (hr : Rd (fun z : Int => [Value.int .u8 z]) 1 w.heap.size w A l) (hrd : Rd (fun z : Int => [Value.int .u32 z]) 1 w.heap.size w D ds)
    (hlen : l.length ≤ 1000000) (hdl : ds.length ≤ 1000000) (hF : F ≤ 9223372036854775807) (hds : ∀ x ∈ ds, 0 ≤ x ∧ x ≤ 4294967295) :
    Calls Try.prog 13 #[.slice A l.length cap, .int .i64 F, .slice D ds.length dcap] w fun e w' => ∃ A' c', e = .returned (.slice A' (pickL F.toNat l ds).length c') ∧ Own (fun z : Int => [Value.int .u8 z]) 1 5 w.heap.size w' (.slice A' (pickL F.toNat l ds).length c') (pickL F.toNat l ds) ∧ Below w.heap.size w w' := by
  obtain ⟨i0, hi0, hz0, hz1, hz2⟩ := info_parts Try.infoU8d
  obtain ⟨j0, hj0, hy0, hy1, hy2⟩ := info_parts Try.infoBool
  have HDS := Lib.hid hds
  clear hds
  go_enter Try.func13, Try.ntmps13
  go_wp2_with (refine wpList_make_full _ rfl _ _ 41 rfl w.heap.size 4 j0 _ 1 Try.underlying41 hj0 hy0 hy1 _ _ _ _ l.length rfl rfl rfl rfl (by rw [hy2]; omega) (by unfold maxLen; omega) (Nat.le_refl _) ?_; intro w1 hown1 hg1)
  rw [made_one _ rfl] at hown1
  have row0 : Row1 w.heap.size 4 w1 w.heap.size ((List.replicate l.length false).map Value.bool) := by
    unfold Row1; simpa using hown1
  have b1 := Gw.none_ hg1
  have hl1 := row0.lt.2
  clear hown1 hg1
  obtain ⟨G, hG⟩ : ∃ G, G = w.heap.size := ⟨_, rfl⟩
  rw [← hG] at row0 hl1 ⊢
  have hG1 : w.heap.size ≤ G := by omega
  have HG := Lib.hid hG
  clear hG
  go_loopw [7, 9] (fun p i wr => ∃ (acc : List Int) (gone : List Bool) (P : Option Addr) (c : Nat), i = .int .i64 acc.length ∧ p = .slice P acc.length c ∧ Own (fun z : Int => [Value.int .u8 z]) 1 5 (G + 1) wr (.slice P acc.length c) acc ∧ Row1 G 4 wr G (gone.map Value.bool) ∧ Hid (gone.length = l.length) ∧ Hid ((rem l gone).length + acc.length = l.length) ∧ acc.length ≤ l.length ∧ Hid (acc ++ pickL (F.toNat - acc.length) (rem l gone) (ds.drop acc.length) = pickL F.toNat l ds) ∧ G + 1 ≤ wr.heap.size ∧ Below w.heap.size w wr)
    (fun _ i _ => l.length - (intOf i).toNat)
  case atStart => exact ⟨[], List.replicate l.length false, none, 0, rfl, rfl, Own.nil_, row0, Lib.hid (by simp), Lib.hid (by rw [rem_none]; simp), Nat.zero_le _, Lib.hid (by rw [rem_none]; simp), hl1, b1⟩
  case round =>
    obtain ⟨acc, gone, P, c, rfl, rfl, hown, hrow, hgl, hrl, hal, HA, hsz, hbw⟩ := hrel
    by_cases hc : (acc.length : Int) < F ∧ acc.length < l.length
    · obtain ⟨hc1, hc2⟩ := hc
      have hrem : 0 < (rem l gone).length := by have := hrl.out; omega
      obtain ⟨d, hd⟩ : ∃ d, d = ds.getD acc.length 0 := ⟨_, rfl⟩
      obtain ⟨m, hm⟩ : ∃ m, m = d.toNat % (rem l gone).length := ⟨_, rfl⟩
      have hml : m < (rem l gone).length := by rw [hm]; exact Nat.mod_lt _ hrem
      have ST := Lib.hid (pick_step HA.out (show acc.length < F.toNat by omega) hrem)
      rw [← hd, ← hm] at ST
      have hd1 : 0 ≤ d ∧ d ≤ 4294967295 := by
        rw [hd, List.getD_eq_getElem?_getD]
        rcases hx : ds[acc.length]? with _ | x
        · simp
        · exact HDS.out x (List.mem_of_getElem? hx)
      have hlr : ((l.length : Int) - acc.length) = ((rem l gone).length : Int) := by have := hrl.out; omega
      have hmi : d % ((l.length : Int) - acc.length) = (m : Int) := by
        rw [hlr]
        obtain ⟨n, rfl⟩ := Int.eq_ofNat_of_zero_le hd1.1
        rw [hm]; simp
      have hm9 : m ≤ 1000000 := by have := hrl.out; omega
      have HML := Lib.hid hml
      have hkind : (acc.length < ds.length ∧ ds[acc.length]? = some d) ∨ (ds.length ≤ acc.length ∧ m = 0) := by
        rcases Nat.lt_or_ge acc.length ds.length with hk | hk
        · exact .inl ⟨hk, by rw [hd, List.getD_eq_getElem?_getD, List.getElem?_eq_getElem hk]; rfl⟩
        · refine .inr ⟨hk, ?_⟩
          have : d = 0 := by rw [hd, List.getD_eq_getElem?_getD, List.getElem?_eq_none (by omega)]; rfl
          rw [hm, this]; simp
      have rd := hrd.up hbw
      have rl := hr.below hbw
      clear hml hrem hlr hm hd
      have hwo : ∃ wo : World, wo = wr := ⟨_, rfl⟩
      obtain ⟨wo, rfl⟩ := hwo
      have INNER := Lib.hid (hmi)
      rcases hkind with ⟨hk, hx⟩ | ⟨hk, hm0⟩
      · obtain ⟨b, o, rfl, hbb, cd⟩ := rd.int1 hx
        clear hx rd INNER
        go_wp2
        clear cd hmi
        go_loopw [7, 11, 12] (fun p a i wi => ∃ n j : Nat, p = .slice P acc.length c ∧ a = .int .i64 n ∧ i = .int .i64 j ∧ j ≤ l.length ∧ wo = wi ∧ Hid ((rem (l.take j) (gone.take j)).length + n = m)) (fun _ _ i _ => l.length - (intOf i).toNat)
        case atStart => exact ⟨m, 0, rfl, rfl, rfl, Nat.zero_le _, rfl, Lib.hid (by simp [rem])⟩
        case round =>
          obtain ⟨n, j, rfl, rfl, rfl, hjl, rfl, hat⟩ := hrel
          by_cases hlt : j < l.length
          · have hjg : j < gone.length := by rw [hgl.out]; exact hlt
            obtain ⟨x, hx⟩ : ∃ x, l[j]? = some x := ⟨_, List.getElem?_eq_getElem hlt⟩
            obtain ⟨y, hy⟩ : ∃ y, gone[j]? = some y := ⟨_, List.getElem?_eq_getElem hjg⟩
            have cg := hrow.cell (j := j) (v := .bool y) (by simp [hy])
            have fg := hrow.free j
            have hglen : (gone.map Value.bool).length = l.length := by rw [List.length_map]; exact hgl.out
            have hn9 : n ≤ 1000000 := by have := hat.out; omega
            have HT := Lib.hid (rem_take hgl.out hx hy)
            cases y with
            | true =>
              have HAT : Hid ((rem (l.take (j + 1)) (gone.take (j + 1))).length + n = m) := Lib.hid (by rw [HT.out]; simpa using hat.out)
              clear hx hy HT hat
              go_wp2
              go_roundw
              case rel => exact ⟨n, j + 1, rfl, rfl, by go_num, by omega, by first | rfl | trivial, HAT⟩
              case measure => simp [intOf]; omega
            | false =>
              by_cases hn : n = 0
              · subst hn
                have hit := rem_hit hgl.out hx hy
                have hls := rem_len_set hgl.out hx hy
                have hat' := hat.out
                rw [Nat.add_zero] at hat'
                rw [hat'] at hit
                have ST2 := ST.out
                rw [hit.1, hit.2] at ST2
                have ST3 := Lib.hid ST2
                have HLS := Lib.hid hls
                have HL3 : Hid ((acc ++ [x]).length = acc.length + 1) := Lib.hid (by simp)
                obtain ⟨b, o, rfl, hbb, cx⟩ := rl.int1 hx
                have cx2 : (wo.setCell ⟨G, j, none⟩ (.bool true)).cell? ⟨b, o + j, none⟩ = some (.int .u8 x) := (World.cell?_setCell_other _ _ _ _ (by intro e; injection e with e _ _; omega)).trans cx
                have row2 : Row1 G 4 (wo.setCell ⟨G, j, none⟩ (.bool true)) G ((gone.set j true).map Value.bool) := by
                  have := hrow.set j (.bool true); rwa [← List.map_set] at this
                have own2 : Own (fun z : Int => [Value.int .u8 z]) 1 5 (G + 1) (wo.setCell ⟨G, j, none⟩ (.bool true)) (.slice P acc.length c) acc := hown.far (fun k hk => by have := (World.ownsRow.lt hown k hk).1; show k ≠ G; omega) _
                have b2 := Gw.st hbw hG1 (p := ⟨G, j, none⟩) (.bool true)
                have sz2 : (wo.setCell ⟨G, j, none⟩ (.bool true)).heap.size = wo.heap.size := Gw.setSize _ _ _
                have SZ2 := Lib.hid sz2
                clear hx hy HT hat hat' hit hls ST2 sz2 hown hrow cx
                go_wp2_with (at_builtin; refine wpList_app _ rfl _ _ 22 rfl (G + 1) 5 i0 _ 1 Try.underlying22 hi0 hz0 hz1 hz2 rfl (by omega) (int_len .u8) (int_one .u8) _ acc rfl (own2.alloc _) acc.length rfl _ _ 1 1 [x] rfl rfl (Rd.oneAt .u8 _ _ SZ2.out.symm x _) (by omega) (by omega) (by have := SZ2.out; simp; omega) ?_; intro A' c' w4 hown4 hg4)
                go_roundw
                case rel => exact ⟨acc ++ [x], gone.set j true, A', c', by simp, by rw [HL3.out], by rw [HL3.out]; exact hown4, (row2.alloc _).keep hg4 (fun k hk => by have := Own.lt own2 k hk; omega), Lib.hid (by rw [List.length_set]; exact hgl.out), Lib.hid (by have := HLS.out; have := hrl.out; rw [HL3.out]; omega), by rw [HL3.out]; omega, Lib.hid (by rw [HL3.out]; exact ST3.out), by have h7 := hg4.size; have h8 := SZ2.out; rw [World.size_alloc] at h7; omega, Gw.gr (Gw.al b2 _) hg4 (fun k hk => by have := Own.lt own2 k hk; omega)⟩
                case measure => simp [intOf]; omega
              · have hn1 : (1 : Int) ≤ n := by omega
                have e1 : decide ((n : Int) = 0) = false := by simp; omega
                have HAT : Hid ((rem (l.take (j + 1)) (gone.take (j + 1))).length + (n - 1) = m) := Lib.hid (by have := hat.out; rw [HT.out]; simp; omega)
                clear hx hy HT hat
                go_wp2
                go_roundw
                case rel => exact ⟨n - 1, j + 1, rfl, by congr 1; omega, by go_num, by omega, by first | rfl | trivial, HAT⟩
                case measure => simp [intOf]; omega
          · have e1 : l.take j = l := List.take_of_length_le (by omega)
            have e2 : gone.take j = gone := List.take_of_length_le (by rw [hgl.out]; omega)
            have h3 := hat.out
            rw [e1, e2] at h3
            have h4 := HML.out
            omega
      · clear rd hmi INNER
        have hk' : ¬ acc.length < ds.length := by omega
        have HM0 := Lib.hid hm0
        clear hm0
        go_wp2
        go_loopw [7, 11, 12] (fun p a i wi => ∃ n j : Nat, p = .slice P acc.length c ∧ a = .int .i64 n ∧ i = .int .i64 j ∧ j ≤ l.length ∧ wo = wi ∧ Hid ((rem (l.take j) (gone.take j)).length + n = m)) (fun _ _ i _ => l.length - (intOf i).toNat)
        case atStart => exact ⟨m, 0, rfl, by rw [HM0.out]; rfl, rfl, Nat.zero_le _, rfl, Lib.hid (by simp [rem])⟩
        case round =>
          obtain ⟨n, j, rfl, rfl, rfl, hjl, rfl, hat⟩ := hrel
          by_cases hlt : j < l.length
          · have hjg : j < gone.length := by rw [hgl.out]; exact hlt
            obtain ⟨x, hx⟩ : ∃ x, l[j]? = some x := ⟨_, List.getElem?_eq_getElem hlt⟩
            obtain ⟨y, hy⟩ : ∃ y, gone[j]? = some y := ⟨_, List.getElem?_eq_getElem hjg⟩
            have cg := hrow.cell (j := j) (v := .bool y) (by simp [hy])
            have fg := hrow.free j
            have hglen : (gone.map Value.bool).length = l.length := by rw [List.length_map]; exact hgl.out
            have hn9 : n ≤ 1000000 := by have := hat.out; omega
            have HT := Lib.hid (rem_take hgl.out hx hy)
            cases y with
            | true =>
              have HAT : Hid ((rem (l.take (j + 1)) (gone.take (j + 1))).length + n = m) := Lib.hid (by rw [HT.out]; simpa using hat.out)
              clear hx hy HT hat
              go_wp2
              go_roundw
              case rel => exact ⟨n, j + 1, rfl, rfl, by go_num, by omega, by first | rfl | trivial, HAT⟩
              case measure => simp [intOf]; omega
            | false =>
              by_cases hn : n = 0
              · subst hn
                have hit := rem_hit hgl.out hx hy
                have hls := rem_len_set hgl.out hx hy
                have hat' := hat.out
                rw [Nat.add_zero] at hat'
                rw [hat'] at hit
                have ST2 := ST.out
                rw [hit.1, hit.2] at ST2
                have ST3 := Lib.hid ST2
                have HLS := Lib.hid hls
                have HL3 : Hid ((acc ++ [x]).length = acc.length + 1) := Lib.hid (by simp)
                obtain ⟨b, o, rfl, hbb, cx⟩ := rl.int1 hx
                have cx2 : (wo.setCell ⟨G, j, none⟩ (.bool true)).cell? ⟨b, o + j, none⟩ = some (.int .u8 x) := (World.cell?_setCell_other _ _ _ _ (by intro e; injection e with e _ _; omega)).trans cx
                have row2 : Row1 G 4 (wo.setCell ⟨G, j, none⟩ (.bool true)) G ((gone.set j true).map Value.bool) := by
                  have := hrow.set j (.bool true); rwa [← List.map_set] at this
                have own2 : Own (fun z : Int => [Value.int .u8 z]) 1 5 (G + 1) (wo.setCell ⟨G, j, none⟩ (.bool true)) (.slice P acc.length c) acc := hown.far (fun k hk => by have := (World.ownsRow.lt hown k hk).1; show k ≠ G; omega) _
                have b2 := Gw.st hbw hG1 (p := ⟨G, j, none⟩) (.bool true)
                have sz2 : (wo.setCell ⟨G, j, none⟩ (.bool true)).heap.size = wo.heap.size := Gw.setSize _ _ _
                have SZ2 := Lib.hid sz2
                clear hx hy HT hat hat' hit hls ST2 sz2 hown hrow cx
                go_wp2_with (at_builtin; refine wpList_app _ rfl _ _ 22 rfl (G + 1) 5 i0 _ 1 Try.underlying22 hi0 hz0 hz1 hz2 rfl (by omega) (int_len .u8) (int_one .u8) _ acc rfl (own2.alloc _) acc.length rfl _ _ 1 1 [x] rfl rfl (Rd.oneAt .u8 _ _ SZ2.out.symm x _) (by omega) (by omega) (by have := SZ2.out; simp; omega) ?_; intro A' c' w4 hown4 hg4)
                go_roundw
                case rel => exact ⟨acc ++ [x], gone.set j true, A', c', by simp, by rw [HL3.out], by rw [HL3.out]; exact hown4, (row2.alloc _).keep hg4 (fun k hk => by have := Own.lt own2 k hk; omega), Lib.hid (by rw [List.length_set]; exact hgl.out), Lib.hid (by have := HLS.out; have := hrl.out; rw [HL3.out]; omega), by rw [HL3.out]; omega, Lib.hid (by rw [HL3.out]; exact ST3.out), by have h7 := hg4.size; have h8 := SZ2.out; rw [World.size_alloc] at h7; omega, Gw.gr (Gw.al b2 _) hg4 (fun k hk => by have := Own.lt own2 k hk; omega)⟩
                case measure => simp [intOf]; omega
              · have hn1 : (1 : Int) ≤ n := by omega
                have e1 : decide ((n : Int) = 0) = false := by simp; omega
                have HAT : Hid ((rem (l.take (j + 1)) (gone.take (j + 1))).length + (n - 1) = m) := Lib.hid (by have := hat.out; rw [HT.out]; simp; omega)
                clear hx hy HT hat
                go_wp2
                go_roundw
                case rel => exact ⟨n - 1, j + 1, rfl, by congr 1; omega, by go_num, by omega, by first | rfl | trivial, HAT⟩
                case measure => simp [intOf]; omega
          · have e1 : l.take j = l := List.take_of_length_le (by omega)
            have e2 : gone.take j = gone := List.take_of_length_le (by rw [hgl.out]; omega)
            have h3 := hat.out
            rw [e1, e2] at h3
            have h4 := HML.out
            omega
    · have hend : pickL (F.toNat - acc.length) (rem l gone) (ds.drop acc.length) = [] := by
        by_cases h1 : (acc.length : Int) < F
        · have : (rem l gone).length = 0 := by have := hrl.out; omega
          rw [List.length_eq_zero_iff.1 this, pickL_nil]
        · rw [show F.toNat - acc.length = 0 by omega]; rfl
      have HE := HA.out
      rw [hend, List.append_nil] at HE
      have HE2 := Lib.hid HE
      clear hend HE HA
      by_cases h1 : (acc.length : Int) < F
      · have h2 : decide (acc.length < l.length) = false := by simp; omega
        clear hc
        go_wp2
        go_ret
        rw [← HE2.out]
        exact ⟨P, c, rfl, hown.base_le (by omega), hbw⟩
      · have h2 : decide ((acc.length : Int) < F) = false := by simpa using h1
        clear hc
        go_wp2
        go_ret
        rw [← HE2.out]
        exact ⟨P, c, rfl, hown.base_le (by omega), hbw⟩
end Go.Proofs.Ytbkmfmemcooagaa
