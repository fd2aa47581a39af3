/-
  PulseMerge (14).
-/
import Derived.Test.YtgkdljfhmflmjaaLaw14A
import Derived.Test.YtgkdljfhmflmjaaMergeL
namespace Go.Proofs.Ytgkdljfhmflmjaa
open Go.RowKit
theorem run_min4 {P : Program} (w : World) (ts : Array TypeId) (t : TypeId) (x y z u : Int) : (Builtin.min_ ts t #[.int .i64 x, .int .i64 y, .int .i64 z, .int .i64 u]).run P w = .ok (.int .i64 (min (min (min x y) z) u)) w := by
  have e := fun (a b : Int) => (show (if b < a then b else a) = min a b by omega)
  simp [Builtin.min_, Builtin.min2, e]
theorem merge_n (p q : List Mb) (A B : Option Addr) (n c d : Nat) (w : World) (hp : p.length = n) (hq : q.length = n) (hr : Rd memc 3 w.heap.size w A p) (ho : Rd memc 3 w.heap.size w B q) (hn : n ≤ 200) (gq : Good q) :
    Calls Try.prog 21 #[.slice A n c, .slice B n d, .int .u8 255] w fun e w' => ∃ A' c', e = .returned (.slice A' n c') ∧ Own memc 3 27 w.heap.size w' (.slice A' n c') (mergeL p q 255) ∧ Below w.heap.size w w' := by
  have h := merge_any p q A B c d 255 w hr ho (by omega) (by omega) (by omega) (fun x hx => (gq x hx).1)
  rw [hp, hq] at h
  exact h
theorem take_d {P : Program} {ops : Array Oper} {Q : Exit → Act → World → Prop} {md : Region.Mode} {S : World → Prop} {i : Nat} {oi : Oper} {v : Value} {d : Option Nat} {fuel : Nat} {listed : Array Bool} {a : Act} {w : World} (hi : ops[i]? = some oi) (hd : oi.dst = d)
    (hs : Region.noSelect ops = true) (hf : Region.free md ops listed i = true) (hr : (Region.ready md ops listed).contains i = true)
    (hQ : ∀ c a w, Q (.panic c) (a.put oi.dst v) w → Q (.panic c) a w) (hy : YieldsIf P ops S oi v a) (hS : S w)
    (h : wpAnyH P md ops Q S fuel (listed.setIfInBounds i true) (a.put d v) w) : wpAnyH P md ops Q S (fuel + 1) listed a w :=
  wpAnyH_take hi hs hf hr hQ hy hS (hd ▸ h)
theorem tab1_good {x : Mb} (h : x.ok) : goodM (tab1 x) := by
  refine ⟨tab1_ok h, ?_, ?_⟩
  · intro h0
    unfold tab1 at h0 ⊢
    split
    · exact ⟨rfl, rfl⟩
    · rename_i hz
      rw [if_neg hz] at h0
      exact absurd h0 hz
  · intro h0
    unfold tab1 at h0 ⊢
    split
    · rename_i hz
      rw [if_pos hz] at h0
      exact absurd rfl h0
    · obtain ⟨_, ⟨h1, h2⟩, _⟩ := h
      show 1 ≤ 1 + x.s % 3 ∧ 1 + x.s % 3 ≤ 3
      omega
theorem table_good {l : List Mb} (h : ∀ x ∈ l, x.ok) : Good (tableL l) := fun x hx => by
  obtain ⟨y, hy, rfl⟩ := List.mem_map.1 hx
  exact tab1_good (h y hy)
set_option maxHeartbeats 4000000 in
theorem same1_any (p q : List Mb) (A B : Option Addr) (n c d : Nat) (w : World) (hn : n = p.length) (hm : n = q.length) (ha : Rd memc 3 w.heap.size w A p) (hb : Rd memc 3 w.heap.size w B q) (hs : sameL p q) (hl : p.length ≤ 1000) :
    Calls Try.prog 25 #[.slice A n c, .slice B n d] w fun e w' => e = .returned (.bool true) ∧ Below w.heap.size w w' := by
  have HN := Lib.hid hn
  have HM := Lib.hid hm
  have HS := Lib.hid hs
  have hl' : n ≤ 1000 := by omega
  clear hn hm hs hl
  go_enter Try.func25, Try.ntmps25
  go_wp2_with fail
  go_loopw [5, 8] (fun _ i wr => ∃ k : Nat, k ≤ n ∧ i = .int .i64 k ∧ Below w.heap.size w wr) (fun _ i _ => n - (intOf i).toNat)
  case atStart => exact ⟨0, Nat.zero_le _, rfl, Below.refl _ _⟩
  case round =>
    obtain ⟨k, hk, rfl, hw⟩ := hrel
    by_cases hlt : k < n
    · obtain ⟨x, hx⟩ : ∃ x, p[k]? = some x := ⟨_, List.getElem?_eq_getElem (by have := HN.out; omega)⟩
      obtain ⟨y, hy⟩ : ∃ y, q[k]? = some y := ⟨_, List.getElem?_eq_getElem (by have := HM.out; omega)⟩
      obtain ⟨s1, s2⟩ := HS.out.2 k x y hx hy
      obtain ⟨b1, o1, rfl, _, e0, e1, e2⟩ := (ha.below hw).mem3 hx
      obtain ⟨b2, o2, rfl, _, f0, f1, f2⟩ := (hb.below hw).mem3 hy
      rw [← s1] at f0
      rw [← s2] at f1
      clear hx hy ha hb s1 s2
      have t1 : decide ((n : Int) ≤ (k : Int)) = false := by simp; omega
      have ki : (k : Int) < (n : Int) := by omega
      go_wp2_with fail
      go_quiet (fail)
      go_wp2
      go_roundw
      case rel => exact ⟨k + 1, by omega, by go_num, Gw.drewN hw _⟩
      case measure => simp [intOf]; omega
    · obtain rfl : k = n := by omega
      go_wp2_with fail
      go_ret
      exact ⟨ret_bool (by simp), hw⟩
set_option maxRecDepth 100000 in
set_option maxHeartbeats 8000000 in
theorem pmerge_any (a b c : List Mb) (A B C : Option Addr) (ca cb cc : Nat) (w : World) (ha : Rd memc 3 w.heap.size w A a) (hb : Rd memc 3 w.heap.size w B b) (hc : Rd memc 3 w.heap.size w C c) (la : a.length ≤ ca) (lb : b.length ≤ cb) (lc : c.length ≤ cc) (ma : ca ≤ maxLen) (mb : cb ≤ maxLen) (mc : cc ≤ maxLen) (oa : ∀ x ∈ a, x.ok) (ob : ∀ x ∈ b, x.ok) (oc : ∀ x ∈ c, x.ok) :
    Calls Try.prog 7 #[.slice A a.length ca, .slice B b.length cb, .slice C c.length cc] w fun e w' => e = .returned (.bool true) ∧ Below w.heap.size w w' := by
  unfold maxLen at ma mb mc
  obtain ⟨mn, hmn⟩ : ∃ mn : Nat, mn = min (min (min a.length b.length) c.length) 12 := ⟨_, rfl⟩
  have mna : mn ≤ a.length := by omega
  have mnb : mn ≤ b.length := by omega
  have mnc : mn ≤ c.length := by omega
  have mn12 : mn ≤ 12 := by omega
  have tla : (a.take mn).length = mn := by simp; omega
  have tka : ∀ x ∈ a.take mn, x.ok := fun x hx => oa x (List.mem_of_mem_take hx)
  have HA := Lib.hid (fun W h => table_any (a.take mn) A ca W h (by omega) tka)
  rw [tla] at HA
  have mca : (mn : Int) ≤ (ca : Int) := by omega
  obtain ⟨Ta, hTa⟩ : ∃ T, T = tableL (a.take mn) := ⟨_, rfl⟩
  have La : Hid (Ta.length = mn) := Lib.hid (by rw [hTa, table_len, tla])
  have Ga : Hid (Good Ta) := Lib.hid (by rw [hTa]; exact table_good tka)
  rw [← hTa] at HA
  clear hTa tla tka
  have tlb : (b.take mn).length = mn := by simp; omega
  have tkb : ∀ x ∈ b.take mn, x.ok := fun x hx => ob x (List.mem_of_mem_take hx)
  have HB := Lib.hid (fun W h => table_any (b.take mn) B cb W h (by omega) tkb)
  rw [tlb] at HB
  have mcb : (mn : Int) ≤ (cb : Int) := by omega
  obtain ⟨Tb, hTb⟩ : ∃ T, T = tableL (b.take mn) := ⟨_, rfl⟩
  have Lb : Hid (Tb.length = mn) := Lib.hid (by rw [hTb, table_len, tlb])
  have Gb : Hid (Good Tb) := Lib.hid (by rw [hTb]; exact table_good tkb)
  rw [← hTb] at HB
  clear hTb tlb tkb
  have tlc : (c.take mn).length = mn := by simp; omega
  have tkc : ∀ x ∈ c.take mn, x.ok := fun x hx => oc x (List.mem_of_mem_take hx)
  have HC := Lib.hid (fun W h => table_any (c.take mn) C cc W h (by omega) tkc)
  rw [tlc] at HC
  have mcc : (mn : Int) ≤ (cc : Int) := by omega
  obtain ⟨Tc, hTc⟩ : ∃ T, T = tableL (c.take mn) := ⟨_, rfl⟩
  have Lc : Hid (Tc.length = mn) := Lib.hid (by rw [hTc, table_len, tlc])
  have Gc : Hid (Good Tc) := Lib.hid (by rw [hTc]; exact table_good tkc)
  rw [← hTc] at HC
  clear hTc tlc tkc
  have ra := ha.take mn
  have rb := hb.take mn
  have rc := hc.take mn
  clear ha hb hc oa ob oc
  have HMN := Lib.hid hmn
  clear hmn
  have hm4 : ∀ w, (Builtin.min_ #[3, 3, 3, 3] 3 #[.int .i64 a.length, .int .i64 b.length, .int .i64 c.length, .int .i64 12]).run Try.prog w = .ok (.int .i64 mn) w := fun w => by rw [run_min4]; rw [show min (min (min (a.length : Int) b.length) c.length) 12 = (mn : Int) by have := HMN.out; omega]
  go_enter Try.func7, Try.ntmps7
  go_upto_region 2 with fail
  have b0 := Below.refl w.heap.size w
  go_region_held3 (fun W => True) (first | trivial) (first
    | ((with_reducible show Calls _ _ _ _ _); go_at_call 14; (with_reducible refine (HA.out _ (ra.up (Gw.drew b0))).mono ?_); rintro e w1 ⟨A1, c1, rfl, ox, hb⟩; replace b0 := Gw.call (Gw.drew b0) hb; clear hb; dsimp only)
    | ((with_reducible show Calls _ _ _ _ _); go_at_call 14; (with_reducible refine (HB.out _ (rb.up b0)).mono ?_); rintro e w1 ⟨A2, c2, rfl, oy, hb⟩; replace ox := Own.below ox hb; replace b0 := Gw.call b0 hb; clear hb; dsimp only)
    | ((with_reducible show Calls _ _ _ _ _); go_at_call 14; (with_reducible refine (HC.out _ (rc.up b0)).mono ?_); rintro e w1 ⟨A3, c3, rfl, oz, hb⟩; replace ox := Own.below ox hb; replace oy := Own.below oy hb; replace b0 := Gw.call b0 hb; clear hb; dsimp only)
    | fail)
  clear HA HB HC ra rb rc hm4
  have rx := ox.rd memc_len
  have ry := oy.rd memc_len
  have rz := oz.rd memc_len
  clear ox oy oz
  have la' : mn ≤ 200 := by omega
  go_wp2_with fail
  have bb := b0
  refine (merge_n Ta Tb A1 A2 mn c1 c2 _ La.out Lb.out rx ry la' Gb.out).mono ?_
  rintro e w1 ⟨A4, c4, rfl, oo, hb⟩
  have b1 := Gw.call bb hb
  replace rx := Rd.up rx hb
  replace ry := Rd.up ry hb
  replace rz := Rd.up rz hb
  have rm := oo.rd memc_len
  clear hb bb b0
  clear oo
  go_wp2_with fail
  have bb := b1
  refine (merge_n Tb Ta A2 A1 mn c2 c1 _ Lb.out La.out ry rx la' Ga.out).mono ?_
  rintro e w2 ⟨A5, c5, rfl, oo, hb⟩
  have b2 := Gw.call bb hb
  replace rx := Rd.up rx hb
  replace ry := Rd.up ry hb
  replace rz := Rd.up rz hb
  replace rm := Rd.up rm hb
  have r5 := oo.rd memc_len
  clear hb bb b1
  clear oo
  go_wp2_with fail
  have bb := b2
  refine (same1_any (mergeL Ta Tb 255) (mergeL Tb Ta 255) A4 A5 mn c4 c5 _ (by rw [merge_len]; exact La.out.symm) (by rw [merge_len]; exact Lb.out.symm) rm r5 (merge_comm (La.out.trans Lb.out.symm) (by have := La.out; omega) Ga.out Gb.out) (by rw [merge_len]; have := La.out; omega)).mono ?_
  rintro e w3 ⟨rfl, hb⟩
  have b3 := Gw.call bb hb
  replace rx := Rd.up rx hb
  replace ry := Rd.up ry hb
  replace rz := Rd.up rz hb
  replace rm := Rd.up rm hb
  clear r5
  clear hb bb b2
  go_wp2_with fail
  have bb := b3
  refine (merge_n (mergeL Ta Tb 255) Tc A4 A3 mn c4 c3 _ (by rw [merge_len]; exact La.out) Lc.out rm rz la' Gc.out).mono ?_
  rintro e w4 ⟨A6, c6, rfl, oo, hb⟩
  have b4 := Gw.call bb hb
  replace rx := Rd.up rx hb
  replace ry := Rd.up ry hb
  replace rz := Rd.up rz hb
  replace rm := Rd.up rm hb
  have r6 := oo.rd memc_len
  clear hb bb b3
  clear oo
  go_wp2_with fail
  have bb := b4
  refine (merge_n Tb Tc A2 A3 mn c2 c3 _ Lb.out Lc.out ry rz la' Gc.out).mono ?_
  rintro e w5 ⟨A7, c7, rfl, oo, hb⟩
  have b5 := Gw.call bb hb
  replace rx := Rd.up rx hb
  replace ry := Rd.up ry hb
  replace rz := Rd.up rz hb
  replace rm := Rd.up rm hb
  replace r6 := Rd.up r6 hb
  have r7 := oo.rd memc_len
  clear hb bb b4
  clear oo
  go_wp2_with fail
  have bb := b5
  refine (merge_n Ta (mergeL Tb Tc 255) A1 A7 mn c1 c7 _ La.out (by rw [merge_len]; exact Lb.out) rx r7 la' (merge_good (Lb.out.trans Lc.out.symm) (by have := Lb.out; omega) Gb.out Gc.out)).mono ?_
  rintro e w6 ⟨A8, c8, rfl, oo, hb⟩
  have b6 := Gw.call bb hb
  replace rx := Rd.up rx hb
  replace ry := Rd.up ry hb
  replace rz := Rd.up rz hb
  replace rm := Rd.up rm hb
  replace r6 := Rd.up r6 hb
  replace r7 := Rd.up r7 hb
  have r8 := oo.rd memc_len
  clear hb bb b5
  clear oo
  go_wp2_with fail
  have bb := b6
  refine (same1_any (mergeL (mergeL Ta Tb 255) Tc 255) (mergeL Ta (mergeL Tb Tc 255) 255) A6 A8 mn c6 c8 _ (by rw [merge_len, merge_len]; exact La.out.symm) (by rw [merge_len]; exact La.out.symm) r6 r8 (merge_assoc (La.out.trans Lb.out.symm) (Lb.out.trans Lc.out.symm) (by have := La.out; omega) Ga.out Gb.out Gc.out) (by rw [merge_len, merge_len]; have := La.out; omega)).mono ?_
  rintro e w7 ⟨rfl, hb⟩
  have b7 := Gw.call bb hb
  replace rx := Rd.up rx hb
  replace ry := Rd.up ry hb
  replace rz := Rd.up rz hb
  replace rm := Rd.up rm hb
  clear r6
  clear r7
  clear r8
  clear hb bb b6
  go_wp2_with fail
  have bb := b7
  refine (merge_n (mergeL Ta Tb 255) Tb A4 A2 mn c4 c2 _ (by rw [merge_len]; exact La.out) Lb.out rm ry la' Gb.out).mono ?_
  rintro e w8 ⟨A9, c9, rfl, oo, hb⟩
  have b8 := Gw.call bb hb
  replace rx := Rd.up rx hb
  replace ry := Rd.up ry hb
  replace rz := Rd.up rz hb
  replace rm := Rd.up rm hb
  have r9 := oo.rd memc_len
  clear hb bb b7
  clear oo
  go_wp2_with fail
  have bb := b8
  refine (members_any (mergeL (mergeL Ta Tb 255) Tb 255) (mergeL Ta Tb 255) A9 A4 mn mn c9 c4 _ (by rw [merge_len, merge_len]; exact La.out.symm) (by rw [merge_len]; exact La.out.symm) r9 rm (by rw [merge_len, merge_len]; have := La.out; omega) (by rw [merge_len]; have := La.out; omega)).mono ?_
  rintro e w9 ⟨rfl, hb⟩
  have b9 := Gw.call bb hb
  replace rx := Rd.up rx hb
  replace ry := Rd.up ry hb
  replace rz := Rd.up rz hb
  replace rm := Rd.up rm hb
  clear r9
  clear hb bb b8
  rw [merge_again (La.out.trans Lb.out.symm) (by have := La.out; omega) Ga.out Gb.out, decide_eq_true rfl]
  go_wp2_with fail
  have bb := b9
  refine (merge_n Ta Ta A1 A1 mn c1 c1 _ La.out La.out rx rx la' Ga.out).mono ?_
  rintro e w10 ⟨A10, c10, rfl, oo, hb⟩
  have b10 := Gw.call bb hb
  replace rx := Rd.up rx hb
  replace ry := Rd.up ry hb
  replace rz := Rd.up rz hb
  replace rm := Rd.up rm hb
  have r10 := oo.rd memc_len
  clear hb bb b9
  clear oo
  go_wp2_with fail
  have bb := b10
  refine (members_any (mergeL Ta Ta 255) Ta A10 A1 mn mn c10 c1 _ (by rw [merge_len]; exact La.out.symm) La.out.symm r10 rx (by rw [merge_len]; have := La.out; omega) (by have := La.out; omega)).mono ?_
  rintro e w11 ⟨rfl, hb⟩
  have b11 := Gw.call bb hb
  replace rx := Rd.up rx hb
  replace ry := Rd.up ry hb
  replace rz := Rd.up rz hb
  replace rm := Rd.up rm hb
  clear r10
  clear hb bb b10
  rw [merge_self (by have := La.out; omega), decide_eq_true rfl]
  go_wp2_with fail
  go_loopw [13, 74] (fun _ i wr => ∃ k : Nat, k ≤ mn ∧ i = .int .i64 k ∧ Below w.heap.size w wr ∧ Rd memc 3 wr.heap.size wr A1 Ta ∧ Rd memc 3 wr.heap.size wr A2 Tb ∧ Rd memc 3 wr.heap.size wr A4 (mergeL Ta Tb 255)) (fun _ i _ => mn - (intOf i).toNat)
  case atStart => exact ⟨0, Nat.zero_le _, rfl, b11, rx, ry, rm⟩
  case round =>
    obtain ⟨k, hk, rfl, bl, rx, ry, rm⟩ := hrel
    by_cases hlt : k < mn
    · obtain ⟨x, y, hx, hy⟩ := pair_get (La.out.trans Lb.out.symm) (j := k) (by have := La.out; omega)
      have hm := merge_get (La.out.trans Lb.out.symm) (by have := La.out; omega) hx hy
      have gx := Ga.out x (List.mem_of_getElem? hx)
      have gy := Gb.out y (List.mem_of_getElem? hy)
      obtain ⟨z, hz⟩ : ∃ z, z = mrg x y := ⟨_, rfl⟩
      have N1 := newer_mx gx gy
      have N2 := newer_my gx gy
      have N3 := mrg_either x y
      rw [← hz] at hm N1 N2 N3
      obtain ⟨b1, o1, rfl, hb1, d0, d1, d2⟩ := rx.mem3 hx
      obtain ⟨b2, o2, rfl, hb2, e0, e1, e2⟩ := ry.mem3 hy
      obtain ⟨b4, o4, rfl, hb4, f0, f1, f2⟩ := rm.mem3 hm
      have C1 := Lib.hid (fun W => N1 ▸ newerm_any x z W)
      have C2 := Lib.hid (fun W => N2 ▸ newerm_any y z W)
      have ki : (k : Int) < (mn : Int) := by omega
      clear hx hy hm gx gy hz N1 N2
      have b := Below.refl wr.heap.size wr
      have HB : Hid (∀ W, Below wr.heap.size wr W → (fun W => W.cell? ⟨b1, o1 + k * 3, none⟩ = some (.int .u16 x.i) ∧ W.cell? ⟨b1, o1 + k * 3 + 1, none⟩ = some (.int .u8 x.s) ∧ W.cell? ⟨b1, o1 + k * 3 + 2, none⟩ = some (.int .u8 x.q) ∧ W.cell? ⟨b2, o2 + k * 3, none⟩ = some (.int .u16 y.i) ∧ W.cell? ⟨b2, o2 + k * 3 + 1, none⟩ = some (.int .u8 y.s) ∧ W.cell? ⟨b2, o2 + k * 3 + 2, none⟩ = some (.int .u8 y.q) ∧ W.cell? ⟨b4, o4 + k * 3, none⟩ = some (.int .u16 z.i) ∧ W.cell? ⟨b4, o4 + k * 3 + 1, none⟩ = some (.int .u8 z.s) ∧ W.cell? ⟨b4, o4 + k * 3 + 2, none⟩ = some (.int .u8 z.q)) W) := Lib.hid fun W hb => ⟨(hb.cell (p := ⟨b1, o1 + k * 3, none⟩) hb1).trans d0, (hb.cell (p := ⟨b1, o1 + k * 3 + 1, none⟩) hb1).trans d1, (hb.cell (p := ⟨b1, o1 + k * 3 + 2, none⟩) hb1).trans d2, (hb.cell (p := ⟨b2, o2 + k * 3, none⟩) hb2).trans e0, (hb.cell (p := ⟨b2, o2 + k * 3 + 1, none⟩) hb2).trans e1, (hb.cell (p := ⟨b2, o2 + k * 3 + 2, none⟩) hb2).trans e2, (hb.cell (p := ⟨b4, o4 + k * 3, none⟩) hb4).trans f0, (hb.cell (p := ⟨b4, o4 + k * 3 + 1, none⟩) hb4).trans f1, (hb.cell (p := ⟨b4, o4 + k * 3 + 2, none⟩) hb4).trans f2⟩
      rcases N3 with N3 | N3
      · have C3 := Lib.hid (fun W => N3 ▸ newerm_any z x W)
        clear N3
        go_upto_region 10 with fail
        refine wp_region_held_drew (S := fun W => W.cell? ⟨b1, o1 + k * 3, none⟩ = some (.int .u16 x.i) ∧ W.cell? ⟨b1, o1 + k * 3 + 1, none⟩ = some (.int .u8 x.s) ∧ W.cell? ⟨b1, o1 + k * 3 + 2, none⟩ = some (.int .u8 x.q) ∧ W.cell? ⟨b2, o2 + k * 3, none⟩ = some (.int .u16 y.i) ∧ W.cell? ⟨b2, o2 + k * 3 + 1, none⟩ = some (.int .u8 y.s) ∧ W.cell? ⟨b2, o2 + k * 3 + 2, none⟩ = some (.int .u8 y.q) ∧ W.cell? ⟨b4, o4 + k * 3, none⟩ = some (.int .u16 z.i) ∧ W.cell? ⟨b4, o4 + k * 3 + 1, none⟩ = some (.int .u8 z.s) ∧ W.cell? ⟨b4, o4 + k * 3 + 2, none⟩ = some (.int .u8 z.q)) (by kernel_rfl) (HB.out _ (Below.drew b)) (fun hHeld => ?_)
        refine take_d (i := 0) (oi := _) (v := ?_) (d := some 77) rfl (by kernel_rfl) (by kernel_rfl) (by kernel_rfl) (by kernel_rfl) (fun _ _ _ h => h) (Or.inl ⟨by kernel_rfl, ?_⟩) hHeld ?_
        rotate_left
        · intro w hSw; (try dsimp only at hSw); go_simp; (try with_reducible rfl)
        try simp only [Act.put, List.setIfInBounds_toArray, List.set_cons_zero, List.set_cons_succ]
        refine take_d (i := 1) (oi := _) (v := ?_) (d := some 78) rfl (by kernel_rfl) (by kernel_rfl) (by kernel_rfl) (by kernel_rfl) (fun _ _ _ h => h) (Or.inl ⟨by kernel_rfl, ?_⟩) hHeld ?_
        rotate_left
        · intro w hSw; (try dsimp only at hSw); go_simp; (try with_reducible rfl)
        try simp only [Act.put, List.setIfInBounds_toArray, List.set_cons_zero, List.set_cons_succ]
        refine take_d (i := 2) (oi := _) (v := ?_) (d := some 79) rfl (by kernel_rfl) (by kernel_rfl) (by kernel_rfl) (by kernel_rfl) (fun _ _ _ h => h) (Or.inl ⟨by kernel_rfl, ?_⟩) hHeld ?_
        rotate_left
        · intro w hSw; (try dsimp only at hSw); go_simp; (try with_reducible rfl)
        try simp only [Act.put, List.setIfInBounds_toArray, List.set_cons_zero, List.set_cons_succ]
        refine take_d (i := 3) (oi := _) (v := ?_) (d := some 80) rfl (by kernel_rfl) (by kernel_rfl) (by kernel_rfl) (by kernel_rfl) (fun _ _ _ h => h) (Or.inl ⟨by kernel_rfl, ?_⟩) hHeld ?_
        rotate_left
        · intro w hSw; (try dsimp only at hSw); go_simp; (try with_reducible rfl)
        try simp only [Act.put, List.setIfInBounds_toArray, List.set_cons_zero, List.set_cons_succ]
        refine take_d (i := 4) (oi := _) (v := ?_) (d := some 81) rfl (by kernel_rfl) (by kernel_rfl) (by kernel_rfl) (by kernel_rfl) (fun _ _ _ h => h) (Or.inl ⟨by kernel_rfl, ?_⟩) hHeld ?_
        rotate_left
        · intro w hSw; (try dsimp only at hSw); go_simp; (try with_reducible rfl)
        try simp only [Act.put, List.setIfInBounds_toArray, List.set_cons_zero, List.set_cons_succ]
        refine take_d (i := 5) (oi := _) (v := ?_) (d := some 82) rfl (by kernel_rfl) (by kernel_rfl) (by kernel_rfl) (by kernel_rfl) (fun _ _ _ h => h) (Or.inl ⟨by kernel_rfl, ?_⟩) hHeld ?_
        rotate_left
        · intro w hSw; (try dsimp only at hSw); go_simp; (try with_reducible rfl)
        try simp only [Act.put, List.setIfInBounds_toArray, List.set_cons_zero, List.set_cons_succ]
        refine take_d (i := 6) (oi := _) (v := ?_) (d := some 83) rfl (by kernel_rfl) (by kernel_rfl) (by kernel_rfl) (by kernel_rfl) (fun _ _ _ h => h) (Or.inl ⟨by kernel_rfl, ?_⟩) hHeld ?_
        rotate_left
        · intro w hSw; (try dsimp only at hSw); go_simp; (try with_reducible rfl)
        try simp only [Act.put, List.setIfInBounds_toArray, List.set_cons_zero, List.set_cons_succ]
        refine take_d (i := 7) (oi := _) (v := ?_) (d := some 84) rfl (by kernel_rfl) (by kernel_rfl) (by kernel_rfl) (by kernel_rfl) (fun _ _ _ h => h) (Or.inl ⟨by kernel_rfl, ?_⟩) hHeld ?_
        rotate_left
        · intro w hSw; (try dsimp only at hSw); go_simp; (try with_reducible rfl)
        try simp only [Act.put, List.setIfInBounds_toArray, List.set_cons_zero, List.set_cons_succ]
        refine wpAnyH_ready (rs := [8]) (by kernel_rfl) (by simp) ?_
        refine AllReadyH.cons rfl (fun K hK => ?_) AllReadyH.nil
        go_simp
        refine (C1.out _).mono ?_
        rintro e u1 ⟨rfl, hb⟩
        replace b := (by first | exact Gw.call b hb | exact Gw.call (Below.drew b) hb)
        clear hb
        dsimp only
        refine hK.out _ _ (HB.out _ b) (fun hHeld => ?_)
        clear hK K
        try simp only [Act.put, List.setIfInBounds_toArray, List.set_cons_zero, List.set_cons_succ]
        refine take_d (i := 9) (oi := _) (v := ?_) (d := some 86) rfl (by kernel_rfl) (by kernel_rfl) (by kernel_rfl) (by kernel_rfl) (fun _ _ _ h => h) (Or.inl ⟨by kernel_rfl, ?_⟩) hHeld ?_
        rotate_left
        · intro w hSw; (try dsimp only at hSw); go_simp; (try with_reducible rfl)
        try simp only [Act.put, List.setIfInBounds_toArray, List.set_cons_zero, List.set_cons_succ]
        refine take_d (i := 10) (oi := _) (v := ?_) (d := some 87) rfl (by kernel_rfl) (by kernel_rfl) (by kernel_rfl) (by kernel_rfl) (fun _ _ _ h => h) (Or.inl ⟨by kernel_rfl, ?_⟩) hHeld ?_
        rotate_left
        · intro w hSw; (try dsimp only at hSw); go_simp; (try with_reducible rfl)
        try simp only [Act.put, List.setIfInBounds_toArray, List.set_cons_zero, List.set_cons_succ]
        refine take_d (i := 11) (oi := _) (v := ?_) (d := some 88) rfl (by kernel_rfl) (by kernel_rfl) (by kernel_rfl) (by kernel_rfl) (fun _ _ _ h => h) (Or.inl ⟨by kernel_rfl, ?_⟩) hHeld ?_
        rotate_left
        · intro w hSw; (try dsimp only at hSw); go_simp; (try with_reducible rfl)
        try simp only [Act.put, List.setIfInBounds_toArray, List.set_cons_zero, List.set_cons_succ]
        refine take_d (i := 12) (oi := _) (v := ?_) (d := some 89) rfl (by kernel_rfl) (by kernel_rfl) (by kernel_rfl) (by kernel_rfl) (fun _ _ _ h => h) (Or.inl ⟨by kernel_rfl, ?_⟩) hHeld ?_
        rotate_left
        · intro w hSw; (try dsimp only at hSw); go_simp; (try with_reducible rfl)
        try simp only [Act.put, List.setIfInBounds_toArray, List.set_cons_zero, List.set_cons_succ]
        refine take_d (i := 13) (oi := _) (v := ?_) (d := some 90) rfl (by kernel_rfl) (by kernel_rfl) (by kernel_rfl) (by kernel_rfl) (fun _ _ _ h => h) (Or.inl ⟨by kernel_rfl, ?_⟩) hHeld ?_
        rotate_left
        · intro w hSw; (try dsimp only at hSw); go_simp; (try with_reducible rfl)
        try simp only [Act.put, List.setIfInBounds_toArray, List.set_cons_zero, List.set_cons_succ]
        refine take_d (i := 14) (oi := _) (v := ?_) (d := some 91) rfl (by kernel_rfl) (by kernel_rfl) (by kernel_rfl) (by kernel_rfl) (fun _ _ _ h => h) (Or.inl ⟨by kernel_rfl, ?_⟩) hHeld ?_
        rotate_left
        · intro w hSw; (try dsimp only at hSw); go_simp; (try with_reducible rfl)
        try simp only [Act.put, List.setIfInBounds_toArray, List.set_cons_zero, List.set_cons_succ]
        refine take_d (i := 15) (oi := _) (v := ?_) (d := some 92) rfl (by kernel_rfl) (by kernel_rfl) (by kernel_rfl) (by kernel_rfl) (fun _ _ _ h => h) (Or.inl ⟨by kernel_rfl, ?_⟩) hHeld ?_
        rotate_left
        · intro w hSw; (try dsimp only at hSw); go_simp; (try with_reducible rfl)
        try simp only [Act.put, List.setIfInBounds_toArray, List.set_cons_zero, List.set_cons_succ]
        refine take_d (i := 16) (oi := _) (v := ?_) (d := some 93) rfl (by kernel_rfl) (by kernel_rfl) (by kernel_rfl) (by kernel_rfl) (fun _ _ _ h => h) (Or.inl ⟨by kernel_rfl, ?_⟩) hHeld ?_
        rotate_left
        · intro w hSw; (try dsimp only at hSw); go_simp; (try with_reducible rfl)
        try simp only [Act.put, List.setIfInBounds_toArray, List.set_cons_zero, List.set_cons_succ]
        refine take_d (i := 17) (oi := _) (v := ?_) (d := some 94) rfl (by kernel_rfl) (by kernel_rfl) (by kernel_rfl) (by kernel_rfl) (fun _ _ _ h => h) (Or.inl ⟨by kernel_rfl, ?_⟩) hHeld ?_
        rotate_left
        · intro w hSw; (try dsimp only at hSw); go_simp; (try with_reducible rfl)
        try simp only [Act.put, List.setIfInBounds_toArray, List.set_cons_zero, List.set_cons_succ]
        refine wpAnyH_ready (rs := [18]) (by kernel_rfl) (by simp) ?_
        refine AllReadyH.cons rfl (fun K hK => ?_) AllReadyH.nil
        go_simp
        refine (C2.out _).mono ?_
        rintro e u2 ⟨rfl, hb⟩
        replace b := (by first | exact Gw.call b hb | exact Gw.call (Below.drew b) hb)
        clear hb
        dsimp only
        refine hK.out _ _ (HB.out _ b) (fun hHeld => ?_)
        clear hK K
        try simp only [Act.put, List.setIfInBounds_toArray, List.set_cons_zero, List.set_cons_succ]
        refine take_d (i := 19) (oi := _) (v := ?_) (d := some 96) rfl (by kernel_rfl) (by kernel_rfl) (by kernel_rfl) (by kernel_rfl) (fun _ _ _ h => h) (Or.inl ⟨by kernel_rfl, ?_⟩) hHeld ?_
        rotate_left
        · intro w hSw; (try dsimp only at hSw); go_simp; (try with_reducible rfl)
        try simp only [Act.put, List.setIfInBounds_toArray, List.set_cons_zero, List.set_cons_succ]
        refine take_d (i := 20) (oi := _) (v := ?_) (d := some 97) rfl (by kernel_rfl) (by kernel_rfl) (by kernel_rfl) (by kernel_rfl) (fun _ _ _ h => h) (Or.inl ⟨by kernel_rfl, ?_⟩) hHeld ?_
        rotate_left
        · intro w hSw; (try dsimp only at hSw); go_simp; (try with_reducible rfl)
        try simp only [Act.put, List.setIfInBounds_toArray, List.set_cons_zero, List.set_cons_succ]
        refine take_d (i := 21) (oi := _) (v := ?_) (d := some 98) rfl (by kernel_rfl) (by kernel_rfl) (by kernel_rfl) (by kernel_rfl) (fun _ _ _ h => h) (Or.inl ⟨by kernel_rfl, ?_⟩) hHeld ?_
        rotate_left
        · intro w hSw; (try dsimp only at hSw); go_simp; (try with_reducible rfl)
        try simp only [Act.put, List.setIfInBounds_toArray, List.set_cons_zero, List.set_cons_succ]
        refine take_d (i := 22) (oi := _) (v := ?_) (d := some 99) rfl (by kernel_rfl) (by kernel_rfl) (by kernel_rfl) (by kernel_rfl) (fun _ _ _ h => h) (Or.inl ⟨by kernel_rfl, ?_⟩) hHeld ?_
        rotate_left
        · intro w hSw; (try dsimp only at hSw); go_simp; (try with_reducible rfl)
        try simp only [Act.put, List.setIfInBounds_toArray, List.set_cons_zero, List.set_cons_succ]
        refine take_d (i := 23) (oi := _) (v := ?_) (d := some 100) rfl (by kernel_rfl) (by kernel_rfl) (by kernel_rfl) (by kernel_rfl) (fun _ _ _ h => h) (Or.inl ⟨by kernel_rfl, ?_⟩) hHeld ?_
        rotate_left
        · intro w hSw; (try dsimp only at hSw); go_simp; (try with_reducible rfl)
        try simp only [Act.put, List.setIfInBounds_toArray, List.set_cons_zero, List.set_cons_succ]
        refine take_d (i := 24) (oi := _) (v := ?_) (d := some 101) rfl (by kernel_rfl) (by kernel_rfl) (by kernel_rfl) (by kernel_rfl) (fun _ _ _ h => h) (Or.inl ⟨by kernel_rfl, ?_⟩) hHeld ?_
        rotate_left
        · intro w hSw; (try dsimp only at hSw); go_simp; (try with_reducible rfl)
        try simp only [Act.put, List.setIfInBounds_toArray, List.set_cons_zero, List.set_cons_succ]
        refine take_d (i := 25) (oi := _) (v := ?_) (d := some 102) rfl (by kernel_rfl) (by kernel_rfl) (by kernel_rfl) (by kernel_rfl) (fun _ _ _ h => h) (Or.inl ⟨by kernel_rfl, ?_⟩) hHeld ?_
        rotate_left
        · intro w hSw; (try dsimp only at hSw); go_simp; (try with_reducible rfl)
        try simp only [Act.put, List.setIfInBounds_toArray, List.set_cons_zero, List.set_cons_succ]
        refine take_d (i := 26) (oi := _) (v := ?_) (d := some 103) rfl (by kernel_rfl) (by kernel_rfl) (by kernel_rfl) (by kernel_rfl) (fun _ _ _ h => h) (Or.inl ⟨by kernel_rfl, ?_⟩) hHeld ?_
        rotate_left
        · intro w hSw; (try dsimp only at hSw); go_simp; (try with_reducible rfl)
        try simp only [Act.put, List.setIfInBounds_toArray, List.set_cons_zero, List.set_cons_succ]
        refine take_d (i := 27) (oi := _) (v := ?_) (d := some 104) rfl (by kernel_rfl) (by kernel_rfl) (by kernel_rfl) (by kernel_rfl) (fun _ _ _ h => h) (Or.inl ⟨by kernel_rfl, ?_⟩) hHeld ?_
        rotate_left
        · intro w hSw; (try dsimp only at hSw); go_simp; (try with_reducible rfl)
        try simp only [Act.put, List.setIfInBounds_toArray, List.set_cons_zero, List.set_cons_succ]
        refine take_d (i := 28) (oi := _) (v := ?_) (d := some 105) rfl (by kernel_rfl) (by kernel_rfl) (by kernel_rfl) (by kernel_rfl) (fun _ _ _ h => h) (Or.inl ⟨by kernel_rfl, ?_⟩) hHeld ?_
        rotate_left
        · intro w hSw; (try dsimp only at hSw); go_simp; (try with_reducible rfl)
        try simp only [Act.put, List.setIfInBounds_toArray, List.set_cons_zero, List.set_cons_succ]
        refine wpAnyH_ready (rs := [29]) (by kernel_rfl) (by simp) ?_
        refine AllReadyH.cons rfl (fun K hK => ?_) AllReadyH.nil
        go_simp
        refine (C3.out _).mono ?_
        rintro e u3 ⟨rfl, hb⟩
        replace b := (by first | exact Gw.call b hb | exact Gw.call (Below.drew b) hb)
        clear hb
        dsimp only
        refine hK.out _ _ (HB.out _ b) (fun hHeld => ?_)
        clear hK K
        try simp only [Act.put, List.setIfInBounds_toArray, List.set_cons_zero, List.set_cons_succ]
        refine take_d (i := 30) (oi := _) (v := ?_) (d := some 107) rfl (by kernel_rfl) (by kernel_rfl) (by kernel_rfl) (by kernel_rfl) (fun _ _ _ h => h) (Or.inl ⟨by kernel_rfl, ?_⟩) hHeld ?_
        rotate_left
        · intro w hSw; (try dsimp only at hSw); go_simp; (try with_reducible rfl)
        try simp only [Act.put, List.setIfInBounds_toArray, List.set_cons_zero, List.set_cons_succ]
        refine take_d (i := 31) (oi := _) (v := ?_) (d := some 108) rfl (by kernel_rfl) (by kernel_rfl) (by kernel_rfl) (by kernel_rfl) (fun _ _ _ h => h) (Or.inl ⟨by kernel_rfl, ?_⟩) hHeld ?_
        rotate_left
        · intro w hSw; (try dsimp only at hSw); go_simp; (try with_reducible rfl)
        try simp only [Act.put, List.setIfInBounds_toArray, List.set_cons_zero, List.set_cons_succ]
        refine take_d (i := 32) (oi := _) (v := undef) (d := some 109) rfl (by kernel_rfl) (by kernel_rfl) (by kernel_rfl) (by kernel_rfl) (fun _ _ _ h => h) (Or.inr ⟨by kernel_rfl, rfl⟩) hHeld ?_
        try simp only [Act.put, List.setIfInBounds_toArray, List.set_cons_zero, List.set_cons_succ]
        refine take_d (i := 33) (oi := _) (v := undef) (d := some 110) rfl (by kernel_rfl) (by kernel_rfl) (by kernel_rfl) (by kernel_rfl) (fun _ _ _ h => h) (Or.inr ⟨by kernel_rfl, rfl⟩) hHeld ?_
        try simp only [Act.put, List.setIfInBounds_toArray, List.set_cons_zero, List.set_cons_succ]
        refine take_d (i := 34) (oi := _) (v := undef) (d := some 111) rfl (by kernel_rfl) (by kernel_rfl) (by kernel_rfl) (by kernel_rfl) (fun _ _ _ h => h) (Or.inr ⟨by kernel_rfl, rfl⟩) hHeld ?_
        try simp only [Act.put, List.setIfInBounds_toArray, List.set_cons_zero, List.set_cons_succ]
        refine take_d (i := 35) (oi := _) (v := undef) (d := some 112) rfl (by kernel_rfl) (by kernel_rfl) (by kernel_rfl) (by kernel_rfl) (fun _ _ _ h => h) (Or.inr ⟨by kernel_rfl, rfl⟩) hHeld ?_
        try simp only [Act.put, List.setIfInBounds_toArray, List.set_cons_zero, List.set_cons_succ]
        refine take_d (i := 36) (oi := _) (v := undef) (d := some 113) rfl (by kernel_rfl) (by kernel_rfl) (by kernel_rfl) (by kernel_rfl) (fun _ _ _ h => h) (Or.inr ⟨by kernel_rfl, rfl⟩) hHeld ?_
        try simp only [Act.put, List.setIfInBounds_toArray, List.set_cons_zero, List.set_cons_succ]
        refine take_d (i := 37) (oi := _) (v := undef) (d := some 114) rfl (by kernel_rfl) (by kernel_rfl) (by kernel_rfl) (by kernel_rfl) (fun _ _ _ h => h) (Or.inr ⟨by kernel_rfl, rfl⟩) hHeld ?_
        try simp only [Act.put, List.setIfInBounds_toArray, List.set_cons_zero, List.set_cons_succ]
        refine take_d (i := 38) (oi := _) (v := undef) (d := some 115) rfl (by kernel_rfl) (by kernel_rfl) (by kernel_rfl) (by kernel_rfl) (fun _ _ _ h => h) (Or.inr ⟨by kernel_rfl, rfl⟩) hHeld ?_
        try simp only [Act.put, List.setIfInBounds_toArray, List.set_cons_zero, List.set_cons_succ]
        refine take_d (i := 39) (oi := _) (v := undef) (d := some 116) rfl (by kernel_rfl) (by kernel_rfl) (by kernel_rfl) (by kernel_rfl) (fun _ _ _ h => h) (Or.inr ⟨by kernel_rfl, rfl⟩) hHeld ?_
        try simp only [Act.put, List.setIfInBounds_toArray, List.set_cons_zero, List.set_cons_succ]
        refine take_d (i := 40) (oi := _) (v := undef) (d := some 117) rfl (by kernel_rfl) (by kernel_rfl) (by kernel_rfl) (by kernel_rfl) (fun _ _ _ h => h) (Or.inr ⟨by kernel_rfl, rfl⟩) hHeld ?_
        try simp only [Act.put, List.setIfInBounds_toArray, List.set_cons_zero, List.set_cons_succ]
        refine take_d (i := 41) (oi := _) (v := ?_) (d := some 118) rfl (by kernel_rfl) (by kernel_rfl) (by kernel_rfl) (by kernel_rfl) (fun _ _ _ h => h) (Or.inl ⟨by kernel_rfl, ?_⟩) hHeld ?_
        rotate_left
        · intro w hSw; (try dsimp only at hSw); go_simp; (try with_reducible rfl)
        try simp only [Act.put, List.setIfInBounds_toArray, List.set_cons_zero, List.set_cons_succ]
        refine take_d (i := 42) (oi := _) (v := ?_) (d := some 119) rfl (by kernel_rfl) (by kernel_rfl) (by kernel_rfl) (by kernel_rfl) (fun _ _ _ h => h) (Or.inl ⟨by kernel_rfl, ?_⟩) hHeld ?_
        rotate_left
        · intro w hSw; (try dsimp only at hSw); go_simp; (try with_reducible rfl)
        try simp only [Act.put, List.setIfInBounds_toArray, List.set_cons_zero, List.set_cons_succ]
        refine wpAnyH_done (by kernel_rfl) ?_ _
        clear d0 d1 d2 e0 e1 e2 f0 f1 f2 HB C1 C2 C3
        replace rx := rx.up b
        replace ry := ry.up b
        replace rm := rm.up b
        replace bl := Gw.call bl b
        clear b
        go_wp2_with fail
        go_roundw
        case rel => exact ⟨k + 1, hlt, by go_num, bl, rx, ry, rm⟩
        case measure => simp [intOf]; omega
      · subst N3
        have C3 : Hid (∀ W, Calls Try.prog 16 #[memv z, memv z] W fun e w' => e = .returned (.bool false) ∧ Below W.heap.size W w') := Lib.hid (fun W => (show newerM z z = false by rw [newer_false]; omega) ▸ newerm_any z z W)
        have hax := neq_mb z z
        rw [show decide (z ≠ z) = false by simp] at hax
        go_upto_region 10 with fail
        refine wp_region_held_drew (S := fun W => W.cell? ⟨b1, o1 + k * 3, none⟩ = some (.int .u16 z.i) ∧ W.cell? ⟨b1, o1 + k * 3 + 1, none⟩ = some (.int .u8 z.s) ∧ W.cell? ⟨b1, o1 + k * 3 + 2, none⟩ = some (.int .u8 z.q) ∧ W.cell? ⟨b2, o2 + k * 3, none⟩ = some (.int .u16 y.i) ∧ W.cell? ⟨b2, o2 + k * 3 + 1, none⟩ = some (.int .u8 y.s) ∧ W.cell? ⟨b2, o2 + k * 3 + 2, none⟩ = some (.int .u8 y.q) ∧ W.cell? ⟨b4, o4 + k * 3, none⟩ = some (.int .u16 z.i) ∧ W.cell? ⟨b4, o4 + k * 3 + 1, none⟩ = some (.int .u8 z.s) ∧ W.cell? ⟨b4, o4 + k * 3 + 2, none⟩ = some (.int .u8 z.q)) (by kernel_rfl) (HB.out _ (Below.drew b)) (fun hHeld => ?_)
        refine take_d (i := 0) (oi := _) (v := ?_) (d := some 77) rfl (by kernel_rfl) (by kernel_rfl) (by kernel_rfl) (by kernel_rfl) (fun _ _ _ h => h) (Or.inl ⟨by kernel_rfl, ?_⟩) hHeld ?_
        rotate_left
        · intro w hSw; (try dsimp only at hSw); go_simp; (try with_reducible rfl)
        try simp only [Act.put, List.setIfInBounds_toArray, List.set_cons_zero, List.set_cons_succ]
        refine take_d (i := 1) (oi := _) (v := ?_) (d := some 78) rfl (by kernel_rfl) (by kernel_rfl) (by kernel_rfl) (by kernel_rfl) (fun _ _ _ h => h) (Or.inl ⟨by kernel_rfl, ?_⟩) hHeld ?_
        rotate_left
        · intro w hSw; (try dsimp only at hSw); go_simp; (try with_reducible rfl)
        try simp only [Act.put, List.setIfInBounds_toArray, List.set_cons_zero, List.set_cons_succ]
        refine take_d (i := 2) (oi := _) (v := ?_) (d := some 79) rfl (by kernel_rfl) (by kernel_rfl) (by kernel_rfl) (by kernel_rfl) (fun _ _ _ h => h) (Or.inl ⟨by kernel_rfl, ?_⟩) hHeld ?_
        rotate_left
        · intro w hSw; (try dsimp only at hSw); go_simp; (try with_reducible rfl)
        try simp only [Act.put, List.setIfInBounds_toArray, List.set_cons_zero, List.set_cons_succ]
        refine take_d (i := 3) (oi := _) (v := ?_) (d := some 80) rfl (by kernel_rfl) (by kernel_rfl) (by kernel_rfl) (by kernel_rfl) (fun _ _ _ h => h) (Or.inl ⟨by kernel_rfl, ?_⟩) hHeld ?_
        rotate_left
        · intro w hSw; (try dsimp only at hSw); go_simp; (try with_reducible rfl)
        try simp only [Act.put, List.setIfInBounds_toArray, List.set_cons_zero, List.set_cons_succ]
        refine take_d (i := 4) (oi := _) (v := ?_) (d := some 81) rfl (by kernel_rfl) (by kernel_rfl) (by kernel_rfl) (by kernel_rfl) (fun _ _ _ h => h) (Or.inl ⟨by kernel_rfl, ?_⟩) hHeld ?_
        rotate_left
        · intro w hSw; (try dsimp only at hSw); go_simp; (try with_reducible rfl)
        try simp only [Act.put, List.setIfInBounds_toArray, List.set_cons_zero, List.set_cons_succ]
        refine take_d (i := 5) (oi := _) (v := ?_) (d := some 82) rfl (by kernel_rfl) (by kernel_rfl) (by kernel_rfl) (by kernel_rfl) (fun _ _ _ h => h) (Or.inl ⟨by kernel_rfl, ?_⟩) hHeld ?_
        rotate_left
        · intro w hSw; (try dsimp only at hSw); go_simp; (try with_reducible rfl)
        try simp only [Act.put, List.setIfInBounds_toArray, List.set_cons_zero, List.set_cons_succ]
        refine take_d (i := 6) (oi := _) (v := ?_) (d := some 83) rfl (by kernel_rfl) (by kernel_rfl) (by kernel_rfl) (by kernel_rfl) (fun _ _ _ h => h) (Or.inl ⟨by kernel_rfl, ?_⟩) hHeld ?_
        rotate_left
        · intro w hSw; (try dsimp only at hSw); go_simp; (try with_reducible rfl)
        try simp only [Act.put, List.setIfInBounds_toArray, List.set_cons_zero, List.set_cons_succ]
        refine take_d (i := 7) (oi := _) (v := ?_) (d := some 84) rfl (by kernel_rfl) (by kernel_rfl) (by kernel_rfl) (by kernel_rfl) (fun _ _ _ h => h) (Or.inl ⟨by kernel_rfl, ?_⟩) hHeld ?_
        rotate_left
        · intro w hSw; (try dsimp only at hSw); go_simp; (try with_reducible rfl)
        try simp only [Act.put, List.setIfInBounds_toArray, List.set_cons_zero, List.set_cons_succ]
        refine wpAnyH_ready (rs := [8]) (by kernel_rfl) (by simp) ?_
        refine AllReadyH.cons rfl (fun K hK => ?_) AllReadyH.nil
        go_simp
        refine (C1.out _).mono ?_
        rintro e u1 ⟨rfl, hb⟩
        replace b := (by first | exact Gw.call b hb | exact Gw.call (Below.drew b) hb)
        clear hb
        dsimp only
        refine hK.out _ _ (HB.out _ b) (fun hHeld => ?_)
        clear hK K
        try simp only [Act.put, List.setIfInBounds_toArray, List.set_cons_zero, List.set_cons_succ]
        refine take_d (i := 9) (oi := _) (v := ?_) (d := some 86) rfl (by kernel_rfl) (by kernel_rfl) (by kernel_rfl) (by kernel_rfl) (fun _ _ _ h => h) (Or.inl ⟨by kernel_rfl, ?_⟩) hHeld ?_
        rotate_left
        · intro w hSw; (try dsimp only at hSw); go_simp; (try with_reducible rfl)
        try simp only [Act.put, List.setIfInBounds_toArray, List.set_cons_zero, List.set_cons_succ]
        refine take_d (i := 10) (oi := _) (v := ?_) (d := some 87) rfl (by kernel_rfl) (by kernel_rfl) (by kernel_rfl) (by kernel_rfl) (fun _ _ _ h => h) (Or.inl ⟨by kernel_rfl, ?_⟩) hHeld ?_
        rotate_left
        · intro w hSw; (try dsimp only at hSw); go_simp; (try with_reducible rfl)
        try simp only [Act.put, List.setIfInBounds_toArray, List.set_cons_zero, List.set_cons_succ]
        refine take_d (i := 11) (oi := _) (v := ?_) (d := some 88) rfl (by kernel_rfl) (by kernel_rfl) (by kernel_rfl) (by kernel_rfl) (fun _ _ _ h => h) (Or.inl ⟨by kernel_rfl, ?_⟩) hHeld ?_
        rotate_left
        · intro w hSw; (try dsimp only at hSw); go_simp; (try with_reducible rfl)
        try simp only [Act.put, List.setIfInBounds_toArray, List.set_cons_zero, List.set_cons_succ]
        refine take_d (i := 12) (oi := _) (v := ?_) (d := some 89) rfl (by kernel_rfl) (by kernel_rfl) (by kernel_rfl) (by kernel_rfl) (fun _ _ _ h => h) (Or.inl ⟨by kernel_rfl, ?_⟩) hHeld ?_
        rotate_left
        · intro w hSw; (try dsimp only at hSw); go_simp; (try with_reducible rfl)
        try simp only [Act.put, List.setIfInBounds_toArray, List.set_cons_zero, List.set_cons_succ]
        refine take_d (i := 13) (oi := _) (v := ?_) (d := some 90) rfl (by kernel_rfl) (by kernel_rfl) (by kernel_rfl) (by kernel_rfl) (fun _ _ _ h => h) (Or.inl ⟨by kernel_rfl, ?_⟩) hHeld ?_
        rotate_left
        · intro w hSw; (try dsimp only at hSw); go_simp; (try with_reducible rfl)
        try simp only [Act.put, List.setIfInBounds_toArray, List.set_cons_zero, List.set_cons_succ]
        refine take_d (i := 14) (oi := _) (v := ?_) (d := some 91) rfl (by kernel_rfl) (by kernel_rfl) (by kernel_rfl) (by kernel_rfl) (fun _ _ _ h => h) (Or.inl ⟨by kernel_rfl, ?_⟩) hHeld ?_
        rotate_left
        · intro w hSw; (try dsimp only at hSw); go_simp; (try with_reducible rfl)
        try simp only [Act.put, List.setIfInBounds_toArray, List.set_cons_zero, List.set_cons_succ]
        refine take_d (i := 15) (oi := _) (v := ?_) (d := some 92) rfl (by kernel_rfl) (by kernel_rfl) (by kernel_rfl) (by kernel_rfl) (fun _ _ _ h => h) (Or.inl ⟨by kernel_rfl, ?_⟩) hHeld ?_
        rotate_left
        · intro w hSw; (try dsimp only at hSw); go_simp; (try with_reducible rfl)
        try simp only [Act.put, List.setIfInBounds_toArray, List.set_cons_zero, List.set_cons_succ]
        refine take_d (i := 16) (oi := _) (v := ?_) (d := some 93) rfl (by kernel_rfl) (by kernel_rfl) (by kernel_rfl) (by kernel_rfl) (fun _ _ _ h => h) (Or.inl ⟨by kernel_rfl, ?_⟩) hHeld ?_
        rotate_left
        · intro w hSw; (try dsimp only at hSw); go_simp; (try with_reducible rfl)
        try simp only [Act.put, List.setIfInBounds_toArray, List.set_cons_zero, List.set_cons_succ]
        refine take_d (i := 17) (oi := _) (v := ?_) (d := some 94) rfl (by kernel_rfl) (by kernel_rfl) (by kernel_rfl) (by kernel_rfl) (fun _ _ _ h => h) (Or.inl ⟨by kernel_rfl, ?_⟩) hHeld ?_
        rotate_left
        · intro w hSw; (try dsimp only at hSw); go_simp; (try with_reducible rfl)
        try simp only [Act.put, List.setIfInBounds_toArray, List.set_cons_zero, List.set_cons_succ]
        refine wpAnyH_ready (rs := [18]) (by kernel_rfl) (by simp) ?_
        refine AllReadyH.cons rfl (fun K hK => ?_) AllReadyH.nil
        go_simp
        refine (C2.out _).mono ?_
        rintro e u2 ⟨rfl, hb⟩
        replace b := (by first | exact Gw.call b hb | exact Gw.call (Below.drew b) hb)
        clear hb
        dsimp only
        refine hK.out _ _ (HB.out _ b) (fun hHeld => ?_)
        clear hK K
        try simp only [Act.put, List.setIfInBounds_toArray, List.set_cons_zero, List.set_cons_succ]
        refine take_d (i := 19) (oi := _) (v := ?_) (d := some 96) rfl (by kernel_rfl) (by kernel_rfl) (by kernel_rfl) (by kernel_rfl) (fun _ _ _ h => h) (Or.inl ⟨by kernel_rfl, ?_⟩) hHeld ?_
        rotate_left
        · intro w hSw; (try dsimp only at hSw); go_simp; (try with_reducible rfl)
        try simp only [Act.put, List.setIfInBounds_toArray, List.set_cons_zero, List.set_cons_succ]
        refine take_d (i := 20) (oi := _) (v := ?_) (d := some 97) rfl (by kernel_rfl) (by kernel_rfl) (by kernel_rfl) (by kernel_rfl) (fun _ _ _ h => h) (Or.inl ⟨by kernel_rfl, ?_⟩) hHeld ?_
        rotate_left
        · intro w hSw; (try dsimp only at hSw); go_simp; (try with_reducible rfl)
        try simp only [Act.put, List.setIfInBounds_toArray, List.set_cons_zero, List.set_cons_succ]
        refine take_d (i := 21) (oi := _) (v := ?_) (d := some 98) rfl (by kernel_rfl) (by kernel_rfl) (by kernel_rfl) (by kernel_rfl) (fun _ _ _ h => h) (Or.inl ⟨by kernel_rfl, ?_⟩) hHeld ?_
        rotate_left
        · intro w hSw; (try dsimp only at hSw); go_simp; (try with_reducible rfl)
        try simp only [Act.put, List.setIfInBounds_toArray, List.set_cons_zero, List.set_cons_succ]
        refine take_d (i := 22) (oi := _) (v := ?_) (d := some 99) rfl (by kernel_rfl) (by kernel_rfl) (by kernel_rfl) (by kernel_rfl) (fun _ _ _ h => h) (Or.inl ⟨by kernel_rfl, ?_⟩) hHeld ?_
        rotate_left
        · intro w hSw; (try dsimp only at hSw); go_simp; (try with_reducible rfl)
        try simp only [Act.put, List.setIfInBounds_toArray, List.set_cons_zero, List.set_cons_succ]
        refine take_d (i := 23) (oi := _) (v := ?_) (d := some 100) rfl (by kernel_rfl) (by kernel_rfl) (by kernel_rfl) (by kernel_rfl) (fun _ _ _ h => h) (Or.inl ⟨by kernel_rfl, ?_⟩) hHeld ?_
        rotate_left
        · intro w hSw; (try dsimp only at hSw); go_simp; (try with_reducible rfl)
        try simp only [Act.put, List.setIfInBounds_toArray, List.set_cons_zero, List.set_cons_succ]
        refine take_d (i := 24) (oi := _) (v := ?_) (d := some 101) rfl (by kernel_rfl) (by kernel_rfl) (by kernel_rfl) (by kernel_rfl) (fun _ _ _ h => h) (Or.inl ⟨by kernel_rfl, ?_⟩) hHeld ?_
        rotate_left
        · intro w hSw; (try dsimp only at hSw); go_simp; (try with_reducible rfl)
        try simp only [Act.put, List.setIfInBounds_toArray, List.set_cons_zero, List.set_cons_succ]
        refine take_d (i := 25) (oi := _) (v := ?_) (d := some 102) rfl (by kernel_rfl) (by kernel_rfl) (by kernel_rfl) (by kernel_rfl) (fun _ _ _ h => h) (Or.inl ⟨by kernel_rfl, ?_⟩) hHeld ?_
        rotate_left
        · intro w hSw; (try dsimp only at hSw); go_simp; (try with_reducible rfl)
        try simp only [Act.put, List.setIfInBounds_toArray, List.set_cons_zero, List.set_cons_succ]
        refine take_d (i := 26) (oi := _) (v := ?_) (d := some 103) rfl (by kernel_rfl) (by kernel_rfl) (by kernel_rfl) (by kernel_rfl) (fun _ _ _ h => h) (Or.inl ⟨by kernel_rfl, ?_⟩) hHeld ?_
        rotate_left
        · intro w hSw; (try dsimp only at hSw); go_simp; (try with_reducible rfl)
        try simp only [Act.put, List.setIfInBounds_toArray, List.set_cons_zero, List.set_cons_succ]
        refine take_d (i := 27) (oi := _) (v := ?_) (d := some 104) rfl (by kernel_rfl) (by kernel_rfl) (by kernel_rfl) (by kernel_rfl) (fun _ _ _ h => h) (Or.inl ⟨by kernel_rfl, ?_⟩) hHeld ?_
        rotate_left
        · intro w hSw; (try dsimp only at hSw); go_simp; (try with_reducible rfl)
        try simp only [Act.put, List.setIfInBounds_toArray, List.set_cons_zero, List.set_cons_succ]
        refine take_d (i := 28) (oi := _) (v := ?_) (d := some 105) rfl (by kernel_rfl) (by kernel_rfl) (by kernel_rfl) (by kernel_rfl) (fun _ _ _ h => h) (Or.inl ⟨by kernel_rfl, ?_⟩) hHeld ?_
        rotate_left
        · intro w hSw; (try dsimp only at hSw); go_simp; (try with_reducible rfl)
        try simp only [Act.put, List.setIfInBounds_toArray, List.set_cons_zero, List.set_cons_succ]
        refine wpAnyH_ready (rs := [29]) (by kernel_rfl) (by simp) ?_
        refine AllReadyH.cons rfl (fun K hK => ?_) AllReadyH.nil
        go_simp
        refine (C3.out _).mono ?_
        rintro e u3 ⟨rfl, hb⟩
        replace b := (by first | exact Gw.call b hb | exact Gw.call (Below.drew b) hb)
        clear hb
        dsimp only
        refine hK.out _ _ (HB.out _ b) (fun hHeld => ?_)
        clear hK K
        try simp only [Act.put, List.setIfInBounds_toArray, List.set_cons_zero, List.set_cons_succ]
        refine take_d (i := 30) (oi := _) (v := ?_) (d := some 107) rfl (by kernel_rfl) (by kernel_rfl) (by kernel_rfl) (by kernel_rfl) (fun _ _ _ h => h) (Or.inl ⟨by kernel_rfl, ?_⟩) hHeld ?_
        rotate_left
        · intro w hSw; (try dsimp only at hSw); go_simp; (try with_reducible rfl)
        try simp only [Act.put, List.setIfInBounds_toArray, List.set_cons_zero, List.set_cons_succ]
        refine take_d (i := 31) (oi := _) (v := ?_) (d := some 108) rfl (by kernel_rfl) (by kernel_rfl) (by kernel_rfl) (by kernel_rfl) (fun _ _ _ h => h) (Or.inl ⟨by kernel_rfl, ?_⟩) hHeld ?_
        rotate_left
        · intro w hSw; (try dsimp only at hSw); go_simp; (try with_reducible rfl)
        try simp only [Act.put, List.setIfInBounds_toArray, List.set_cons_zero, List.set_cons_succ]
        refine take_d (i := 32) (oi := _) (v := ?_) (d := some 109) rfl (by kernel_rfl) (by kernel_rfl) (by kernel_rfl) (by kernel_rfl) (fun _ _ _ h => h) (Or.inl ⟨by kernel_rfl, ?_⟩) hHeld ?_
        rotate_left
        · intro w hSw; (try dsimp only at hSw); go_simp; (try with_reducible rfl)
        try simp only [Act.put, List.setIfInBounds_toArray, List.set_cons_zero, List.set_cons_succ]
        refine take_d (i := 33) (oi := _) (v := ?_) (d := some 110) rfl (by kernel_rfl) (by kernel_rfl) (by kernel_rfl) (by kernel_rfl) (fun _ _ _ h => h) (Or.inl ⟨by kernel_rfl, ?_⟩) hHeld ?_
        rotate_left
        · intro w hSw; (try dsimp only at hSw); go_simp; (try with_reducible rfl)
        try simp only [Act.put, List.setIfInBounds_toArray, List.set_cons_zero, List.set_cons_succ]
        refine take_d (i := 34) (oi := _) (v := ?_) (d := some 111) rfl (by kernel_rfl) (by kernel_rfl) (by kernel_rfl) (by kernel_rfl) (fun _ _ _ h => h) (Or.inl ⟨by kernel_rfl, ?_⟩) hHeld ?_
        rotate_left
        · intro w hSw; (try dsimp only at hSw); go_simp; (try with_reducible rfl)
        try simp only [Act.put, List.setIfInBounds_toArray, List.set_cons_zero, List.set_cons_succ]
        refine take_d (i := 35) (oi := _) (v := ?_) (d := some 112) rfl (by kernel_rfl) (by kernel_rfl) (by kernel_rfl) (by kernel_rfl) (fun _ _ _ h => h) (Or.inl ⟨by kernel_rfl, ?_⟩) hHeld ?_
        rotate_left
        · intro w hSw; (try dsimp only at hSw); go_simp; (try with_reducible rfl)
        try simp only [Act.put, List.setIfInBounds_toArray, List.set_cons_zero, List.set_cons_succ]
        refine take_d (i := 36) (oi := _) (v := ?_) (d := some 113) rfl (by kernel_rfl) (by kernel_rfl) (by kernel_rfl) (by kernel_rfl) (fun _ _ _ h => h) (Or.inl ⟨by kernel_rfl, ?_⟩) hHeld ?_
        rotate_left
        · intro w hSw; (try dsimp only at hSw); go_simp; (try with_reducible rfl)
        try simp only [Act.put, List.setIfInBounds_toArray, List.set_cons_zero, List.set_cons_succ]
        refine take_d (i := 37) (oi := _) (v := ?_) (d := some 114) rfl (by kernel_rfl) (by kernel_rfl) (by kernel_rfl) (by kernel_rfl) (fun _ _ _ h => h) (Or.inl ⟨by kernel_rfl, ?_⟩) hHeld ?_
        rotate_left
        · intro w hSw; (try dsimp only at hSw); go_simp; (try with_reducible rfl)
        try simp only [Act.put, List.setIfInBounds_toArray, List.set_cons_zero, List.set_cons_succ]
        refine take_d (i := 38) (oi := _) (v := ?_) (d := some 115) rfl (by kernel_rfl) (by kernel_rfl) (by kernel_rfl) (by kernel_rfl) (fun _ _ _ h => h) (Or.inl ⟨by kernel_rfl, ?_⟩) hHeld ?_
        rotate_left
        · intro w hSw; (try dsimp only at hSw); go_simp; (try with_reducible rfl)
        try simp only [Act.put, List.setIfInBounds_toArray, List.set_cons_zero, List.set_cons_succ]
        refine take_d (i := 39) (oi := _) (v := ?_) (d := some 116) rfl (by kernel_rfl) (by kernel_rfl) (by kernel_rfl) (by kernel_rfl) (fun _ _ _ h => h) (Or.inl ⟨by kernel_rfl, ?_⟩) hHeld ?_
        rotate_left
        · intro w hSw; (try dsimp only at hSw); go_simp; (try with_reducible rfl)
        try simp only [Act.put, List.setIfInBounds_toArray, List.set_cons_zero, List.set_cons_succ]
        refine take_d (i := 40) (oi := _) (v := ?_) (d := some 117) rfl (by kernel_rfl) (by kernel_rfl) (by kernel_rfl) (by kernel_rfl) (fun _ _ _ h => h) (Or.inl ⟨by kernel_rfl, ?_⟩) hHeld ?_
        rotate_left
        · intro w hSw; (try dsimp only at hSw); go_simp; (try with_reducible rfl)
        try simp only [Act.put, List.setIfInBounds_toArray, List.set_cons_zero, List.set_cons_succ]
        refine take_d (i := 41) (oi := _) (v := ?_) (d := some 118) rfl (by kernel_rfl) (by kernel_rfl) (by kernel_rfl) (by kernel_rfl) (fun _ _ _ h => h) (Or.inl ⟨by kernel_rfl, ?_⟩) hHeld ?_
        rotate_left
        · intro w hSw; (try dsimp only at hSw); go_simp; (try with_reducible rfl)
        try simp only [Act.put, List.setIfInBounds_toArray, List.set_cons_zero, List.set_cons_succ]
        refine take_d (i := 42) (oi := _) (v := ?_) (d := some 119) rfl (by kernel_rfl) (by kernel_rfl) (by kernel_rfl) (by kernel_rfl) (fun _ _ _ h => h) (Or.inl ⟨by kernel_rfl, ?_⟩) hHeld ?_
        rotate_left
        · intro w hSw; (try dsimp only at hSw); go_simp; (try with_reducible rfl)
        try simp only [Act.put, List.setIfInBounds_toArray, List.set_cons_zero, List.set_cons_succ]
        refine wpAnyH_done (by kernel_rfl) ?_ _
        clear d0 d1 d2 e0 e1 e2 f0 f1 f2 HB C1 C2 C3 hax
        replace rx := rx.up b
        replace ry := ry.up b
        replace rm := rm.up b
        replace bl := Gw.call bl b
        clear b
        go_wp2_with fail
        go_roundw
        case rel => exact ⟨k + 1, hlt, by go_num, bl, rx, ry, rm⟩
        case measure => simp [intOf]; omega
    · obtain rfl : k = mn := by omega
      go_wp2_with fail
      refine (awake_any _).mono ?_
      rintro e w9 ⟨rfl, hb⟩
      replace bl := Gw.call bl hb
      clear hb
      go_wp2_with fail
      go_ret
      exact ⟨by simp, bl⟩
end Go.Proofs.Ytgkdljfhmflmjaa
