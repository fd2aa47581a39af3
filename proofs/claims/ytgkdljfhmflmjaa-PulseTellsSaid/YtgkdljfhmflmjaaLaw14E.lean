/-
  PulseTells (14).
-/
import Derived.Test.YtgkdljfhmflmjaaAwake14
import Derived.Test.YtgkdljfhmflmjaaRise14
import Derived.Test.YtgkdljfhmflmjaaOpenOp
import Derived.Test.YtgkdljfhmflmjaaLaw14B
namespace Go.Proofs.Ytgkdljfhmflmjaa
open Go.RowKit
theorem wpAnyH_up {P : Program} {md : Region.Mode} {ops : Array Oper} {Q : Exit → Act → World → Prop} {S S' : World → Prop} (hS : ∀ w, S' w → S w) : ∀ (fuel : Nat) (listed : Array Bool) (a : Act) (w : World), wpAnyH P md ops Q S' fuel listed a w → wpAnyH P md ops Q S fuel listed a w
  | 0, _, _, _, h => h
  | fuel + 1, _, _, _, h => ⟨h.1, fun i hi => wpOp_mono (fun a' w' h' => ⟨hS _ h'.1, wpAnyH_up hS fuel _ a' w' h'.2⟩) (h.2 i hi)⟩
theorem table_good3 {l : List Mb} (h : ∀ x ∈ l, x.ok) : Good (tableL l) := fun x hx => by
  obtain ⟨y, hy, rfl⟩ := List.mem_map.1 hx
  obtain ⟨h1, h2, h3⟩ := h y hy
  unfold tab1
  split
  · exact ⟨⟨by simp, by simp, by simp⟩, fun _ => ⟨rfl, rfl⟩, fun hn => absurd rfl hn⟩
  · rename_i hz
    refine ⟨⟨h1, by show 0 ≤ 1 + y.s % 3 ∧ 1 + y.s % 3 ≤ 255; omega, h3⟩, fun h0 => absurd h0 hz, fun _ => ?_⟩
    show 1 ≤ 1 + y.s % 3 ∧ 1 + y.s % 3 ≤ 3
    omega
theorem newn_any (n : Nat) (w : World) (h : n ≤ 1000) : Calls Try.prog 9 #[.int .i64 n] w fun e w' => ∃ A' c', e = .returned (.slice A' n c') ∧ Rd memc 3 w'.heap.size w' A' (List.replicate n zeroM) ∧ Below w.heap.size w w' := by
  rcases Nat.eq_zero_or_pos n with rfl | hp
  · refine (new_none 0 w (by omega)).mono ?_
    rintro e w' ⟨rfl, hb⟩
    exact ⟨none, 0, rfl, Rd.nil_, hb⟩
  · refine (new_any n w hp h).mono ?_
    rintro e w' ⟨A', c', rfl, o, hb⟩
    exact ⟨A', c', rfl, o.rd memc_len, hb⟩
set_option maxRecDepth 100000 in
set_option maxHeartbeats 8000000 in
theorem ptells_any (l : List Mb) (A : Option Addr) (ca : Nat) (ops : List OpV) (B : Option Addr) (cb : Nat) (self : Int) (a b : Mb) (w : World) (hr : Rd memc 3 w.heap.size w A l) (hlc : l.length ≤ ca) (hcm : ca ≤ maxLen) (hok : ∀ x ∈ l, x.ok) (ho : Rd opc 5 w.heap.size w B ops) (holc : ops.length ≤ cb) (hom : cb ≤ maxLen) (hoo : ∀ x ∈ ops, x.ok w) (hs : 0 ≤ self ∧ self ≤ 255) (ia : a.ok) :
    Calls Try.prog 5 #[.slice A l.length ca, .slice B ops.length cb, .int .u8 self, .agg #[.int .u16 a.i, .int .u8 a.s, .int .u8 a.q], .agg #[.int .u16 b.i, .int .u8 b.s, .int .u8 b.q]] w fun e w' => e = .returned (.bool true) ∧ Below w.heap.size w w' := by
  unfold maxLen at hcm hom
  obtain ⟨i0, hi0, hz0, hz1, hz2⟩ := info_parts Try.infoMem
  obtain ⟨mn, hmn⟩ : ∃ mn : Nat, mn = min l.length 20 := ⟨_, rfl⟩
  obtain ⟨on, hon⟩ : ∃ on : Nat, on = min ops.length 40 := ⟨_, rfl⟩
  have hmi : (if (20 : Int) < (l.length : Int) then (20 : Int) else (l.length : Int)) = (mn : Int) := by split <;> omega
  have hoi : (if (40 : Int) < (ops.length : Int) then (40 : Int) else (ops.length : Int)) = (on : Int) := by split <;> omega
  have mnl : mn ≤ l.length := by omega
  have mn20 : mn ≤ 20 := by omega
  have mc : (mn : Int) ≤ (ca : Int) := by omega
  have onl : on ≤ ops.length := by omega
  have on40 : on ≤ 40 := by omega
  have oc : (on : Int) ≤ (cb : Int) := by omega
  have htl : (l.take mn).length = mn := by simp; omega
  have tok : ∀ x ∈ l.take mn, x.ok := fun x hx => hok x (List.mem_of_mem_take hx)
  have HT := Lib.hid (fun W h => table_any (l.take mn) A ca W h (by omega) tok)
  rw [htl] at HT
  obtain ⟨T, hT⟩ : ∃ T, T = tableL (l.take mn) := ⟨_, rfl⟩
  have HTL : Hid (T.length = mn) := Lib.hid (by rw [hT, table_len, htl])
  have TG : Hid (Good T) := Lib.hid (by rw [hT]; exact table_good3 tok)
  rw [← hT] at HT
  obtain ⟨s0, s1⟩ := hs
  have HOO := Lib.hid hoo
  have HIA := Lib.hid ia.1.1
  have rt := Rd.allocS (Rd.allocS (hr.take mn) (.cells #[.int .u16 a.i, .int .u8 a.s, .int .u8 a.q] 27)) (.cells #[.int .u16 b.i, .int .u8 b.s, .int .u8 b.q] 27)
  have ro := Rd.allocS (Rd.allocS ho (.cells #[.int .u16 a.i, .int .u8 a.s, .int .u8 a.q] 27)) (.cells #[.int .u16 b.i, .int .u8 b.s, .int .u8 b.q] 27)
  have b0 := Gw.al (Gw.al (Below.refl w.heap.size w) (.cells #[.int .u16 a.i, .int .u8 a.s, .int .u8 a.q] 27)) (.cells #[.int .u16 b.i, .int .u8 b.s, .int .u8 b.q] 27)
  have GA := (Ob.new w #[.int .u16 a.i, .int .u8 a.s, .int .u8 a.q] 27).alloc (.cells #[.int .u16 b.i, .int .u8 b.s, .int .u8 b.q] 27)
  have GB := Ob.new (w.alloc (.cells #[.int .u16 a.i, .int .u8 a.s, .int .u8 a.q] 27)) #[.int .u16 b.i, .int .u8 b.s, .int .u8 b.q] 27
  simp only [World.size_alloc] at GB
  clear hT tok htl hmn hon hok hoo hr ia
  go_enter Try.func5, Try.ntmps5
  go_wp2_with fail
  refine (HT.out _ rt).mono ?_
  rintro e w1 ⟨A1, c1, rfl, o1, hb⟩
  replace b0 := Gw.call b0 hb
  replace GA := GA.call hb
  replace GB := GB.call hb
  clear hb HT rt ro
  have rx := o1.rd memc_len
  clear o1
  have bq := Below.refl w1.heap.size w1
  have HB : Hid (∀ W, Below w1.heap.size w1 W → (fun W => W.cell? ⟨w.heap.size, 0, none⟩ = some (.int .u16 a.i) ∧ W.cell? ⟨w.heap.size, 1, none⟩ = some (.int .u8 a.s) ∧ W.cell? ⟨w.heap.size, 2, none⟩ = some (.int .u8 a.q) ∧ W.cell? ⟨w.heap.size + 1, 0, none⟩ = some (.int .u16 b.i) ∧ W.cell? ⟨w.heap.size + 1, 1, none⟩ = some (.int .u8 b.s) ∧ W.cell? ⟨w.heap.size + 1, 2, none⟩ = some (.int .u8 b.q)) W) := Lib.hid fun W hb => ⟨(GA.call hb).blk.2.1 0 _ rfl, (GA.call hb).blk.2.1 1 _ rfl, (GA.call hb).blk.2.1 2 _ rfl, (GB.call hb).blk.2.1 0 _ rfl, (GB.call hb).blk.2.1 1 _ rfl, (GB.call hb).blk.2.1 2 _ rfl⟩
  have C1 := Lib.hid (fun W => newerm_any a b W)
  have C2 := Lib.hid (fun W => refnewerm_any a b HIA.out W)
  generalize newerM a b = nab at C1 C2
  have nn : (nab != nab) = false := by cases nab <;> rfl
  go_upto_region 2 with fail
  refine wp_region_held_drew (S := fun W => W.cell? ⟨w.heap.size, 0, none⟩ = some (.int .u16 a.i) ∧ W.cell? ⟨w.heap.size, 1, none⟩ = some (.int .u8 a.s) ∧ W.cell? ⟨w.heap.size, 2, none⟩ = some (.int .u8 a.q) ∧ W.cell? ⟨w.heap.size + 1, 0, none⟩ = some (.int .u16 b.i) ∧ W.cell? ⟨w.heap.size + 1, 1, none⟩ = some (.int .u8 b.s) ∧ W.cell? ⟨w.heap.size + 1, 2, none⟩ = some (.int .u8 b.q)) (by kernel_rfl) (HB.out _ (Below.drew bq)) (fun hHeld => ?_)
  refine take_d (i := 0) (oi := _) (v := ?_) (d := some 27) rfl (by kernel_rfl) (by kernel_rfl) (by kernel_rfl) (by kernel_rfl) (fun _ _ _ h => h) (Or.inl ⟨by kernel_rfl, ?_⟩) hHeld ?_
  rotate_left
  · intro w hSw; (try dsimp only at hSw); go_simp; (try with_reducible rfl)
  try simp only [Act.put, List.setIfInBounds_toArray, List.set_cons_zero, List.set_cons_succ]
  refine take_d (i := 1) (oi := _) (v := ?_) (d := some 28) rfl (by kernel_rfl) (by kernel_rfl) (by kernel_rfl) (by kernel_rfl) (fun _ _ _ h => h) (Or.inl ⟨by kernel_rfl, ?_⟩) hHeld ?_
  rotate_left
  · intro w hSw; (try dsimp only at hSw); go_simp; (try with_reducible rfl)
  try simp only [Act.put, List.setIfInBounds_toArray, List.set_cons_zero, List.set_cons_succ]
  refine take_d (i := 3) (oi := _) (v := ?_) (d := some 30) rfl (by kernel_rfl) (by kernel_rfl) (by kernel_rfl) (by kernel_rfl) (fun _ _ _ h => h) (Or.inl ⟨by kernel_rfl, ?_⟩) hHeld ?_
  rotate_left
  · intro w hSw; (try dsimp only at hSw); go_simp; (try with_reducible rfl)
  try simp only [Act.put, List.setIfInBounds_toArray, List.set_cons_zero, List.set_cons_succ]
  refine take_d (i := 4) (oi := _) (v := ?_) (d := some 31) rfl (by kernel_rfl) (by kernel_rfl) (by kernel_rfl) (by kernel_rfl) (fun _ _ _ h => h) (Or.inl ⟨by kernel_rfl, ?_⟩) hHeld ?_
  rotate_left
  · intro w hSw; (try dsimp only at hSw); go_simp; (try with_reducible rfl)
  try simp only [Act.put, List.setIfInBounds_toArray, List.set_cons_zero, List.set_cons_succ]
  refine wpAnyH_ready (rs := [2]) (by kernel_rfl) (by simp) ?_
  refine AllReadyH.cons rfl (fun K hK => ?_) AllReadyH.nil
  go_simp
  refine (C1.out _).mono ?_
  rintro e u1 ⟨rfl, hb⟩
  replace bq := (by first | exact Gw.call bq hb | exact Gw.call (Below.drew bq) hb)
  clear hb
  dsimp only
  refine hK.out _ _ (HB.out _ bq) (fun hHeld => ?_)
  clear hK K
  try simp only [Act.put, List.setIfInBounds_toArray, List.set_cons_zero, List.set_cons_succ]
  refine wpAnyH_ready (rs := [5]) (by kernel_rfl) (by simp) ?_
  refine AllReadyH.cons rfl (fun K hK => ?_) AllReadyH.nil
  go_simp
  refine (C2.out _).mono ?_
  rintro e u2 ⟨rfl, hb⟩
  replace bq := (by first | exact Gw.call bq hb | exact Gw.call (Below.drew bq) hb)
  clear hb
  dsimp only
  refine hK.out _ _ (HB.out _ bq) (fun hHeld => ?_)
  clear hK K
  try simp only [Act.put, List.setIfInBounds_toArray, List.set_cons_zero, List.set_cons_succ]
  refine take_d (i := 6) (oi := _) (v := .bool false) (d := some 33) rfl (by kernel_rfl) (by kernel_rfl) (by kernel_rfl) (by kernel_rfl) (fun _ _ _ h => h) (Or.inl ⟨by kernel_rfl, ?_⟩) hHeld ?_
  · intro W hSw
    first | (go_simp; done) | (go_simp; simp [nn])
  try simp only [Act.put, List.setIfInBounds_toArray, List.set_cons_zero, List.set_cons_succ]
  refine take_d (i := 7) (oi := _) (v := ?_) (d := some 34) rfl (by kernel_rfl) (by kernel_rfl) (by kernel_rfl) (by kernel_rfl) (fun _ _ _ h => h) (Or.inl ⟨by kernel_rfl, ?_⟩) hHeld ?_
  rotate_left
  · intro w hSw; (try dsimp only at hSw); go_simp; (try with_reducible rfl)
  try simp only [Act.put, List.setIfInBounds_toArray, List.set_cons_zero, List.set_cons_succ]
  refine take_d (i := 8) (oi := _) (v := ?_) (d := some 35) rfl (by kernel_rfl) (by kernel_rfl) (by kernel_rfl) (by kernel_rfl) (fun _ _ _ h => h) (Or.inl ⟨by kernel_rfl, ?_⟩) hHeld ?_
  rotate_left
  · intro w hSw; (try dsimp only at hSw); go_simp; (try with_reducible rfl)
  try simp only [Act.put, List.setIfInBounds_toArray, List.set_cons_zero, List.set_cons_succ]
  refine take_d (i := 9) (oi := _) (v := ?_) (d := some 36) rfl (by kernel_rfl) (by kernel_rfl) (by kernel_rfl) (by kernel_rfl) (fun _ _ _ h => h) (Or.inl ⟨by kernel_rfl, ?_⟩) hHeld ?_
  rotate_left
  · intro w hSw; (try dsimp only at hSw); go_simp; (try with_reducible rfl)
  try simp only [Act.put, List.setIfInBounds_toArray, List.set_cons_zero, List.set_cons_succ]
  refine take_d (i := 11) (oi := _) (v := ?_) (d := some 38) rfl (by kernel_rfl) (by kernel_rfl) (by kernel_rfl) (by kernel_rfl) (fun _ _ _ h => h) (Or.inl ⟨by kernel_rfl, ?_⟩) hHeld ?_
  rotate_left
  · intro w hSw; (try dsimp only at hSw); go_simp; (try with_reducible rfl)
  try simp only [Act.put, List.setIfInBounds_toArray, List.set_cons_zero, List.set_cons_succ]
  refine take_d (i := 12) (oi := _) (v := ?_) (d := some 39) rfl (by kernel_rfl) (by kernel_rfl) (by kernel_rfl) (by kernel_rfl) (fun _ _ _ h => h) (Or.inl ⟨by kernel_rfl, ?_⟩) hHeld ?_
  rotate_left
  · intro w hSw; (try dsimp only at hSw); go_simp; (try with_reducible rfl)
  try simp only [Act.put, List.setIfInBounds_toArray, List.set_cons_zero, List.set_cons_succ]
  refine wpAnyH_ready (rs := [10]) (by kernel_rfl) (by simp) ?_
  refine AllReadyH.cons rfl (fun K hK => ?_) AllReadyH.nil
  go_simp
  refine (newn_any mn _ (by omega)).mono ?_
  rintro e u3 ⟨A3, c3, rfl, q3, hb⟩
  replace bq := (by first | exact Gw.call bq hb | exact Gw.call (Below.drew bq) hb)
  clear hb
  dsimp only
  refine hK.out _ _ (HB.out _ bq) (fun hHeld => ?_)
  clear hK K
  try simp only [Act.put, List.setIfInBounds_toArray, List.set_cons_zero, List.set_cons_succ]
  refine wpAnyH_ready (rs := [13]) (by kernel_rfl) (by simp) ?_
  refine AllReadyH.cons rfl (fun K hK => ?_) AllReadyH.nil
  go_simp
  refine (refnew_any mn _ (by omega)).mono ?_
  rintro e u4 ⟨A4, c4, rfl, q4, hb⟩
  replace bq := (by first | exact Gw.call bq hb | exact Gw.call (Below.drew bq) hb)
  replace q3 := q3.up hb
  replace q4 := q4.rd memc_len
  clear hb
  dsimp only
  refine hK.out _ _ (HB.out _ bq) (fun hHeld => ?_)
  clear hK K
  try simp only [Act.put, List.setIfInBounds_toArray, List.set_cons_zero, List.set_cons_succ]
  refine wpAnyH_ready (rs := [14]) (by kernel_rfl) (by simp) ?_
  refine AllReadyH.cons rfl (fun K hK => ?_) AllReadyH.nil
  go_simp
  refine (members_any (List.replicate mn zeroM) (List.replicate mn zeroM) A3 A4 mn mn c3 c4 _ (by simp) (by simp) q3 q4 (by simp; omega) (by simp; omega)).mono ?_
  rintro e u5 ⟨rfl, hb⟩
  replace bq := (by first | exact Gw.call bq hb | exact Gw.call (Below.drew bq) hb)
  clear hb q3 q4
  simp only [decide_true]
  refine hK.out _ _ (HB.out _ bq) (fun hHeld => ?_)
  clear hK K
  try simp only [Act.put, List.setIfInBounds_toArray, List.set_cons_zero, List.set_cons_succ]
  refine take_d (i := 15) (oi := _) (v := ?_) (d := some 42) rfl (by kernel_rfl) (by kernel_rfl) (by kernel_rfl) (by kernel_rfl) (fun _ _ _ h => h) (Or.inl ⟨by kernel_rfl, ?_⟩) hHeld ?_
  rotate_left
  · intro w hSw; (try dsimp only at hSw); go_simp; (try with_reducible rfl)
  try simp only [Act.put, List.setIfInBounds_toArray, List.set_cons_zero, List.set_cons_succ]
  refine take_d (i := 16) (oi := _) (v := ?_) (d := some 43) rfl (by kernel_rfl) (by kernel_rfl) (by kernel_rfl) (by kernel_rfl) (fun _ _ _ h => h) (Or.inl ⟨by kernel_rfl, ?_⟩) hHeld ?_
  rotate_left
  · intro w hSw; (try dsimp only at hSw); go_simp; (try with_reducible rfl)
  try simp only [Act.put, List.setIfInBounds_toArray, List.set_cons_zero, List.set_cons_succ]
  refine take_d (i := 17) (oi := _) (v := ?_) (d := some 44) rfl (by kernel_rfl) (by kernel_rfl) (by kernel_rfl) (by kernel_rfl) (fun _ _ _ h => h) (Or.inl ⟨by kernel_rfl, ?_⟩) hHeld ?_
  rotate_left
  · intro w hSw; (try dsimp only at hSw); go_simp; (try with_reducible rfl)
  try simp only [Act.put, List.setIfInBounds_toArray, List.set_cons_zero, List.set_cons_succ]
  refine wpAnyH_ready (rs := [18]) (by kernel_rfl) (by simp) ?_
  refine AllReadyH.cons rfl (fun K hK => ?_) AllReadyH.nil
  go_simp
  refine (new_none (-1) _ (by omega)).mono ?_
  rintro e u6 ⟨rfl, hb⟩
  replace bq := (by first | exact Gw.call bq hb | exact Gw.call (Below.drew bq) hb)
  clear hb
  dsimp only
  refine hK.out _ _ (HB.out _ bq) (fun hHeld => ?_)
  clear hK K
  try simp only [Act.put, List.setIfInBounds_toArray, List.set_cons_zero, List.set_cons_succ]
  refine take_d (i := 19) (oi := _) (v := ?_) (d := some 46) rfl (by kernel_rfl) (by kernel_rfl) (by kernel_rfl) (by kernel_rfl) (fun _ _ _ h => h) (Or.inl ⟨by kernel_rfl, ?_⟩) hHeld ?_
  rotate_left
  · intro w hSw; (try dsimp only at hSw); go_simp; (try with_reducible rfl)
  try simp only [Act.put, List.setIfInBounds_toArray, List.set_cons_zero, List.set_cons_succ]
  refine take_d (i := 20) (oi := _) (v := ?_) (d := some 47) rfl (by kernel_rfl) (by kernel_rfl) (by kernel_rfl) (by kernel_rfl) (fun _ _ _ h => h) (Or.inl ⟨by kernel_rfl, ?_⟩) hHeld ?_
  rotate_left
  · intro w hSw; (try dsimp only at hSw); go_simp; (try with_reducible rfl)
  try simp only [Act.put, List.setIfInBounds_toArray, List.set_cons_zero, List.set_cons_succ]
  refine take_d (i := 21) (oi := _) (v := ?_) (d := some 48) rfl (by kernel_rfl) (by kernel_rfl) (by kernel_rfl) (by kernel_rfl) (fun _ _ _ h => h) (Or.inl ⟨by kernel_rfl, ?_⟩) hHeld ?_
  rotate_left
  · intro w hSw; (try dsimp only at hSw); go_simp; (try with_reducible rfl)
  try simp only [Act.put, List.setIfInBounds_toArray, List.set_cons_zero, List.set_cons_succ]
  refine wpAnyH_done (by kernel_rfl) ?_ _
  clear HB C1 C2 nn GA GB HIA hHeld
  replace rx := rx.up bq
  replace b0 := Gw.call b0 bq
  clear bq
  have LO := Own.litg (enc := memc) (sz := 3) (E := 27) (base := u6.heap.size) u6 u6.heap.size rfl (Nat.le_refl _)
  have r1 := Rd.allocS rx (.cells #[] 27)
  go_wp2_with (first | (at_builtin; refine wpList_app _ rfl _ _ 23 rfl u6.heap.size 27 i0 _ 4 Try.underlying23 hi0 hz0 hz1 hz2 rfl (by omega) memc_len memc_one (.slice (some ⟨u6.heap.size, 0, none⟩) 0 0) ([] : List Mb) rfl LO 0 rfl _ A1 mn c1 T rfl HTL.out.symm r1 (by omega) (by omega) (by simp only [World.size_alloc]; omega) ?_; intro A2 c2 w2 o2 hg; simp only [Nat.zero_add, List.nil_append] at o2) | fail)
  clear r1 LO
  have bx := Gw.gr (Gw.al (Below.refl u6.heap.size u6) (.cells #[] 27)) hg (fun k hk => Nat.le_of_eq (own_blk hk).symm)
  have ry := o2.rd memc_len
  replace rx := rx.up bx
  replace b0 := Gw.call b0 bx
  clear o2 hg bx
  go_loopw [11, 12, 58] (fun x y i wr => ∃ (k : Nat) (X : List Mb) (A1 : Option Addr) (c1 : Nat) (A2 : Option Addr) (c2 : Nat), k ≤ on ∧ i = .int .i64 k ∧ x = .slice A1 mn c1 ∧ y = .slice A2 mn c2 ∧ Rd memc 3 wr.heap.size wr A1 X ∧ Rd memc 3 wr.heap.size wr A2 X ∧ Hid (X.length = mn) ∧ Hid (Good X) ∧ Below w.heap.size w wr) (fun _ _ i _ => on - (intOf i).toNat)
  case atStart => exact ⟨0, T, A1, c1, A2, c2, Nat.zero_le _, rfl, rfl, rfl, rx, ry, HTL, TG, b0⟩
  case round =>
    clear b0 rx ry TG HTL
    obtain ⟨k, X, A1, c1, A2, c2, hk, rfl, rfl, rfl, rx, ry, HX, GX, bl⟩ := hrel
    by_cases hlt : k < on
    · obtain ⟨x, hx⟩ : ∃ x, ops[k]? = some x := ⟨_, List.getElem?_eq_getElem (by omega)⟩
      obtain ⟨⟨k0, k1⟩, ⟨n0, n1⟩, ⟨in0, in1⟩, ⟨f0, f1⟩, lc, cm, rl, okl⟩ := HOO.out x (List.mem_of_getElem? hx)
      unfold maxLen at cm
      obtain ⟨bo, o, rfl, hb, hc⟩ := (ho.below bl).at_ hx
      have d0 : wr.cell? ⟨bo, o + k * 5, none⟩ = some (.int .u8 x.k) := hc 0 _ rfl
      have d1 : wr.cell? ⟨bo, o + k * 5 + 1, none⟩ = some (.int .u8 x.nd) := hc 1 _ rfl
      have d2 : wr.cell? ⟨bo, o + k * 5 + 2, none⟩ = some (.int .u16 x.inc) := hc 2 _ rfl
      have d3 : wr.cell? ⟨bo, o + k * 5 + 3, none⟩ = some (.int .i64 x.af) := hc 3 _ rfl
      have d4 : wr.cell? ⟨bo, o + k * 5 + 4, none⟩ = some (.slice x.A x.l.length x.cap) := hc 4 _ rfl
      clear hc hx
      have ki : (k : Int) < (on : Int) := by omega
      have G := (Ob.new wr #[.int .u8 x.k, .int .u8 x.nd, .int .u16 x.inc, .int .i64 x.af, .slice x.A x.l.length x.cap] 40).alloc (.cells #[] 27)
      have r1 := Rd.allocS (Rd.allocS rx (.cells #[.int .u8 x.k, .int .u8 x.nd, .int .u16 x.inc, .int .i64 x.af, .slice x.A x.l.length x.cap] 40)) (.cells #[] 27)
      have LO := Own.litg (enc := memc) (sz := 3) (E := 27) (base := wr.heap.size + 1) (wr.alloc (.cells #[.int .u8 x.k, .int .u8 x.nd, .int .u16 x.inc, .int .i64 x.af, .slice x.A x.l.length x.cap] 40)) (wr.heap.size + 1) (by simp only [World.size_alloc]) (by simp only [World.size_alloc]; omega)
      go_upto_region 9 with (first | (at_builtin; refine wpList_app _ rfl _ _ 23 rfl (wr.heap.size + 1) 27 i0 _ 4 Try.underlying23 hi0 hz0 hz1 hz2 rfl (by omega) memc_len memc_one (.slice (some ⟨wr.heap.size + 1, 0, none⟩) 0 0) ([] : List Mb) rfl LO 0 rfl _ A1 mn c1 X rfl HX.out.symm r1 (by omega) (by omega) (by simp only [World.size_alloc]; omega) ?_; intro A3 c3 w3 o3 hg; simp only [Nat.zero_add, List.nil_append] at o3) | fail)
      have bw := Gw.gr (Gw.al (Gw.al (Below.refl wr.heap.size wr) (.cells #[.int .u8 x.k, .int .u8 x.nd, .int .u16 x.inc, .int .i64 x.af, .slice x.A x.l.length x.cap] 40)) (.cells #[] 27)) hg (fun k hk => by have := own_blk hk; simp only at this; omega)
      replace G := G.app LO hg (by decide)
      have rw3 := o3.rd memc_len
      replace rx := rx.up bw
      replace ry := ry.up bw
      replace rl := (rl.up bl).up bw
      replace bl := Gw.call bl bw
      clear LO r1 hg o3 bw d0 d1 d2 d3 d4 hb
      have e0 : w3.cell? ⟨wr.heap.size, 0, none⟩ = some (.int .u8 x.k) := G.blk.2.1 0 _ rfl
      have e1 : w3.cell? ⟨wr.heap.size, 1, none⟩ = some (.int .u8 x.nd) := G.blk.2.1 1 _ rfl
      have e2 : w3.cell? ⟨wr.heap.size, 2, none⟩ = some (.int .u16 x.inc) := G.blk.2.1 2 _ rfl
      have e3 : w3.cell? ⟨wr.heap.size, 3, none⟩ = some (.int .i64 x.af) := G.blk.2.1 3 _ rfl
      have e4 : w3.cell? ⟨wr.heap.size, 4, none⟩ = some (.slice x.A x.l.length x.cap) := G.blk.2.1 4 _ rfl
      go_upto_region 10 with fail
      repeat ((fail_if_success (with_reducible show Code.wp _ (Code.block _ _) _ _ _)); first | go_values | go_skip | go_guarded | go_step | go_upon | go_back | (go_values <;> (try go_simp)))
      have bq := Below.refl w3.heap.size w3
      go_cut [16, 17, 18, 19, 66] (fun p q g h _ wx => ∃ (N : List Mb) (B2 : Option Addr) (d2 : Nat) (B4 : Option Addr) (d4 : Nat) (B5 : Option Addr) (d5 : Nat) (B6 : Option Addr) (d6 : Nat) (D : List Int), p = .slice B2 mn d2 ∧ q = .slice B4 mn d4 ∧ g = .slice B5 D.length d5 ∧ h = .slice B6 D.length d6 ∧ Rd memc 3 wx.heap.size wx B2 N ∧ Rd memc 3 wx.heap.size wx B4 N ∧ Hid (N.length = mn) ∧ Hid (Good N) ∧ Rd (fun z : Int => [Value.int .u8 z]) 1 wx.heap.size wx B5 D ∧ Rd (fun z : Int => [Value.int .u8 z]) 1 wx.heap.size wx B6 D ∧ Below w3.heap.size w3 wx)
      case first =>
        by_cases q0 : x.k = 0
        · rw [q0] at e0
          have HB : Hid (∀ W, Below w3.heap.size w3 W → (fun W : World => W.cell? ⟨wr.heap.size, 1, none⟩ = some (.int .u8 x.nd) ∧ W.cell? ⟨wr.heap.size, 2, none⟩ = some (.int .u16 x.inc)) W) := Lib.hid fun W hb => ⟨(G.call hb).blk.2.1 1 _ rfl, (G.call hb).blk.2.1 2 _ rfl⟩
          have HD := Lib.hid (fun (nd inc : Int) (W : World) h hn hi => heard_any X A1 c1 nd inc W h (by have := HX.out; omega) hn hi)
          have HE := Lib.hid (fun (nd inc : Int) (W : World) h hn hi => refheard_any X A2 c2 nd inc W h (by have := HX.out; omega) hn hi (fun v hv => (GX.out v hv).1))
          rw [HX.out] at HD HE
          go_upto_region 15 with fail
          refine wp_region_held_drew (S := fun W : World => W.cell? ⟨wr.heap.size, 1, none⟩ = some (.int .u8 x.nd) ∧ W.cell? ⟨wr.heap.size, 2, none⟩ = some (.int .u16 x.inc)) (by kernel_rfl) (HB.out _ (Below.drew bq)) (fun hHeld => ?_)
          refine take_d (i := 0) (oi := _) (v := ?_) (d := some 85) rfl (by kernel_rfl) (by kernel_rfl) (by kernel_rfl) (by kernel_rfl) (fun _ _ _ h => h) (Or.inl ⟨by kernel_rfl, ?_⟩) hHeld ?_
          rotate_left
          · intro w hSw; (try dsimp only at hSw); go_simp; (try with_reducible rfl)
          try simp only [Act.put, List.setIfInBounds_toArray, List.set_cons_zero, List.set_cons_succ]
          refine take_d (i := 1) (oi := _) (v := ?_) (d := some 86) rfl (by kernel_rfl) (by kernel_rfl) (by kernel_rfl) (by kernel_rfl) (fun _ _ _ h => h) (Or.inl ⟨by kernel_rfl, ?_⟩) hHeld ?_
          rotate_left
          · intro w hSw; (try dsimp only at hSw); go_simp; (try with_reducible rfl)
          try simp only [Act.put, List.setIfInBounds_toArray, List.set_cons_zero, List.set_cons_succ]
          refine take_d (i := 2) (oi := _) (v := ?_) (d := some 87) rfl (by kernel_rfl) (by kernel_rfl) (by kernel_rfl) (by kernel_rfl) (fun _ _ _ h => h) (Or.inl ⟨by kernel_rfl, ?_⟩) hHeld ?_
          rotate_left
          · intro w hSw; (try dsimp only at hSw); go_simp; (try with_reducible rfl)
          try simp only [Act.put, List.setIfInBounds_toArray, List.set_cons_zero, List.set_cons_succ]
          refine take_d (i := 3) (oi := _) (v := ?_) (d := some 88) rfl (by kernel_rfl) (by kernel_rfl) (by kernel_rfl) (by kernel_rfl) (fun _ _ _ h => h) (Or.inl ⟨by kernel_rfl, ?_⟩) hHeld ?_
          rotate_left
          · intro w hSw; (try dsimp only at hSw); go_simp; (try with_reducible rfl)
          try simp only [Act.put, List.setIfInBounds_toArray, List.set_cons_zero, List.set_cons_succ]
          refine take_d (i := 4) (oi := _) (v := ?_) (d := some 89) rfl (by kernel_rfl) (by kernel_rfl) (by kernel_rfl) (by kernel_rfl) (fun _ _ _ h => h) (Or.inl ⟨by kernel_rfl, ?_⟩) hHeld ?_
          rotate_left
          · intro w hSw; (try dsimp only at hSw); go_simp; (try with_reducible rfl)
          try simp only [Act.put, List.setIfInBounds_toArray, List.set_cons_zero, List.set_cons_succ]
          refine take_d (i := 6) (oi := _) (v := ?_) (d := some 91) rfl (by kernel_rfl) (by kernel_rfl) (by kernel_rfl) (by kernel_rfl) (fun _ _ _ h => h) (Or.inl ⟨by kernel_rfl, ?_⟩) hHeld ?_
          rotate_left
          · intro w hSw; (try dsimp only at hSw); go_simp; (try with_reducible rfl)
          try simp only [Act.put, List.setIfInBounds_toArray, List.set_cons_zero, List.set_cons_succ]
          refine take_d (i := 7) (oi := _) (v := ?_) (d := some 92) rfl (by kernel_rfl) (by kernel_rfl) (by kernel_rfl) (by kernel_rfl) (fun _ _ _ h => h) (Or.inl ⟨by kernel_rfl, ?_⟩) hHeld ?_
          rotate_left
          · intro w hSw; (try dsimp only at hSw); go_simp; (try with_reducible rfl)
          try simp only [Act.put, List.setIfInBounds_toArray, List.set_cons_zero, List.set_cons_succ]
          refine take_d (i := 8) (oi := _) (v := ?_) (d := some 93) rfl (by kernel_rfl) (by kernel_rfl) (by kernel_rfl) (by kernel_rfl) (fun _ _ _ h => h) (Or.inl ⟨by kernel_rfl, ?_⟩) hHeld ?_
          rotate_left
          · intro w hSw; (try dsimp only at hSw); go_simp; (try with_reducible rfl)
          try simp only [Act.put, List.setIfInBounds_toArray, List.set_cons_zero, List.set_cons_succ]
          refine take_d (i := 9) (oi := _) (v := ?_) (d := some 94) rfl (by kernel_rfl) (by kernel_rfl) (by kernel_rfl) (by kernel_rfl) (fun _ _ _ h => h) (Or.inl ⟨by kernel_rfl, ?_⟩) hHeld ?_
          rotate_left
          · intro w hSw; (try dsimp only at hSw); go_simp; (try with_reducible rfl)
          try simp only [Act.put, List.setIfInBounds_toArray, List.set_cons_zero, List.set_cons_succ]
          refine take_d (i := 10) (oi := _) (v := ?_) (d := some 95) rfl (by kernel_rfl) (by kernel_rfl) (by kernel_rfl) (by kernel_rfl) (fun _ _ _ h => h) (Or.inl ⟨by kernel_rfl, ?_⟩) hHeld ?_
          rotate_left
          · intro w hSw; (try dsimp only at hSw); go_simp; (try with_reducible rfl)
          try simp only [Act.put, List.setIfInBounds_toArray, List.set_cons_zero, List.set_cons_succ]
          refine wpAnyH_ready (rs := [5]) (by kernel_rfl) (by simp) ?_
          refine AllReadyH.cons rfl (fun K hK => ?_) AllReadyH.nil
          go_simp
          refine (HD.out _ _ _ (by first | exact rx.up bq | exact rx.up (Below.drew bq)) ⟨n0, n1⟩ in0).mono ?_
          rintro e u1 ⟨B2, d2, rfl, q2, hb⟩
          replace bq := (by first | exact Gw.call bq hb | exact Gw.call (Below.drew bq) hb)
          clear hb
          dsimp only
          refine hK.out _ _ (HB.out _ bq) (fun hHeld => ?_)
          clear hK K
          try simp only [Act.put, List.setIfInBounds_toArray, List.set_cons_zero, List.set_cons_succ]
          refine wpAnyH_ready (rs := [11]) (by kernel_rfl) (by simp) ?_
          refine AllReadyH.cons rfl (fun K hK => ?_) AllReadyH.nil
          go_simp
          refine (HE.out _ _ _ (by first | exact ry.up bq | exact ry.up (Below.drew bq)) ⟨n0, n1⟩ in0).mono ?_
          rintro e u2 ⟨B4, d4, rfl, q4, hb⟩
          replace bq := (by first | exact Gw.call bq hb | exact Gw.call (Below.drew bq) hb)
          replace q2 := (q2.below hb).rd memc_len
          replace q4 := q4.rd memc_len
          clear hb
          dsimp only
          refine hK.out _ _ (HB.out _ bq) (fun hHeld => ?_)
          clear hK K
          try simp only [Act.put, List.setIfInBounds_toArray, List.set_cons_zero, List.set_cons_succ]
          refine take_d (i := 12) (oi := _) (v := ?_) (d := some 16) rfl (by kernel_rfl) (by kernel_rfl) (by kernel_rfl) (by kernel_rfl) (fun _ _ _ h => h) (Or.inl ⟨by kernel_rfl, ?_⟩) hHeld ?_
          rotate_left
          · intro w hSw; (try dsimp only at hSw); go_simp; (try with_reducible rfl)
          try simp only [Act.put, List.setIfInBounds_toArray, List.set_cons_zero, List.set_cons_succ]
          refine take_d (i := 13) (oi := _) (v := ?_) (d := some 17) rfl (by kernel_rfl) (by kernel_rfl) (by kernel_rfl) (by kernel_rfl) (fun _ _ _ h => h) (Or.inl ⟨by kernel_rfl, ?_⟩) hHeld ?_
          rotate_left
          · intro w hSw; (try dsimp only at hSw); go_simp; (try with_reducible rfl)
          try simp only [Act.put, List.setIfInBounds_toArray, List.set_cons_zero, List.set_cons_succ]
          refine wpAnyH_done (by kernel_rfl) ?_ _
          clear HB HD HE hHeld
          go_wp2_with fail
          go_meet
          exact ⟨modL X x.nd.toNat (heardM x.inc), B2, d2, B4, d4, none, 0, none, 0, [], rfl, rfl, rfl, rfl, q2, q4, Lib.hid (by rw [modL_len]; exact HX.out), Lib.hid ((rises_heard (k := x.nd.toNat) self GX.out in0 in1).2), Rd.nil_, Rd.nil_, bq⟩
        by_cases q1 : x.k = 1
        · rw [q1] at e0
          have HB : Hid (∀ W, Below w3.heap.size w3 W → (fun W : World => W.cell? ⟨wr.heap.size, 1, none⟩ = some (.int .u8 x.nd) ∧ W.cell? ⟨wr.heap.size, 2, none⟩ = some (.int .u16 x.inc)) W) := Lib.hid fun W hb => ⟨(G.call hb).blk.2.1 1 _ rfl, (G.call hb).blk.2.1 2 _ rfl⟩
          have HD := Lib.hid (fun (nd inc : Int) (W : World) h hn hi => left_any X A1 c1 nd inc W h (by have := HX.out; omega) hn hi)
          have HE := Lib.hid (fun (nd inc : Int) (W : World) h hn hi => refleft_any X A2 c2 nd inc W h (by have := HX.out; omega) hn hi (fun v hv => (GX.out v hv).1))
          rw [HX.out] at HD HE
          go_upto_region 17 with fail
          refine wp_region_held_drew (S := fun W : World => W.cell? ⟨wr.heap.size, 1, none⟩ = some (.int .u8 x.nd) ∧ W.cell? ⟨wr.heap.size, 2, none⟩ = some (.int .u16 x.inc)) (by kernel_rfl) (HB.out _ (Below.drew bq)) (fun hHeld => ?_)
          refine take_d (i := 0) (oi := _) (v := ?_) (d := some 99) rfl (by kernel_rfl) (by kernel_rfl) (by kernel_rfl) (by kernel_rfl) (fun _ _ _ h => h) (Or.inl ⟨by kernel_rfl, ?_⟩) hHeld ?_
          rotate_left
          · intro w hSw; (try dsimp only at hSw); go_simp; (try with_reducible rfl)
          try simp only [Act.put, List.setIfInBounds_toArray, List.set_cons_zero, List.set_cons_succ]
          refine take_d (i := 1) (oi := _) (v := ?_) (d := some 100) rfl (by kernel_rfl) (by kernel_rfl) (by kernel_rfl) (by kernel_rfl) (fun _ _ _ h => h) (Or.inl ⟨by kernel_rfl, ?_⟩) hHeld ?_
          rotate_left
          · intro w hSw; (try dsimp only at hSw); go_simp; (try with_reducible rfl)
          try simp only [Act.put, List.setIfInBounds_toArray, List.set_cons_zero, List.set_cons_succ]
          refine take_d (i := 2) (oi := _) (v := ?_) (d := some 101) rfl (by kernel_rfl) (by kernel_rfl) (by kernel_rfl) (by kernel_rfl) (fun _ _ _ h => h) (Or.inl ⟨by kernel_rfl, ?_⟩) hHeld ?_
          rotate_left
          · intro w hSw; (try dsimp only at hSw); go_simp; (try with_reducible rfl)
          try simp only [Act.put, List.setIfInBounds_toArray, List.set_cons_zero, List.set_cons_succ]
          refine take_d (i := 3) (oi := _) (v := ?_) (d := some 102) rfl (by kernel_rfl) (by kernel_rfl) (by kernel_rfl) (by kernel_rfl) (fun _ _ _ h => h) (Or.inl ⟨by kernel_rfl, ?_⟩) hHeld ?_
          rotate_left
          · intro w hSw; (try dsimp only at hSw); go_simp; (try with_reducible rfl)
          try simp only [Act.put, List.setIfInBounds_toArray, List.set_cons_zero, List.set_cons_succ]
          refine take_d (i := 4) (oi := _) (v := ?_) (d := some 103) rfl (by kernel_rfl) (by kernel_rfl) (by kernel_rfl) (by kernel_rfl) (fun _ _ _ h => h) (Or.inl ⟨by kernel_rfl, ?_⟩) hHeld ?_
          rotate_left
          · intro w hSw; (try dsimp only at hSw); go_simp; (try with_reducible rfl)
          try simp only [Act.put, List.setIfInBounds_toArray, List.set_cons_zero, List.set_cons_succ]
          refine take_d (i := 6) (oi := _) (v := ?_) (d := some 105) rfl (by kernel_rfl) (by kernel_rfl) (by kernel_rfl) (by kernel_rfl) (fun _ _ _ h => h) (Or.inl ⟨by kernel_rfl, ?_⟩) hHeld ?_
          rotate_left
          · intro w hSw; (try dsimp only at hSw); go_simp; (try with_reducible rfl)
          try simp only [Act.put, List.setIfInBounds_toArray, List.set_cons_zero, List.set_cons_succ]
          refine take_d (i := 7) (oi := _) (v := ?_) (d := some 106) rfl (by kernel_rfl) (by kernel_rfl) (by kernel_rfl) (by kernel_rfl) (fun _ _ _ h => h) (Or.inl ⟨by kernel_rfl, ?_⟩) hHeld ?_
          rotate_left
          · intro w hSw; (try dsimp only at hSw); go_simp; (try with_reducible rfl)
          try simp only [Act.put, List.setIfInBounds_toArray, List.set_cons_zero, List.set_cons_succ]
          refine take_d (i := 8) (oi := _) (v := ?_) (d := some 107) rfl (by kernel_rfl) (by kernel_rfl) (by kernel_rfl) (by kernel_rfl) (fun _ _ _ h => h) (Or.inl ⟨by kernel_rfl, ?_⟩) hHeld ?_
          rotate_left
          · intro w hSw; (try dsimp only at hSw); go_simp; (try with_reducible rfl)
          try simp only [Act.put, List.setIfInBounds_toArray, List.set_cons_zero, List.set_cons_succ]
          refine take_d (i := 9) (oi := _) (v := ?_) (d := some 108) rfl (by kernel_rfl) (by kernel_rfl) (by kernel_rfl) (by kernel_rfl) (fun _ _ _ h => h) (Or.inl ⟨by kernel_rfl, ?_⟩) hHeld ?_
          rotate_left
          · intro w hSw; (try dsimp only at hSw); go_simp; (try with_reducible rfl)
          try simp only [Act.put, List.setIfInBounds_toArray, List.set_cons_zero, List.set_cons_succ]
          refine take_d (i := 10) (oi := _) (v := ?_) (d := some 109) rfl (by kernel_rfl) (by kernel_rfl) (by kernel_rfl) (by kernel_rfl) (fun _ _ _ h => h) (Or.inl ⟨by kernel_rfl, ?_⟩) hHeld ?_
          rotate_left
          · intro w hSw; (try dsimp only at hSw); go_simp; (try with_reducible rfl)
          try simp only [Act.put, List.setIfInBounds_toArray, List.set_cons_zero, List.set_cons_succ]
          refine wpAnyH_ready (rs := [5]) (by kernel_rfl) (by simp) ?_
          refine AllReadyH.cons rfl (fun K hK => ?_) AllReadyH.nil
          go_simp
          refine (HD.out _ _ _ (by first | exact rx.up bq | exact rx.up (Below.drew bq)) ⟨n0, n1⟩ in0).mono ?_
          rintro e u1 ⟨B2, d2, rfl, q2, hb⟩
          replace bq := (by first | exact Gw.call bq hb | exact Gw.call (Below.drew bq) hb)
          clear hb
          dsimp only
          refine hK.out _ _ (HB.out _ bq) (fun hHeld => ?_)
          clear hK K
          try simp only [Act.put, List.setIfInBounds_toArray, List.set_cons_zero, List.set_cons_succ]
          refine wpAnyH_ready (rs := [11]) (by kernel_rfl) (by simp) ?_
          refine AllReadyH.cons rfl (fun K hK => ?_) AllReadyH.nil
          go_simp
          refine (HE.out _ _ _ (by first | exact ry.up bq | exact ry.up (Below.drew bq)) ⟨n0, n1⟩ in0).mono ?_
          rintro e u2 ⟨B4, d4, rfl, q4, hb⟩
          replace bq := (by first | exact Gw.call bq hb | exact Gw.call (Below.drew bq) hb)
          replace q2 := (q2.below hb).rd memc_len
          replace q4 := q4.rd memc_len
          clear hb
          dsimp only
          refine hK.out _ _ (HB.out _ bq) (fun hHeld => ?_)
          clear hK K
          try simp only [Act.put, List.setIfInBounds_toArray, List.set_cons_zero, List.set_cons_succ]
          refine take_d (i := 12) (oi := _) (v := ?_) (d := some 16) rfl (by kernel_rfl) (by kernel_rfl) (by kernel_rfl) (by kernel_rfl) (fun _ _ _ h => h) (Or.inl ⟨by kernel_rfl, ?_⟩) hHeld ?_
          rotate_left
          · intro w hSw; (try dsimp only at hSw); go_simp; (try with_reducible rfl)
          try simp only [Act.put, List.setIfInBounds_toArray, List.set_cons_zero, List.set_cons_succ]
          refine take_d (i := 13) (oi := _) (v := ?_) (d := some 17) rfl (by kernel_rfl) (by kernel_rfl) (by kernel_rfl) (by kernel_rfl) (fun _ _ _ h => h) (Or.inl ⟨by kernel_rfl, ?_⟩) hHeld ?_
          rotate_left
          · intro w hSw; (try dsimp only at hSw); go_simp; (try with_reducible rfl)
          try simp only [Act.put, List.setIfInBounds_toArray, List.set_cons_zero, List.set_cons_succ]
          refine wpAnyH_done (by kernel_rfl) ?_ _
          clear HB HD HE hHeld
          go_wp2_with fail
          go_meet
          exact ⟨modL X x.nd.toNat (leftM x.inc), B2, d2, B4, d4, none, 0, none, 0, [], rfl, rfl, rfl, rfl, q2, q4, Lib.hid (by rw [modL_len]; exact HX.out), Lib.hid ((rises_left (k := x.nd.toNat) self GX.out in0 in1).2), Rd.nil_, Rd.nil_, bq⟩
        by_cases q2 : x.k = 2
        · rw [q2] at e0
          obtain ⟨m2, hm2⟩ : ∃ m2 : Nat, m2 = min x.l.length 20 := ⟨_, rfl⟩
          have hmi2 : (if (20 : Int) < (x.l.length : Int) then (20 : Int) else (x.l.length : Int)) = (m2 : Int) := by split <;> omega
          have m2l : m2 ≤ x.l.length := by omega
          have m220 : m2 ≤ 20 := by omega
          have m2c : (m2 : Int) ≤ (x.cap : Int) := by omega
          have htl : (x.l.take m2).length = m2 := by simp; omega
          have tok : ∀ v ∈ x.l.take m2, v.ok := fun v hv => okl v (List.mem_of_mem_take hv)
          have H2 := Lib.hid (fun W h => table_any (x.l.take m2) x.A x.cap W h (by omega) tok)
          rw [htl] at H2
          obtain ⟨O, hO⟩ : ∃ O, O = tableL (x.l.take m2) := ⟨_, rfl⟩
          have OL : Hid (O.length = m2) := Lib.hid (by rw [hO, table_len, htl])
          have OG : Hid (Good O) := Lib.hid (by rw [hO]; exact table_good3 tok)
          rw [← hO] at H2
          have rl2 := rl.take m2
          clear hO tok htl hm2 k0 k1 okl
          go_wp2_with fail
          refine (H2.out _ rl2).mono ?_
          rintro e w4 ⟨A5, c5, rfl, o5, hb⟩
          replace bq := Gw.call bq hb
          have r5 := o5.rd memc_len
          clear o5 hb H2 rl2
          have HD := Lib.hid (fun (W : World) h h2 => merge_any X O A1 A5 c1 c5 self W h h2 (by have := HX.out; omega) (by have := OL.out; omega) ⟨s0, s1⟩ (fun v hv => (OG.out v hv).1))
          have HE := Lib.hid (fun (W : World) h h2 => refmerge_any X O A2 A5 c2 c5 self W h h2 (by have := HX.out; omega) (by have := OL.out; omega) ⟨s0, s1⟩ (fun v hv => (OG.out v hv).1))
          rw [HX.out, OL.out] at HD HE
          replace rx := rx.up bq
          replace ry := ry.up bq
          go_wp2_with fail
          refine (HD.out _ rx r5).mono ?_
          rintro e u1 ⟨B2, d2, rfl, q2, hb⟩
          replace bq := Gw.call bq hb
          replace ry := ry.up hb
          replace r5 := r5.up hb
          replace q2 := q2.rd memc_len
          clear HD hb
          go_wp2_with fail
          refine (HE.out _ ry r5).mono ?_
          rintro e u2 ⟨B4, d4, rfl, q4, hb⟩
          replace bq := Gw.call bq hb
          replace q2 := q2.up hb
          replace q4 := q4.rd memc_len
          clear HE hb
          go_wp2_with fail
          go_meet
          exact ⟨mergeL X O self, B2, d2, B4, d4, none, 0, none, 0, [], rfl, rfl, rfl, rfl, q2, q4, Lib.hid (by rw [merge_len]; exact HX.out), Lib.hid ((rises_merge (self := self) GX.out OG.out).2), Rd.nil_, Rd.nil_, bq⟩
        · have t20 : (x.k == 0) = false := by rw [beq_eq_false_iff_ne]; exact q0
          have t21 : (x.k == 1) = false := by rw [beq_eq_false_iff_ne]; exact q1
          have t22 : (x.k == 2) = false := by rw [beq_eq_false_iff_ne]; exact q2
          have t23 : decide (1 < x.k) = true := by simp; omega
          have HD := Lib.hid (fun (af : Int) (W : World) h => tick_any X A1 c1 self af W h (by have := HX.out; omega) ⟨s0, s1⟩ (fun v hv => (GX.out v hv).1))
          have HE := Lib.hid (fun (af : Int) (W : World) h => reftick_any X A2 c2 self af W h (by have := HX.out; omega) ⟨s0, s1⟩ (fun v hv => (GX.out v hv).1))
          rw [HX.out] at HD HE
          clear q0 q1 q2
          go_wp2_with fail
          refine (HD.out x.af _ rx).mono ?_
          rintro e u1 ⟨B2, d2, B5, d5, rfl, q2, q5, hb⟩
          replace bq := Gw.call bq hb
          replace e3 := (hb.cell (p := ⟨wr.heap.size, 3, none⟩) G.lt).trans e3
          clear HD hb
          go_wp2_with fail
          refine (HE.out x.af _ (ry.up bq)).mono ?_
          rintro e u2 ⟨B4, d4, B6, d6, rfl, q4, q6, hb⟩
          replace bq := Gw.call bq hb
          replace q2 := (q2.below hb).rd memc_len
          replace q5 := (q5.below hb).rd (int_len .u8)
          replace q4 := q4.rd memc_len
          replace q6 := q6.rd (int_len .u8)
          clear HE hb
          go_wp2_with fail
          go_meet
          exact ⟨tickL X self x.af, B2, d2, B4, d4, B5, d5, B6, d6, goneL X self x.af, rfl, rfl, rfl, rfl, q2, q4, Lib.hid ((rises_tick (self := self) (after := x.af) GX.out).1.1.trans HX.out), Lib.hid ((rises_tick (self := self) (after := x.af) GX.out).2), q5, q6, bq⟩
      case rest =>
        obtain ⟨N, B2, d2, B4, d4, B5, d5, B6, d6, D, rfl, rfl, rfl, rfl, rp, rq, NL, NG, rg, rh, bc⟩ := hcut
        replace rx := rx.up bc
        replace rw3 := rw3.up bc
        replace bl := Gw.call bl bc
        clear bq bc ry rl G e0 e1 e2 e3 e4
        have U1 := Lib.hid (fun W h => up_any N B2 d2 W h (by have := NL.out; omega))
        have U2 := Lib.hid (fun W h => refup_any N B4 d4 W h (by have := NL.out; omega))
        rw [NL.out] at U1 U2
        have bq := Below.refl wc.heap.size wc
        go_upto_region 21 with fail
        refine wp_region_held_drew (S := fun W : World => Below wc.heap.size wc W) (by kernel_rfl) (Below.drew bq) (fun hHeld => ?_)
        refine take_d (i := 0) (oi := _) (v := ?_) (d := some 129) rfl (by kernel_rfl) (by kernel_rfl) (by kernel_rfl) (by kernel_rfl) (fun _ _ _ h => h) (Or.inl ⟨by kernel_rfl, ?_⟩) hHeld ?_
        rotate_left
        · intro w hSw; (try dsimp only at hSw); go_simp; (try with_reducible rfl)
        try simp only [Act.put, List.setIfInBounds_toArray, List.set_cons_zero, List.set_cons_succ]
        refine take_d (i := 1) (oi := _) (v := ?_) (d := some 130) rfl (by kernel_rfl) (by kernel_rfl) (by kernel_rfl) (by kernel_rfl) (fun _ _ _ h => h) (Or.inl ⟨by kernel_rfl, ?_⟩) hHeld ?_
        rotate_left
        · intro w hSw; (try dsimp only at hSw); go_simp; (try with_reducible rfl)
        try simp only [Act.put, List.setIfInBounds_toArray, List.set_cons_zero, List.set_cons_succ]
        refine wpAnyH_ready (rs := [2]) (by kernel_rfl) (by simp) ?_
        refine AllReadyH.cons rfl (fun K hK => ?_) AllReadyH.nil
        go_simp
        refine (members_any N N B2 B4 mn mn d2 d4 _ NL.out.symm NL.out.symm (by first | exact rp.up bq | exact rp.up (Below.drew bq)) (by first | exact rq.up bq | exact rq.up (Below.drew bq)) (by have := NL.out; omega) (by have := NL.out; omega)).mono ?_
        rintro e u1 ⟨rfl, hb⟩
        replace bq := (by first | exact Gw.call bq hb | exact Gw.call (Below.drew bq) hb)
        clear hb
        simp only [decide_true]
        refine hK.out _ _ (bq) (fun hHeld => ?_)
        clear hK K
        try simp only [Act.put, List.setIfInBounds_toArray, List.set_cons_zero, List.set_cons_succ]
        refine take_d (i := 3) (oi := _) (v := ?_) (d := some 132) rfl (by kernel_rfl) (by kernel_rfl) (by kernel_rfl) (by kernel_rfl) (fun _ _ _ h => h) (Or.inl ⟨by kernel_rfl, ?_⟩) hHeld ?_
        rotate_left
        · intro w hSw; (try dsimp only at hSw); go_simp; (try with_reducible rfl)
        try simp only [Act.put, List.setIfInBounds_toArray, List.set_cons_zero, List.set_cons_succ]
        refine take_d (i := 4) (oi := _) (v := ?_) (d := some 133) rfl (by kernel_rfl) (by kernel_rfl) (by kernel_rfl) (by kernel_rfl) (fun _ _ _ h => h) (Or.inl ⟨by kernel_rfl, ?_⟩) hHeld ?_
        rotate_left
        · intro w hSw; (try dsimp only at hSw); go_simp; (try with_reducible rfl)
        try simp only [Act.put, List.setIfInBounds_toArray, List.set_cons_zero, List.set_cons_succ]
        refine take_d (i := 5) (oi := _) (v := ?_) (d := some 134) rfl (by kernel_rfl) (by kernel_rfl) (by kernel_rfl) (by kernel_rfl) (fun _ _ _ h => h) (Or.inl ⟨by kernel_rfl, ?_⟩) hHeld ?_
        rotate_left
        · intro w hSw; (try dsimp only at hSw); go_simp; (try with_reducible rfl)
        try simp only [Act.put, List.setIfInBounds_toArray, List.set_cons_zero, List.set_cons_succ]
        refine take_d (i := 6) (oi := _) (v := .string (strOfNums D)) (d := some 135) rfl (by kernel_rfl) (by kernel_rfl) (by kernel_rfl) (by kernel_rfl) (fun _ _ _ h => h) (Or.inl ⟨by kernel_rfl, ?_⟩) hHeld ?_
        · intro W hSw
          have cv := conv_rd Try.underlying28 Try.underlying5 Try.underlying9 (rg.up hSw) D.length d5 rfl
          go_simp
        try simp only [Act.put, List.setIfInBounds_toArray, List.set_cons_zero, List.set_cons_succ]
        refine take_d (i := 7) (oi := _) (v := ?_) (d := some 136) rfl (by kernel_rfl) (by kernel_rfl) (by kernel_rfl) (by kernel_rfl) (fun _ _ _ h => h) (Or.inl ⟨by kernel_rfl, ?_⟩) hHeld ?_
        rotate_left
        · intro w hSw; (try dsimp only at hSw); go_simp; (try with_reducible rfl)
        try simp only [Act.put, List.setIfInBounds_toArray, List.set_cons_zero, List.set_cons_succ]
        refine take_d (i := 8) (oi := _) (v := .string (strOfNums D)) (d := some 137) rfl (by kernel_rfl) (by kernel_rfl) (by kernel_rfl) (by kernel_rfl) (fun _ _ _ h => h) (Or.inl ⟨by kernel_rfl, ?_⟩) hHeld ?_
        · intro W hSw
          have cv := conv_rd Try.underlying28 Try.underlying5 Try.underlying9 (rh.up hSw) D.length d6 rfl
          go_simp
        try simp only [Act.put, List.setIfInBounds_toArray, List.set_cons_zero, List.set_cons_succ]
        refine take_d (i := 9) (oi := _) (v := .bool false) (d := some 138) rfl (by kernel_rfl) (by kernel_rfl) (by kernel_rfl) (by kernel_rfl) (fun _ _ _ h => h) (Or.inl ⟨by kernel_rfl, ?_⟩) hHeld ?_
        · intro W hSw
          first | (go_simp; done) | (go_simp; simp)
        try simp only [Act.put, List.setIfInBounds_toArray, List.set_cons_zero, List.set_cons_succ]
        refine take_d (i := 10) (oi := _) (v := ?_) (d := some 139) rfl (by kernel_rfl) (by kernel_rfl) (by kernel_rfl) (by kernel_rfl) (fun _ _ _ h => h) (Or.inl ⟨by kernel_rfl, ?_⟩) hHeld ?_
        rotate_left
        · intro w hSw; (try dsimp only at hSw); go_simp; (try with_reducible rfl)
        try simp only [Act.put, List.setIfInBounds_toArray, List.set_cons_zero, List.set_cons_succ]
        refine take_d (i := 11) (oi := _) (v := ?_) (d := some 140) rfl (by kernel_rfl) (by kernel_rfl) (by kernel_rfl) (by kernel_rfl) (fun _ _ _ h => h) (Or.inl ⟨by kernel_rfl, ?_⟩) hHeld ?_
        rotate_left
        · intro w hSw; (try dsimp only at hSw); go_simp; (try with_reducible rfl)
        try simp only [Act.put, List.setIfInBounds_toArray, List.set_cons_zero, List.set_cons_succ]
        refine take_d (i := 12) (oi := _) (v := ?_) (d := some 141) rfl (by kernel_rfl) (by kernel_rfl) (by kernel_rfl) (by kernel_rfl) (fun _ _ _ h => h) (Or.inl ⟨by kernel_rfl, ?_⟩) hHeld ?_
        rotate_left
        · intro w hSw; (try dsimp only at hSw); go_simp; (try with_reducible rfl)
        try simp only [Act.put, List.setIfInBounds_toArray, List.set_cons_zero, List.set_cons_succ]
        refine take_d (i := 13) (oi := _) (v := ?_) (d := some 142) rfl (by kernel_rfl) (by kernel_rfl) (by kernel_rfl) (by kernel_rfl) (fun _ _ _ h => h) (Or.inl ⟨by kernel_rfl, ?_⟩) hHeld ?_
        rotate_left
        · intro w hSw; (try dsimp only at hSw); go_simp; (try with_reducible rfl)
        try simp only [Act.put, List.setIfInBounds_toArray, List.set_cons_zero, List.set_cons_succ]
        refine wpAnyH_ready (rs := [14]) (by kernel_rfl) (by simp) ?_
        refine AllReadyH.cons rfl (fun K hK => ?_) AllReadyH.nil
        go_simp
        refine (members_any X X A1 A3 mn mn c1 c3 _ HX.out.symm HX.out.symm (by first | exact rx.up bq | exact rx.up (Below.drew bq)) (by first | exact rw3.up bq | exact rw3.up (Below.drew bq)) (by have := HX.out; omega) (by have := HX.out; omega)).mono ?_
        rintro e u2 ⟨rfl, hb⟩
        replace bq := (by first | exact Gw.call bq hb | exact Gw.call (Below.drew bq) hb)
        clear hb
        simp only [decide_true]
        refine hK.out _ _ (bq) (fun hHeld => ?_)
        clear hK K
        try simp only [Act.put, List.setIfInBounds_toArray, List.set_cons_zero, List.set_cons_succ]
        refine take_d (i := 15) (oi := _) (v := ?_) (d := some 144) rfl (by kernel_rfl) (by kernel_rfl) (by kernel_rfl) (by kernel_rfl) (fun _ _ _ h => h) (Or.inl ⟨by kernel_rfl, ?_⟩) hHeld ?_
        rotate_left
        · intro w hSw; (try dsimp only at hSw); go_simp; (try with_reducible rfl)
        try simp only [Act.put, List.setIfInBounds_toArray, List.set_cons_zero, List.set_cons_succ]
        refine take_d (i := 16) (oi := _) (v := ?_) (d := some 145) rfl (by kernel_rfl) (by kernel_rfl) (by kernel_rfl) (by kernel_rfl) (fun _ _ _ h => h) (Or.inl ⟨by kernel_rfl, ?_⟩) hHeld ?_
        rotate_left
        · intro w hSw; (try dsimp only at hSw); go_simp; (try with_reducible rfl)
        try simp only [Act.put, List.setIfInBounds_toArray, List.set_cons_zero, List.set_cons_succ]
        refine take_d (i := 17) (oi := _) (v := ?_) (d := some 146) rfl (by kernel_rfl) (by kernel_rfl) (by kernel_rfl) (by kernel_rfl) (fun _ _ _ h => h) (Or.inl ⟨by kernel_rfl, ?_⟩) hHeld ?_
        rotate_left
        · intro w hSw; (try dsimp only at hSw); go_simp; (try with_reducible rfl)
        try simp only [Act.put, List.setIfInBounds_toArray, List.set_cons_zero, List.set_cons_succ]
        refine take_d (i := 18) (oi := _) (v := ?_) (d := some 147) rfl (by kernel_rfl) (by kernel_rfl) (by kernel_rfl) (by kernel_rfl) (fun _ _ _ h => h) (Or.inl ⟨by kernel_rfl, ?_⟩) hHeld ?_
        rotate_left
        · intro w hSw; (try dsimp only at hSw); go_simp; (try with_reducible rfl)
        try simp only [Act.put, List.setIfInBounds_toArray, List.set_cons_zero, List.set_cons_succ]
        refine take_d (i := 21) (oi := _) (v := ?_) (d := some 150) rfl (by kernel_rfl) (by kernel_rfl) (by kernel_rfl) (by kernel_rfl) (fun _ _ _ h => h) (Or.inl ⟨by kernel_rfl, ?_⟩) hHeld ?_
        rotate_left
        · intro w hSw; (try dsimp only at hSw); go_simp; (try with_reducible rfl)
        try simp only [Act.put, List.setIfInBounds_toArray, List.set_cons_zero, List.set_cons_succ]
        refine wpAnyH_ready (rs := [19]) (by kernel_rfl) (by simp) ?_
        refine AllReadyH.cons rfl (fun K hK => ?_) AllReadyH.nil
        go_simp
        refine (U1.out _ (by first | exact rp.up bq | exact rp.up (Below.drew bq))).mono ?_
        rintro e u3 ⟨B7, d7, rfl, q7, hb⟩
        replace bq := (by first | exact Gw.call bq hb | exact Gw.call (Below.drew bq) hb)
        clear hb
        replace q7 := q7.rd (int_len .u8)
        dsimp only
        refine hK.out _ _ (bq) (fun hHeld => ?_)
        clear hK K
        refine wpAnyH_up (S' := fun W : World => Below u3.heap.size u3 W) (fun W h => Gw.call bq h) _ _ _ _ ?_
        replace hHeld : (fun W : World => Below u3.heap.size u3 W) _ := Below.refl _ _
        try simp only [Act.put, List.setIfInBounds_toArray, List.set_cons_zero, List.set_cons_succ]
        refine take_d (i := 20) (oi := _) (v := .string (strOfNums (upL N))) (d := some 149) rfl (by kernel_rfl) (by kernel_rfl) (by kernel_rfl) (by kernel_rfl) (fun _ _ _ h => h) (Or.inl ⟨by kernel_rfl, ?_⟩) hHeld ?_
        · intro W hSw
          have cv := conv_rd Try.underlying28 Try.underlying5 Try.underlying9 (q7.up hSw) (upL N).length d7 rfl
          go_simp
        try simp only [Act.put, List.setIfInBounds_toArray, List.set_cons_zero, List.set_cons_succ]
        refine wpAnyH_ready (rs := [22]) (by kernel_rfl) (by simp) ?_
        refine AllReadyH.cons rfl (fun K hK => ?_) AllReadyH.nil
        go_simp
        refine (U2.out _ (by first | exact rq.up bq | exact rq.up (Below.drew bq))).mono ?_
        rintro e u4 ⟨B8, d8, rfl, q8, hb4⟩
        replace bq := Gw.call bq hb4
        replace q8 := q8.rd (int_len .u8)
        dsimp only
        refine hK.out _ _ (hb4) (fun hHeld => ?_)
        clear hK K
        refine wpAnyH_up (S' := fun W : World => Below u4.heap.size u4 W) (fun W h => Gw.call hb4 h) _ _ _ _ ?_
        replace hHeld : (fun W : World => Below u4.heap.size u4 W) _ := Below.refl _ _
        try simp only [Act.put, List.setIfInBounds_toArray, List.set_cons_zero, List.set_cons_succ]
        refine take_d (i := 23) (oi := _) (v := .string (strOfNums (upL N))) (d := some 152) rfl (by kernel_rfl) (by kernel_rfl) (by kernel_rfl) (by kernel_rfl) (fun _ _ _ h => h) (Or.inl ⟨by kernel_rfl, ?_⟩) hHeld ?_
        · intro W hSw
          have cv := conv_rd Try.underlying28 Try.underlying5 Try.underlying9 (q8.up hSw) (upL N).length d8 rfl
          go_simp
        try simp only [Act.put, List.setIfInBounds_toArray, List.set_cons_zero, List.set_cons_succ]
        refine take_d (i := 24) (oi := _) (v := .bool false) (d := some 153) rfl (by kernel_rfl) (by kernel_rfl) (by kernel_rfl) (by kernel_rfl) (fun _ _ _ h => h) (Or.inl ⟨by kernel_rfl, ?_⟩) hHeld ?_
        · intro W hSw
          first | (go_simp; done) | (go_simp; simp)
        try simp only [Act.put, List.setIfInBounds_toArray, List.set_cons_zero, List.set_cons_succ]
        refine take_d (i := 25) (oi := _) (v := ?_) (d := some 154) rfl (by kernel_rfl) (by kernel_rfl) (by kernel_rfl) (by kernel_rfl) (fun _ _ _ h => h) (Or.inl ⟨by kernel_rfl, ?_⟩) hHeld ?_
        rotate_left
        · intro w hSw; (try dsimp only at hSw); go_simp; (try with_reducible rfl)
        try simp only [Act.put, List.setIfInBounds_toArray, List.set_cons_zero, List.set_cons_succ]
        refine wpAnyH_done (by kernel_rfl) ?_ _
        replace rp := rp.up bq
        replace rq := rq.up bq
        replace bl := Gw.call bl bq
        clear bq hHeld q7 q8 U1 U2 hb4
        go_wp2_with fail
        go_roundw
        case rel => exact ⟨k + 1, N, B2, d2, B4, d4, hlt, by go_num, rfl, rfl, rp, rq, NL, NG, bl⟩
        case measure => simp [intOf]; omega
    · obtain rfl : k = on := by omega
      go_wp2_with fail
      refine (awake_any _).mono ?_
      rintro e w9 ⟨rfl, hb⟩
      replace bl := Gw.call bl hb
      clear hb
      go_wp2_with fail
      go_ret
      exact ⟨rfl, bl⟩
end Go.Proofs.Ytgkdljfhmflmjaa
