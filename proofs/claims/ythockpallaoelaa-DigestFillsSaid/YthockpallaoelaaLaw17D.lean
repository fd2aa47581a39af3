/-
  DigestMarks (17).
-/
import Derived.Test.YthockpallaoelaaMarksL
import Derived.Test.YthockpallaoelaaDigMarks
import Derived.Test.YthockpallaoelaaAwake17
import Derived.Test.YthockpallaoelaaOwnPut
import Derived.Deep.RegionHeld
namespace Go.Proofs.Ythockpallaoelaa
open Go.RowKit
theorem take_d {P : Program} {ops : Array Oper} {Q : Exit → Act → World → Prop} {md : Region.Mode} {S : World → Prop} {i : Nat} {oi : Oper} {v : Value} {d : Option Nat} {fuel : Nat} {listed : Array Bool} {a : Act} {w : World} (hi : ops[i]? = some oi) (hd : oi.dst = d)
    (hs : Region.noSelect ops = true) (hf : Region.free md ops listed i = true) (hr : (Region.ready md ops listed).contains i = true)
    (hQ : ∀ c a w, Q (.panic c) (a.put oi.dst v) w → Q (.panic c) a w) (hy : YieldsIf P ops S oi v a) (hS : S w)
    (h : wpAnyH P md ops Q S fuel (listed.setIfInBounds i true) (a.put d v) w) : wpAnyH P md ops Q S (fuel + 1) listed a w :=
  wpAnyH_take hi hs hf hr hQ hy hS (hd ▸ h)
theorem wpAnyH_up {P : Program} {md : Region.Mode} {ops : Array Oper} {Q : Exit → Act → World → Prop} {S S' : World → Prop} (hS : ∀ w, S' w → S w) : ∀ (fuel : Nat) (listed : Array Bool) (a : Act) (w : World), wpAnyH P md ops Q S' fuel listed a w → wpAnyH P md ops Q S fuel listed a w
  | 0, _, _, _, h => h
  | fuel + 1, _, _, _, h => ⟨h.1, fun i hi => wpOp_mono (fun a' w' h' => ⟨hS _ h'.1, wpAnyH_up hS fuel _ a' w' h'.2⟩) (h.2 i hi)⟩
theorem Try.infoRow17 : (Try.prog.info? 34).map (fun i => (i.zero, i.size, i.bytes)) = some (some (.agg #[.int .u16 0, .int .u32 0, .int .u64 0]), 3, 16) := by kernel_rfl
theorem zeroes_row (n : Nat) : (List.replicate n (⟨0, 0, 0⟩ : Rw)).flatMap rowc = (madeCells (Value.agg #[.int .u16 0, .int .u32 0, .int .u64 0]).cells (n * 3)).toList := by
  apply List.ext_getElem?
  intro j
  by_cases hj : j < n * 3
  · have hk : j / 3 < n := by omega
    have h1 := flat_at rowc_len (List.replicate n (⟨0, 0, 0⟩ : Rw)) (j / 3) ⟨0, 0, 0⟩ (by rw [List.getElem?_replicate, if_pos hk]) (j % 3) (by omega)
    rw [show j / 3 * 3 + j % 3 = j by omega] at h1
    rw [h1]
    unfold madeCells
    rw [Array.toList_map, List.getElem?_map, Array.toList_range, List.getElem?_range hj]
    have : j % 3 = 0 ∨ j % 3 = 1 ∨ j % 3 = 2 := by omega
    rcases this with h | h | h <;> simp [rowc, Value.cells, h]
  · rw [List.getElem?_eq_none (by rw [flat_len rowc_len, List.length_replicate]; omega), List.getElem?_eq_none (by unfold madeCells; simp; omega)]
theorem dmarks_n (rows : List Rw) (n : Nat) (A : Option Addr) (cap : Nat) (w : World) (hl : rows.length = n) (hr : Rd rowc 3 w.heap.size w A rows) (hlen : n ≤ 256) :
    Calls Try.prog 19 #[.slice A n cap] w fun e w' => ∃ A' c', e = .returned (.slice A' (marksL rows).length c') ∧ Own idc 3 43 w.heap.size w' (.slice A' (marksL rows).length c') (marksL rows) ∧ Below w.heap.size w w' := by
  subst hl; exact dmarks_any rows A cap w hr hlen
theorem marks_zero (n : Nat) (A : Option Addr) (cap : Nat) (w : World) (hr : Rd rowc 3 w.heap.size w A (List.replicate n ⟨0, 0, 0⟩)) (hlen : n ≤ 256) :
    Calls Try.prog 19 #[.slice A n cap] w fun e w' => ∃ A' c', e = .returned (.slice A' 0 c') ∧ Own idc 3 43 w.heap.size w' (.slice A' 0 c') [] ∧ Below w.heap.size w w' := by
  refine (dmarks_n (List.replicate n ⟨0, 0, 0⟩) n A cap w (by simp) hr hlen).mono ?_
  rintro e w' ⟨A', c', rfl, o, hb⟩
  rw [marks_none] at o
  exact ⟨A', c', by rw [marks_none]; rfl, o, hb⟩
def takeF (r : Rw) (x : Id) (m : Int) : Rw := if mayB r x m = true then takeR r x else r
theorem take_any (r : Rw) (x : Id) (m : Int) (h : GoodR r) (hx : x.ok) (w : World) :
    Calls Try.prog 13 #[rwv r, idv x, .int .i64 m] w fun e w' => e = .returned (.tuple #[rwv (takeF r x m), .bool (mayB r x m)]) ∧ Below w.heap.size w w' := by
  unfold takeF
  cases hm : mayB r x m
  · exact take_no r x m h.1 hx hm w
  · exact take_yes r x m h.1 hx hm (good_fit h x) w
theorem takeF_good {r : Rw} {x : Id} {m : Int} (h : GoodR r) (hx : x.ok) : GoodR (takeF r x m) := by
  unfold takeF; split
  · rename_i hm; exact good_take h hx hm
  · exact h
theorem takeF_grows {rows : List Rw} {j : Nat} {r : Rw} {x : Id} {m : Int} (hg : ∀ r ∈ rows, GoodR r) (hj : rows[j]? = some r) (hx : x.ok) : Grows rows (rows.set j (takeF r x m)) := by
  unfold takeF; split
  · rename_i hm; exact grows_set hg hj hx hm
  · have e : rows.set j r = rows := by
      apply List.ext_getElem?
      intro k
      by_cases hk : j = k
      · subst hk
        rw [List.getElem?_set_self (List.getElem?_eq_some_iff.1 hj).1, hj]
      · rw [List.getElem?_set_ne hk]
    rw [e]; exact grows_refl rows
theorem neq_mark (x y : Id) (w : World) : (binOp .neq 43 (idv x) (idv y)).run Try.prog w = .ok (.bool (decide (x ≠ y))) w := by
  go_simp
  by_cases h0 : x.n = y.n <;> by_cases h1 : x.i = y.i <;> by_cases h2 : x.s = y.s <;> simp [id_ext, h0, h1, h2]
theorem lacks_two (rows : List Rw) (n : Nat) (A B : Option Addr) (ca cb : Nat) (a : Nat) (r : Rw) (m : Int) (w : World) (hl : rows.length = n) (ha : Rd idc 3 w.heap.size w A [⟨a, r.i, r.p⟩, ⟨a, r.i, 1⟩]) (hb : Rd rowc 3 w.heap.size w B rows) (hr : rows[a]? = some r) (hg : ∀ r ∈ rows, GoodR r) (ha2 : a ≤ 255) (hp : 0 < r.p) (hn : n ≤ 1000000) :
    Calls Try.prog 10 #[.slice A 2 ca, .slice B n cb, .int .i64 m] w fun e w' => ∃ A' c', e = .returned (.slice A' 0 c') ∧ Below w.heap.size w w' := by
  subst hl
  have hk := (hg r (List.mem_of_getElem? hr)).1
  refine (lacks_any [⟨a, r.i, r.p⟩, ⟨a, r.i, 1⟩] rows m A B ca cb w ha hb (fun x hx => ?_) (fun r hr => (hg r hr).1) (by simp) hn).mono ?_
  · simp only [List.mem_cons, List.not_mem_nil, or_false] at hx
    rcases hx with rfl | rfl
    · exact ⟨⟨by simp, by simp; omega⟩, hk.1, hk.2.1⟩
    · exact ⟨⟨by simp, by simp; omega⟩, hk.1, by simp⟩
  · rintro e w' ⟨A', c', rfl, _, hb⟩
    rw [lacks_low hr hp]
    exact ⟨A', c', rfl, hb⟩
theorem Own.low {α : Type} {enc : α → List Value} {sz : Nat} {E : TypeId} {base : Nat} {w : World} {v : Value} {l : List α} (h : Own enc sz E base w v l) {p : Addr} (hp : p.block < base) (u : Value) : Own enc sz E base (w.setCell p u) v l := ownsRow_setCell_below h hp u
theorem own_put_row {E : TypeId} {base g n c : Nat} {w : World} {l : List Rw} (o : Own rowc 3 E base w (.slice (some ⟨g, 0, none⟩) n c) l) {k : Nat} {x : Rw} (hx : l[k]? = some x) (y : Rw) :
    Own rowc 3 E base (((w.setCell ⟨g, k * 3, none⟩ (.int .u16 y.i)).setCell ⟨g, k * 3 + 1, none⟩ (.int .u32 y.p)).setCell ⟨g, k * 3 + 2, none⟩ (.int .u64 y.b)) (.slice (some ⟨g, 0, none⟩) n c) (l.set k y) := by
  have hlt : k < l.length := (List.getElem?_eq_some_iff.1 hx).1
  have p0 := Own.put1 rowc_len o hx (j := 0) (by omega) ⟨y.i, x.p, x.b⟩ (.int .u16 y.i) rfl
  rw [Nat.add_zero] at p0
  have p1 := Own.put1 rowc_len p0 (k := k) (x := ⟨y.i, x.p, x.b⟩) (by simp [hlt]) (j := 1) (by omega) ⟨y.i, y.p, x.b⟩ (.int .u32 y.p) rfl
  have p2 := Own.put1 rowc_len p1 (k := k) (x := ⟨y.i, y.p, x.b⟩) (by simp [hlt]) (j := 2) (by omega) ⟨y.i, y.p, y.b⟩ (.int .u64 y.b) rfl
  simp only [List.set_set] at p2
  exact p2
set_option maxRecDepth 100000 in
set_option maxHeartbeats 8000000 in
theorem dmk_any (nodes window : Int) (l : List Id) (A : Option Addr) (ca : Nat) (w : World) (hn : 0 ≤ nodes ∧ nodes ≤ 255) (hw : 0 ≤ window ∧ window ≤ 255) (hr : Rd idc 3 w.heap.size w A l) (hlc : l.length ≤ ca) (hcm : ca ≤ maxLen) (hok : ∀ x ∈ l, x.ok) :
    Calls Try.prog 7 #[.int .u8 nodes, .int .u8 window, .slice A l.length ca] w fun e w' => e = .returned (.bool true) ∧ Below w.heap.size w w' := by
  unfold maxLen at hcm
  obtain ⟨i0, hi0, hz0, hz1, hz2⟩ := info_parts Try.infoRow17
  obtain ⟨mn, hmn⟩ : ∃ mn : Nat, mn = min l.length 100 := ⟨_, rfl⟩
  have hmi : (if (100 : Int) < (l.length : Int) then (100 : Int) else (l.length : Int)) = (mn : Int) := by split <;> omega
  have mnl : mn ≤ l.length := by omega
  have mn100 : mn ≤ 100 := by omega
  have mc : (mn : Int) ≤ (ca : Int) := by omega
  obtain ⟨nn, hnn⟩ : ∃ nn : Nat, 1 + nodes % 12 = (nn : Int) := ⟨(1 + nodes % 12).toNat, by omega⟩
  have nn1 : 1 ≤ nn := by omega
  have nn12 : nn ≤ 12 := by omega
  obtain ⟨m, hm⟩ : ∃ m : Int, 1 + window % 64 = m := ⟨_, rfl⟩
  have hm1 : 1 ≤ m := by omega
  have hm2 : m ≤ 64 := by omega
  have HOK := Lib.hid hok
  clear hmn hok
  go_enter Try.func7, Try.ntmps7
  go_wp2_with (at_make; refine wpList_make_full _ rfl _ _ 22 rfl w.heap.size 34 i0 _ 3 Try.underlying22 hi0 hz0 hz1 _ _ _ _ nn rfl rfl (by first | rfl | exact congrArg _ hnn) (by first | rfl | exact congrArg _ hnn) (by rw [hz2]; omega) (by unfold maxLen; omega) (Nat.le_refl _) ?_; intro w3 hown3 hg3)
  have o8 : Own rowc 3 34 w.heap.size w3 (.slice (some ⟨w.heap.size, 0, none⟩) nn nn) (List.replicate nn ⟨0, 0, 0⟩) := by unfold Own; rw [List.length_replicate]; show World.ownsRow _ _ _ _ _ _ ((List.replicate nn (⟨0, 0, 0⟩ : Rw)).flatMap rowc); rw [zeroes_row]; exact hown3
  have b0 := Gw.none_ hg3
  refine (marks_zero nn _ _ _ (o8.rd rowc_len) (by omega)).mono ?_
  rintro e w1 ⟨A9, c9, rfl, q9, hb⟩
  have hgl : w.heap.size < w3.heap.size := by obtain ⟨_, _, cur, ho, _⟩ := Own.row o8; exact ho.lt
  replace q9 := q9.base_le (base' := w.heap.size + 1) (by omega)
  replace o8 := Own.below o8 hb
  replace b0 := Gw.call b0 hb
  clear hb hown3 hg3 hn hw hnn hm
  go_wp2_with fail
  go_loopw [9, 36] (fun was i wr => ∃ (k : Nat) (rows : List Rw) (A9 : Option Addr) (c9 : Nat), k ≤ mn ∧ i = .int .i64 k ∧ was = .slice A9 (marksL rows).length c9 ∧ Own rowc 3 34 w.heap.size wr (.slice (some ⟨w.heap.size, 0, none⟩) nn nn) rows ∧ Own idc 3 43 (w.heap.size + 1) wr (.slice A9 (marksL rows).length c9) (marksL rows) ∧ Hid (rows.length = nn) ∧ Hid (∀ r ∈ rows, GoodR r) ∧ Below w.heap.size w wr) (fun _ i _ => mn - (intOf i).toNat)
  case atStart => exact ⟨0, List.replicate nn ⟨0, 0, 0⟩, A9, c9, Nat.zero_le _, rfl, by rw [marks_none]; rfl, o8, by rw [marks_none]; exact q9, Lib.hid (by simp), Lib.hid (fun r h => by rw [List.eq_of_mem_replicate h]; exact good_zero), b0⟩
  case round =>
    clear b0 o8 q9 hgl
    obtain ⟨k, rows, A9, c9, hk, rfl, rfl, o8, q9, RL, RG, bl⟩ := hrel
    by_cases hlt : k < mn
    · obtain ⟨⟨n, i, s⟩, hx⟩ : ∃ x, l[k]? = some x := ⟨_, List.getElem?_eq_getElem (by omega)⟩
      have xok := Lib.hid (HOK.out _ (List.mem_of_getElem? hx))
      obtain ⟨⟨n0, n1⟩, ⟨j0, j1⟩, s0, s1⟩ := xok.out
      simp only at n0 n1 j0 j1 s0 s1
      obtain ⟨n, rfl⟩ := Int.eq_ofNat_of_zero_le n0
      obtain ⟨bo, o, rfl, hb, hc⟩ := (hr.below bl).at_ hx
      have d0 : wr.cell? ⟨bo, o + k * 3, none⟩ = some (.int .u8 n) := hc 0 _ rfl
      have d1 : wr.cell? ⟨bo, o + k * 3 + 1, none⟩ = some (.int .u16 i) := hc 1 _ rfl
      have d2 : wr.cell? ⟨bo, o + k * 3 + 2, none⟩ = some (.int .u32 s) := hc 2 _ rfl
      clear hc hx
      have ki : (k : Int) < (mn : Int) := by omega
      have G := Ob.new wr #[.int .u8 (n : Int), .int .u16 i, .int .u32 s] 30
      have hgl : w.heap.size < wr.heap.size := by obtain ⟨_, _, cur, ho, _⟩ := Own.row o8; exact ho.lt
      replace o8 := o8.alloc (.cells #[.int .u8 (n : Int), .int .u16 i, .int .u32 s] 30)
      replace q9 := q9.alloc (.cells #[.int .u8 (n : Int), .int .u16 i, .int .u32 s] 30)
      have bx := Gw.al bl (.cells #[.int .u8 (n : Int), .int .u16 i, .int .u32 s] 30)
      by_cases hj : n < nn
      · obtain ⟨r, hr1⟩ : ∃ r, rows[n]? = some r := ⟨_, List.getElem?_eq_getElem (by have := RL.out; omega)⟩
        have HRR := Lib.hid hr1
        have RR := Lib.hid (RG.out r (List.mem_of_getElem? hr1))
        have e0 := Own.at_ rowc_len o8 hr1 (j := 0) rfl
        have e1 := Own.at_ rowc_len o8 hr1 (j := 1) rfl
        have e2 := Own.at_ rowc_len o8 hr1 (j := 2) rfl
        rw [Nat.add_zero] at e0
        clear hr1
        have nni : (n : Int) < (nn : Int) := by omega
        have t1 : decide ((nn : Int) ≤ (n : Int)) = false := by simp; omega
        go_upto_region 10 with fail
        generalize hwq : wr.alloc (.cells #[.int .u8 (n : Int), .int .u16 i, .int .u32 s] 30) = wq at *
        have hgq : wr.heap.size < wq.heap.size := G.lt
        have HB : Hid (∀ W, Below wq.heap.size wq W → (fun W : World => W.cell? ⟨wr.heap.size, 0, none⟩ = some (.int .u8 (n : Int)) ∧ W.cell? ⟨wr.heap.size, 1, none⟩ = some (.int .u16 i) ∧ W.cell? ⟨wr.heap.size, 2, none⟩ = some (.int .u32 s)) W) := Lib.hid fun W hb => ⟨(G.call hb).blk.2.1 0 _ rfl, (G.call hb).blk.2.1 1 _ rfl, (G.call hb).blk.2.1 2 _ rfl⟩
        have bq := Below.refl wq.heap.size wq
        have CT := Lib.hid (fun W => take_any r ⟨n, i, s⟩ m RR.out xok.out W)
        have GT := Lib.hid (takeF_good RR.out xok.out (m := m))
        have GW := Lib.hid (takeF_grows RG.out HRR.out xok.out (m := m))
        obtain ⟨r', hr'⟩ : ∃ r', r' = takeF r ⟨n, i, s⟩ m := ⟨_, rfl⟩
        obtain ⟨is, his⟩ : ∃ b, b = mayB r ⟨n, i, s⟩ m := ⟨_, rfl⟩
        rw [← hr', ← his] at CT
        rw [← hr'] at GT GW
        clear hr' his hwq
        replace e0 : wq.drew.cell? ⟨w.heap.size, n * 3, none⟩ = some (.int .u16 r.i) := e0
        replace e1 : wq.drew.cell? ⟨w.heap.size, n * 3 + 1, none⟩ = some (.int .u32 r.p) := e1
        replace e2 : wq.drew.cell? ⟨w.heap.size, n * 3 + 2, none⟩ = some (.int .u64 r.b) := e2
        refine wp_region_held_drew (S := fun W : World => W.cell? ⟨wr.heap.size, 0, none⟩ = some (.int .u8 (n : Int)) ∧ W.cell? ⟨wr.heap.size, 1, none⟩ = some (.int .u16 i) ∧ W.cell? ⟨wr.heap.size, 2, none⟩ = some (.int .u32 s)) (by kernel_rfl) (HB.out _ (Below.drew bq)) (fun hHeld => ?_)
        refine take_d (i := 0) (oi := _) (v := ?_) (d := some 47) rfl (by kernel_rfl) (by as_aux_lemma => kernel_rfl) (by as_aux_lemma => kernel_rfl) (by as_aux_lemma => kernel_rfl) (fun _ _ _ h => h) (Or.inl ⟨by kernel_rfl, ?_⟩) hHeld ?_
        rotate_left
        · intro w hSw; (try dsimp only at hSw); go_simp; (try with_reducible rfl)
        try simp only [Act.put, List.setIfInBounds_toArray, List.set_cons_zero, List.set_cons_succ]
        refine take_d (i := 1) (oi := _) (v := ?_) (d := some 48) rfl (by kernel_rfl) (by as_aux_lemma => kernel_rfl) (by as_aux_lemma => kernel_rfl) (by as_aux_lemma => kernel_rfl) (fun _ _ _ h => h) (Or.inl ⟨by kernel_rfl, ?_⟩) hHeld ?_
        rotate_left
        · intro w hSw; (try dsimp only at hSw); go_simp; (try with_reducible rfl)
        try simp only [Act.put, List.setIfInBounds_toArray, List.set_cons_zero, List.set_cons_succ]
        refine take_d (i := 2) (oi := _) (v := ?_) (d := some 49) rfl (by kernel_rfl) (by as_aux_lemma => kernel_rfl) (by as_aux_lemma => kernel_rfl) (by as_aux_lemma => kernel_rfl) (fun _ _ _ h => h) (Or.inl ⟨by kernel_rfl, ?_⟩) hHeld ?_
        rotate_left
        · intro w hSw; (try dsimp only at hSw); go_simp; (try with_reducible rfl)
        try simp only [Act.put, List.setIfInBounds_toArray, List.set_cons_zero, List.set_cons_succ]
        refine take_d (i := 3) (oi := _) (v := ?_) (d := some 50) rfl (by kernel_rfl) (by as_aux_lemma => kernel_rfl) (by as_aux_lemma => kernel_rfl) (by as_aux_lemma => kernel_rfl) (fun _ _ _ h => h) (Or.inl ⟨by kernel_rfl, ?_⟩) hHeld ?_
        rotate_left
        · intro w hSw; (try dsimp only at hSw); go_simp; (try with_reducible rfl)
        try simp only [Act.put, List.setIfInBounds_toArray, List.set_cons_zero, List.set_cons_succ]
        refine take_d (i := 4) (oi := _) (v := ?_) (d := some 51) rfl (by kernel_rfl) (by as_aux_lemma => kernel_rfl) (by as_aux_lemma => kernel_rfl) (by as_aux_lemma => kernel_rfl) (fun _ _ _ h => h) (Or.inl ⟨by kernel_rfl, ?_⟩) hHeld ?_
        rotate_left
        · intro w hSw; (try dsimp only at hSw); go_simp; (try with_reducible rfl)
        try simp only [Act.put, List.setIfInBounds_toArray, List.set_cons_zero, List.set_cons_succ]
        refine take_d (i := 5) (oi := _) (v := ?_) (d := some 52) rfl (by kernel_rfl) (by as_aux_lemma => kernel_rfl) (by as_aux_lemma => kernel_rfl) (by as_aux_lemma => kernel_rfl) (fun _ _ _ h => h) (Or.inl ⟨by kernel_rfl, ?_⟩) hHeld ?_
        rotate_left
        · intro w hSw; (try dsimp only at hSw); go_simp; (try with_reducible rfl)
        try simp only [Act.put, List.setIfInBounds_toArray, List.set_cons_zero, List.set_cons_succ]
        refine take_d (i := 6) (oi := _) (v := ?_) (d := some 53) rfl (by kernel_rfl) (by as_aux_lemma => kernel_rfl) (by as_aux_lemma => kernel_rfl) (by as_aux_lemma => kernel_rfl) (fun _ _ _ h => h) (Or.inl ⟨by kernel_rfl, ?_⟩) hHeld ?_
        rotate_left
        · intro w hSw; (try dsimp only at hSw); go_simp; (try with_reducible rfl)
        try simp only [Act.put, List.setIfInBounds_toArray, List.set_cons_zero, List.set_cons_succ]
        refine take_d (i := 8) (oi := _) (v := ?_) (d := some 55) rfl (by kernel_rfl) (by as_aux_lemma => kernel_rfl) (by as_aux_lemma => kernel_rfl) (by as_aux_lemma => kernel_rfl) (fun _ _ _ h => h) (Or.inl ⟨by kernel_rfl, ?_⟩) hHeld ?_
        rotate_left
        · intro w hSw; (try dsimp only at hSw); go_simp; (try with_reducible rfl)
        try simp only [Act.put, List.setIfInBounds_toArray, List.set_cons_zero, List.set_cons_succ]
        refine take_d (i := 9) (oi := _) (v := ?_) (d := some 56) rfl (by kernel_rfl) (by as_aux_lemma => kernel_rfl) (by as_aux_lemma => kernel_rfl) (by as_aux_lemma => kernel_rfl) (fun _ _ _ h => h) (Or.inl ⟨by kernel_rfl, ?_⟩) hHeld ?_
        rotate_left
        · intro w hSw; (try dsimp only at hSw); go_simp; (try with_reducible rfl)
        try simp only [Act.put, List.setIfInBounds_toArray, List.set_cons_zero, List.set_cons_succ]
        refine wpAnyH_ready (rs := [7]) (by kernel_rfl) (by simp) ?_
        refine AllReadyH.cons rfl (fun K hK => ?_) AllReadyH.nil
        go_simp
        skip
        refine hK.out _ _ (HB.out _ (Below.drew bq)) (fun hHeld => ?_)
        clear hK K
        try simp only [Act.put, List.setIfInBounds_toArray, List.set_cons_zero, List.set_cons_succ]
        refine wpAnyH_ready (rs := [10]) (by kernel_rfl) (by simp) ?_
        refine AllReadyH.cons rfl (fun K hK => ?_) AllReadyH.nil
        go_simp
        refine (CT.out _).mono ?_
        rintro e u1 ⟨rfl, hb⟩
        replace bq := Gw.call (Below.drew bq) hb
        replace o8 := Own.below (Own.drew o8) hb
        replace q9 := Own.below (Own.drew q9) hb
        clear hb e0 e1 e2
        have f8 := fun j => Own.free o8 j
        have e0 := Own.at_ rowc_len o8 HRR.out (j := 0) rfl
        have e1 := Own.at_ rowc_len o8 HRR.out (j := 1) rfl
        have e2 := Own.at_ rowc_len o8 HRR.out (j := 2) rfl
        rw [Nat.add_zero] at e0
        dsimp only
        refine hK.out _ _ (HB.out _ bq) (fun hHeld => ?_)
        clear hK K
        try simp only [Act.put, List.setIfInBounds_toArray, List.set_cons_zero, List.set_cons_succ]
        refine take_d (i := 11) (oi := _) (v := ?_) (d := some 46) rfl (by kernel_rfl) (by as_aux_lemma => kernel_rfl) (by as_aux_lemma => kernel_rfl) (by as_aux_lemma => kernel_rfl) (fun _ _ _ h => h) (Or.inl ⟨by kernel_rfl, ?_⟩) hHeld ?_
        rotate_left
        · intro w hSw; (try dsimp only at hSw); go_simp; (try with_reducible rfl)
        try simp only [Act.put, List.setIfInBounds_toArray, List.set_cons_zero, List.set_cons_succ]
        refine take_d (i := 12) (oi := _) (v := ?_) (d := some 58) rfl (by kernel_rfl) (by as_aux_lemma => kernel_rfl) (by as_aux_lemma => kernel_rfl) (by as_aux_lemma => kernel_rfl) (fun _ _ _ h => h) (Or.inl ⟨by kernel_rfl, ?_⟩) hHeld ?_
        rotate_left
        · intro w hSw; (try dsimp only at hSw); go_simp; (try with_reducible rfl)
        try simp only [Act.put, List.setIfInBounds_toArray, List.set_cons_zero, List.set_cons_succ]
        refine take_d (i := 13) (oi := _) (v := ?_) (d := some 59) rfl (by kernel_rfl) (by as_aux_lemma => kernel_rfl) (by as_aux_lemma => kernel_rfl) (by as_aux_lemma => kernel_rfl) (fun _ _ _ h => h) (Or.inl ⟨by kernel_rfl, ?_⟩) hHeld ?_
        rotate_left
        · intro w hSw; (try dsimp only at hSw); go_simp; (try with_reducible rfl)
        try simp only [Act.put, List.setIfInBounds_toArray, List.set_cons_zero, List.set_cons_succ]
        refine take_d (i := 14) (oi := _) (v := ?_) (d := some 60) rfl (by kernel_rfl) (by as_aux_lemma => kernel_rfl) (by as_aux_lemma => kernel_rfl) (by as_aux_lemma => kernel_rfl) (fun _ _ _ h => h) (Or.inl ⟨by kernel_rfl, ?_⟩) hHeld ?_
        rotate_left
        · intro w hSw; (try dsimp only at hSw); go_simp; (try with_reducible rfl)
        try simp only [Act.put, List.setIfInBounds_toArray, List.set_cons_zero, List.set_cons_succ]
        refine wpAnyH_ready (rs := [15]) (by kernel_rfl) (by simp) ?_
        refine AllReadyH.cons rfl (fun K hK => ?_) AllReadyH.nil
        go_simp
        have hgx : wr.heap.size ≠ w.heap.size := by omega
        refine hK.out _ _ (⟨((((G.call bq).far hgx _).far hgx _).far hgx _).blk.2.1 0 _ rfl, ((((G.call bq).far hgx _).far hgx _).far hgx _).blk.2.1 1 _ rfl, ((((G.call bq).far hgx _).far hgx _).far hgx _).blk.2.1 2 _ rfl⟩) (fun hHeld => ?_)
        clear hK K
        try simp only [Act.put, List.setIfInBounds_toArray, List.set_cons_zero, List.set_cons_succ]
        refine wpAnyH_done (by kernel_rfl) ?_ _
        replace o8 := own_put_row o8 HRR.out r'
        replace q9 := Own.low (Own.low (Own.low q9 (p := ⟨w.heap.size, n * 3, none⟩) (Nat.lt_succ_self _) (.int .u16 r'.i)) (p := ⟨w.heap.size, n * 3 + 1, none⟩) (Nat.lt_succ_self _) (.int .u32 r'.p)) (p := ⟨w.heap.size, n * 3 + 2, none⟩) (Nat.lt_succ_self _) (.int .u64 r'.b)
        replace bx := Gw.st (Gw.st (Gw.st (Gw.call bx bq) (p := ⟨w.heap.size, n * 3, none⟩) (Nat.le_refl _) (.int .u16 r'.i)) (p := ⟨w.heap.size, n * 3 + 1, none⟩) (Nat.le_refl _) (.int .u32 r'.p)) (p := ⟨w.heap.size, n * 3 + 2, none⟩) (Nat.le_refl _) (.int .u64 r'.b)
        clear HB CT e0 e1 e2 f8 bq hHeld G hgl hgq hgx d0 d1 d2 hb
        generalize ((u1.setCell ⟨w.heap.size, n * 3, none⟩ (.int .u16 r'.i)).setCell ⟨w.heap.size, n * 3 + 1, none⟩ (.int .u32 r'.p)).setCell ⟨w.heap.size, n * 3 + 2, none⟩ (.int .u64 r'.b) = wz at *
        have RSL : Hid ((rows.set n r').length = nn) := Lib.hid (by rw [List.length_set]; exact RL.out)
        have GS : Hid (∀ r ∈ rows.set n r', GoodR r) := Lib.hid (good_set RG.out GT.out)
        obtain ⟨rs, hrs⟩ : ∃ rs, rs = rows.set n r' := ⟨_, rfl⟩
        rw [← hrs] at o8 RSL GS GW
        have RG' := RG
        clear hrs GT RG RR HRR xok
        go_wp2_with fail
        have hgz : w.heap.size < wz.heap.size := by obtain ⟨_, _, cur, ho, _⟩ := Own.row o8; exact ho.lt
        refine (dmarks_n rs nn _ _ _ RSL.out (o8.rd rowc_len) (by omega)).mono ?_
        rintro e w2 ⟨A12, c12, rfl, q12, hb⟩
        replace o8 := Own.below o8 hb
        replace q9 := Own.below q9 hb
        replace bx := Gw.call bx hb
        replace q12 := q12.base_le (base' := w.heap.size + 1) (by omega)
        have hmg := marks_grow GW.out
        have hnl12 := marks_len rs
        rw [RSL.out] at hnl12
        have HKA := Lib.hid (kc_all GW.out)
        generalize hnl : (marksL rs).length = nl at *
        generalize hol : (marksL rows).length = ol at *
        have HNL := Lib.hid hnl
        have HOL := Lib.hid hol
        have t2 : decide ((nl : Int) < (ol : Int)) = false := by simp; omega
        have t3 : decide (nl < ol) = false := by simp; omega
        clear hb hnl hol hgz
        go_wp2_with fail
        go_loopw [13, 70] (fun kk iv wi => ∃ j : Nat, j ≤ nl ∧ iv = .int .i64 j ∧ kk = .int .i64 (kc rows rs j) ∧ Own rowc 3 34 w.heap.size wi (.slice (some ⟨w.heap.size, 0, none⟩) nn nn) rs ∧ Own idc 3 43 (w.heap.size + 1) wi (.slice A9 ol c9) (marksL rows) ∧ Own idc 3 43 (w.heap.size + 1) wi (.slice A12 nl c12) (marksL rs) ∧ Below w.heap.size w wi) (fun _ iv _ => nl - (intOf iv).toNat)
        case atStart => exact ⟨0, Nat.zero_le _, rfl, by rw [kc_zero]; rfl, o8, q9, q12, bx⟩
        case round =>
          clear o8 q9 q12 bx
          obtain ⟨j, hj2, rfl, rfl, o8, q9, q12, bi⟩ := hrel
          by_cases hjl : j < nl
          · obtain ⟨mk, hmk⟩ : ∃ mk, (marksL rs)[j]? = some mk := ⟨_, List.getElem?_eq_getElem (by have := HNL.out; omega)⟩
            obtain ⟨a, r1, rfl, ha, hra, hri, hcase⟩ := mark_step GW.out hmk
            have HMK := Lib.hid hmk
            have HC := Lib.hid hcase
            have HRA := Lib.hid hra
            rw [RSL.out] at ha
            obtain ⟨⟨⟨g0, g1⟩, ⟨g2, g3⟩, _⟩, _⟩ := GS.out r1 (List.mem_of_getElem? hra)
            obtain ⟨b12, p12, rfl, hb12, hc⟩ := (q12.rd idc_len).at_ hmk
            have d0 : wr.cell? ⟨b12, p12 + j * 3, none⟩ = some (.int .u8 (a : Int)) := hc 0 _ rfl
            have d1 : wr.cell? ⟨b12, p12 + j * 3 + 1, none⟩ = some (.int .u16 r1.i) := hc 1 _ rfl
            have d2 : wr.cell? ⟨b12, p12 + j * 3 + 2, none⟩ = some (.int .u32 r1.p) := hc 2 _ rfl
            have G := Ob.new wr #[.int .u8 (a : Int), .int .u16 r1.i, .int .u32 r1.p] 43
            replace o8 := o8.alloc (.cells #[.int .u8 (a : Int), .int .u16 r1.i, .int .u32 r1.p] 43)
            replace q9 := q9.alloc (.cells #[.int .u8 (a : Int), .int .u16 r1.i, .int .u32 r1.p] 43)
            replace q12 := q12.alloc (.cells #[.int .u8 (a : Int), .int .u16 r1.i, .int .u32 r1.p] 43)
            replace bi := Gw.al bi (.cells #[.int .u8 (a : Int), .int .u16 r1.i, .int .u32 r1.p] 43)
            have e0 := Own.at_ rowc_len o8 hra (j := 0) rfl
            have e1 := Own.at_ rowc_len o8 hra (j := 1) rfl
            rw [Nat.add_zero] at e0
            have ani : (a : Int) < (nn : Int) := by omega
            have jni : (j : Int) < (nl : Int) := by omega
            have t4 : decide ((nn : Int) ≤ (a : Int)) = false := by simp; omega
            have t5 : decide (nn ≤ a) = false := by simp; omega
            have t6 : (r1.i == 0) = false := by rw [beq_eq_false_iff_ne]; omega
            clear hmk hcase hra hc
            go_upto_region 18 with fail
            have hgv : w.heap.size < wr.heap.size + 1 := by obtain ⟨_, _, cur, ho, _⟩ := Own.row o8; have := ho.lt; rwa [World.size_alloc] at this
            rw [show wr.heap.size + 1 = (wr.alloc (.cells #[.int .u8 (a : Int), .int .u16 r1.i, .int .u32 r1.p] 43)).heap.size by rw [World.size_alloc]] at hgv
            have hbv : b12 < (wr.alloc (.cells #[.int .u8 (a : Int), .int .u16 r1.i, .int .u32 r1.p] 43)).heap.size := by rw [World.size_alloc]; omega
            have d3 : ∀ jp mp, (marksL rs)[jp]? = some mp → (wr.alloc (.cells #[.int .u8 (a : Int), .int .u16 r1.i, .int .u32 r1.p] 43)).cell? ⟨b12, p12 + jp * 3, none⟩ = some (.int .u8 mp.n) := fun jp mp h => by
              obtain ⟨b', p', he, _, hc⟩ := (q12.rd idc_len).at_ h
              injection he with he; injection he with he1 he2 _; subst he1 he2; exact hc 0 _ rfl
            have HD3 := Lib.hid d3
            have HJ := Lib.hid (fun jp (h : j = jp + 1) => (by subst h; obtain ⟨mp, hmp⟩ : ∃ mp, (marksL rs)[jp]? = some mp := ⟨_, List.getElem?_eq_getElem (by have := HNL.out; omega)⟩; exact ⟨mp, hmp, mark_rise hmp HMK.out⟩ : ∃ mp, (marksL rs)[jp]? = some mp ∧ mp.n < (a : Int)))
            clear d0 d1 d2 d3 hb12 HMK
            generalize hwv : wr.alloc (.cells #[.int .u8 (a : Int), .int .u16 r1.i, .int .u32 r1.p] 43) = wv at *
            clear hwv
            have bq := Below.refl wv.heap.size wv
            go_cut [122] (fun v wx => v = .bool false ∧ Below wv.heap.size wv wx)
            case first =>
              have wa : IntKind.i64.wrap (a : Int) = (a : Int) := IntWalk.i64_in _ (by omega)
              rcases Nat.eq_zero_or_pos j with hj0 | hj0
              · have tj : decide ((0 : Int) < (j : Int)) = false := by simp; omega
                have tjn : decide (0 < j) = false := by simp; omega
                have HB : Hid (∀ W, Below wv.heap.size wv W → (fun W : World => W.cell? ⟨wr.heap.size, 0, none⟩ = some (.int .u8 (a : Int)) ∧ W.cell? ⟨wr.heap.size, 1, none⟩ = some (.int .u16 r1.i) ∧ W.cell? ⟨wr.heap.size, 2, none⟩ = some (.int .u32 r1.p) ∧ W.cell? ⟨w.heap.size, a * 3, none⟩ = some (.int .u16 r1.i) ∧ W.cell? ⟨w.heap.size, a * 3 + 1, none⟩ = some (.int .u32 r1.p)) W) := Lib.hid fun W hb => ⟨(G.call hb).blk.2.1 0 _ rfl, (G.call hb).blk.2.1 1 _ rfl, (G.call hb).blk.2.1 2 _ rfl, (hb.cell (p := ⟨w.heap.size, _, none⟩) hgv).trans e0, (hb.cell (p := ⟨w.heap.size, _, none⟩) hgv).trans e1⟩
                clear hj0
                refine wp_region_held_drew (S := fun W : World => W.cell? ⟨wr.heap.size, 0, none⟩ = some (.int .u8 (a : Int)) ∧ W.cell? ⟨wr.heap.size, 1, none⟩ = some (.int .u16 r1.i) ∧ W.cell? ⟨wr.heap.size, 2, none⟩ = some (.int .u32 r1.p) ∧ W.cell? ⟨w.heap.size, a * 3, none⟩ = some (.int .u16 r1.i) ∧ W.cell? ⟨w.heap.size, a * 3 + 1, none⟩ = some (.int .u32 r1.p)) (by kernel_rfl) (HB.out _ (Below.drew bq)) (fun hHeld => ?_)
                refine take_d (i := 0) (oi := _) (v := ?_) (d := some 75) rfl (by kernel_rfl) (by as_aux_lemma => kernel_rfl) (by as_aux_lemma => kernel_rfl) (by as_aux_lemma => kernel_rfl) (fun _ _ _ h => h) (Or.inl ⟨by kernel_rfl, ?_⟩) hHeld ?_
                rotate_left
                · intro w hSw; (try dsimp only at hSw); go_simp; (try with_reducible rfl)
                try simp only [Act.put, List.setIfInBounds_toArray, List.set_cons_zero, List.set_cons_succ]
                refine take_d (i := 1) (oi := _) (v := .bool false) (d := some 76) rfl (by kernel_rfl) (by as_aux_lemma => kernel_rfl) (by as_aux_lemma => kernel_rfl) (by as_aux_lemma => kernel_rfl) (fun _ _ _ h => h) (Or.inl ⟨by kernel_rfl, ?_⟩) hHeld ?_
                · intro W hSw
                  go_simp; first | done | simp only [tj] | simp only [tjn] | simp [tj, tjn]
                try simp only [Act.put, List.setIfInBounds_toArray, List.set_cons_zero, List.set_cons_succ]
                refine take_d (i := 2) (oi := _) (v := ?_) (d := some 77) rfl (by kernel_rfl) (by as_aux_lemma => kernel_rfl) (by as_aux_lemma => kernel_rfl) (by as_aux_lemma => kernel_rfl) (fun _ _ _ h => h) (Or.inl ⟨by kernel_rfl, ?_⟩) hHeld ?_
                rotate_left
                · intro w hSw; (try dsimp only at hSw); go_simp; (try with_reducible rfl)
                try simp only [Act.put, List.setIfInBounds_toArray, List.set_cons_zero, List.set_cons_succ]
                refine take_d (i := 3) (oi := _) (v := undef) (d := some 78) rfl (by kernel_rfl) (by as_aux_lemma => kernel_rfl) (by as_aux_lemma => kernel_rfl) (by as_aux_lemma => kernel_rfl) (fun _ _ _ h => h) (Or.inr ⟨by kernel_rfl, rfl⟩) hHeld ?_
                try simp only [Act.put, List.setIfInBounds_toArray, List.set_cons_zero, List.set_cons_succ]
                refine take_d (i := 4) (oi := _) (v := undef) (d := some 79) rfl (by kernel_rfl) (by as_aux_lemma => kernel_rfl) (by as_aux_lemma => kernel_rfl) (by as_aux_lemma => kernel_rfl) (fun _ _ _ h => h) (Or.inr ⟨by kernel_rfl, rfl⟩) hHeld ?_
                try simp only [Act.put, List.setIfInBounds_toArray, List.set_cons_zero, List.set_cons_succ]
                refine take_d (i := 5) (oi := _) (v := undef) (d := some 80) rfl (by kernel_rfl) (by as_aux_lemma => kernel_rfl) (by as_aux_lemma => kernel_rfl) (by as_aux_lemma => kernel_rfl) (fun _ _ _ h => h) (Or.inr ⟨by kernel_rfl, rfl⟩) hHeld ?_
                try simp only [Act.put, List.setIfInBounds_toArray, List.set_cons_zero, List.set_cons_succ]
                refine take_d (i := 6) (oi := _) (v := undef) (d := some 81) rfl (by kernel_rfl) (by as_aux_lemma => kernel_rfl) (by as_aux_lemma => kernel_rfl) (by as_aux_lemma => kernel_rfl) (fun _ _ _ h => h) (Or.inr ⟨by kernel_rfl, rfl⟩) hHeld ?_
                try simp only [Act.put, List.setIfInBounds_toArray, List.set_cons_zero, List.set_cons_succ]
                refine take_d (i := 7) (oi := _) (v := undef) (d := some 82) rfl (by kernel_rfl) (by as_aux_lemma => kernel_rfl) (by as_aux_lemma => kernel_rfl) (by as_aux_lemma => kernel_rfl) (fun _ _ _ h => h) (Or.inr ⟨by kernel_rfl, rfl⟩) hHeld ?_
                try simp only [Act.put, List.setIfInBounds_toArray, List.set_cons_zero, List.set_cons_succ]
                refine take_d (i := 8) (oi := _) (v := undef) (d := some 83) rfl (by kernel_rfl) (by as_aux_lemma => kernel_rfl) (by as_aux_lemma => kernel_rfl) (by as_aux_lemma => kernel_rfl) (fun _ _ _ h => h) (Or.inr ⟨by kernel_rfl, rfl⟩) hHeld ?_
                try simp only [Act.put, List.setIfInBounds_toArray, List.set_cons_zero, List.set_cons_succ]
                refine take_d (i := 9) (oi := _) (v := undef) (d := some 84) rfl (by kernel_rfl) (by as_aux_lemma => kernel_rfl) (by as_aux_lemma => kernel_rfl) (by as_aux_lemma => kernel_rfl) (fun _ _ _ h => h) (Or.inr ⟨by kernel_rfl, rfl⟩) hHeld ?_
                try simp only [Act.put, List.setIfInBounds_toArray, List.set_cons_zero, List.set_cons_succ]
                refine take_d (i := 10) (oi := _) (v := undef) (d := some 85) rfl (by kernel_rfl) (by as_aux_lemma => kernel_rfl) (by as_aux_lemma => kernel_rfl) (by as_aux_lemma => kernel_rfl) (fun _ _ _ h => h) (Or.inr ⟨by kernel_rfl, rfl⟩) hHeld ?_
                try simp only [Act.put, List.setIfInBounds_toArray, List.set_cons_zero, List.set_cons_succ]
                refine take_d (i := 11) (oi := _) (v := undef) (d := some 86) rfl (by kernel_rfl) (by as_aux_lemma => kernel_rfl) (by as_aux_lemma => kernel_rfl) (by as_aux_lemma => kernel_rfl) (fun _ _ _ h => h) (Or.inr ⟨by kernel_rfl, rfl⟩) hHeld ?_
                try simp only [Act.put, List.setIfInBounds_toArray, List.set_cons_zero, List.set_cons_succ]
                refine take_d (i := 12) (oi := _) (v := ?_) (d := some 87) rfl (by kernel_rfl) (by as_aux_lemma => kernel_rfl) (by as_aux_lemma => kernel_rfl) (by as_aux_lemma => kernel_rfl) (fun _ _ _ h => h) (Or.inl ⟨by kernel_rfl, ?_⟩) hHeld ?_
                rotate_left
                · intro w hSw; (try dsimp only at hSw); go_simp; (try with_reducible rfl)
                try simp only [Act.put, List.setIfInBounds_toArray, List.set_cons_zero, List.set_cons_succ]
                refine take_d (i := 13) (oi := _) (v := ?_) (d := some 88) rfl (by kernel_rfl) (by as_aux_lemma => kernel_rfl) (by as_aux_lemma => kernel_rfl) (by as_aux_lemma => kernel_rfl) (fun _ _ _ h => h) (Or.inl ⟨by kernel_rfl, ?_⟩) hHeld ?_
                rotate_left
                · intro w hSw; (try dsimp only at hSw); go_simp; (try with_reducible rfl)
                try simp only [Act.put, List.setIfInBounds_toArray, List.set_cons_zero, List.set_cons_succ]
                refine take_d (i := 14) (oi := _) (v := ?_) (d := some 89) rfl (by kernel_rfl) (by as_aux_lemma => kernel_rfl) (by as_aux_lemma => kernel_rfl) (by as_aux_lemma => kernel_rfl) (fun _ _ _ h => h) (Or.inl ⟨by kernel_rfl, ?_⟩) hHeld ?_
                rotate_left
                · intro w hSw; (try dsimp only at hSw); go_simp; (try with_reducible rfl)
                try simp only [Act.put, List.setIfInBounds_toArray, List.set_cons_zero, List.set_cons_succ]
                refine take_d (i := 15) (oi := _) (v := ?_) (d := some 90) rfl (by kernel_rfl) (by as_aux_lemma => kernel_rfl) (by as_aux_lemma => kernel_rfl) (by as_aux_lemma => kernel_rfl) (fun _ _ _ h => h) (Or.inl ⟨by kernel_rfl, ?_⟩) hHeld ?_
                rotate_left
                · intro w hSw; (try dsimp only at hSw); go_simp; (try with_reducible rfl)
                try simp only [Act.put, List.setIfInBounds_toArray, List.set_cons_zero, List.set_cons_succ]
                refine take_d (i := 16) (oi := _) (v := ?_) (d := some 91) rfl (by kernel_rfl) (by as_aux_lemma => kernel_rfl) (by as_aux_lemma => kernel_rfl) (by as_aux_lemma => kernel_rfl) (fun _ _ _ h => h) (Or.inl ⟨by kernel_rfl, ?_⟩) hHeld ?_
                rotate_left
                · intro w hSw; (try dsimp only at hSw); go_simp; (try with_reducible rfl)
                try simp only [Act.put, List.setIfInBounds_toArray, List.set_cons_zero, List.set_cons_succ]
                refine take_d (i := 17) (oi := _) (v := ?_) (d := some 92) rfl (by kernel_rfl) (by as_aux_lemma => kernel_rfl) (by as_aux_lemma => kernel_rfl) (by as_aux_lemma => kernel_rfl) (fun _ _ _ h => h) (Or.inl ⟨by kernel_rfl, ?_⟩) hHeld ?_
                rotate_left
                · intro w hSw; (try dsimp only at hSw); go_simp; (try with_reducible rfl)
                try simp only [Act.put, List.setIfInBounds_toArray, List.set_cons_zero, List.set_cons_succ]
                refine take_d (i := 18) (oi := _) (v := ?_) (d := some 93) rfl (by kernel_rfl) (by as_aux_lemma => kernel_rfl) (by as_aux_lemma => kernel_rfl) (by as_aux_lemma => kernel_rfl) (fun _ _ _ h => h) (Or.inl ⟨by kernel_rfl, ?_⟩) hHeld ?_
                rotate_left
                · intro w hSw; (try dsimp only at hSw); go_simp; (try with_reducible rfl)
                try simp only [Act.put, List.setIfInBounds_toArray, List.set_cons_zero, List.set_cons_succ]
                refine take_d (i := 19) (oi := _) (v := ?_) (d := some 94) rfl (by kernel_rfl) (by as_aux_lemma => kernel_rfl) (by as_aux_lemma => kernel_rfl) (by as_aux_lemma => kernel_rfl) (fun _ _ _ h => h) (Or.inl ⟨by kernel_rfl, ?_⟩) hHeld ?_
                rotate_left
                · intro w hSw; (try dsimp only at hSw); go_simp; (try with_reducible rfl)
                try simp only [Act.put, List.setIfInBounds_toArray, List.set_cons_zero, List.set_cons_succ]
                refine take_d (i := 20) (oi := _) (v := ?_) (d := some 95) rfl (by kernel_rfl) (by as_aux_lemma => kernel_rfl) (by as_aux_lemma => kernel_rfl) (by as_aux_lemma => kernel_rfl) (fun _ _ _ h => h) (Or.inl ⟨by kernel_rfl, ?_⟩) hHeld ?_
                rotate_left
                · intro w hSw; (try dsimp only at hSw); go_simp; (try with_reducible rfl)
                try simp only [Act.put, List.setIfInBounds_toArray, List.set_cons_zero, List.set_cons_succ]
                refine take_d (i := 21) (oi := _) (v := ?_) (d := some 96) rfl (by kernel_rfl) (by as_aux_lemma => kernel_rfl) (by as_aux_lemma => kernel_rfl) (by as_aux_lemma => kernel_rfl) (fun _ _ _ h => h) (Or.inl ⟨by kernel_rfl, ?_⟩) hHeld ?_
                rotate_left
                · intro w hSw; (try dsimp only at hSw); go_simp; (try with_reducible rfl)
                try simp only [Act.put, List.setIfInBounds_toArray, List.set_cons_zero, List.set_cons_succ]
                refine take_d (i := 22) (oi := _) (v := ?_) (d := some 97) rfl (by kernel_rfl) (by as_aux_lemma => kernel_rfl) (by as_aux_lemma => kernel_rfl) (by as_aux_lemma => kernel_rfl) (fun _ _ _ h => h) (Or.inl ⟨by kernel_rfl, ?_⟩) hHeld ?_
                rotate_left
                · intro w hSw; (try dsimp only at hSw); go_simp; (try with_reducible rfl)
                try simp only [Act.put, List.setIfInBounds_toArray, List.set_cons_zero, List.set_cons_succ]
                refine take_d (i := 23) (oi := _) (v := ?_) (d := some 98) rfl (by kernel_rfl) (by as_aux_lemma => kernel_rfl) (by as_aux_lemma => kernel_rfl) (by as_aux_lemma => kernel_rfl) (fun _ _ _ h => h) (Or.inl ⟨by kernel_rfl, ?_⟩) hHeld ?_
                rotate_left
                · intro w hSw; (try dsimp only at hSw); go_simp; (try with_reducible rfl)
                try simp only [Act.put, List.setIfInBounds_toArray, List.set_cons_zero, List.set_cons_succ]
                refine take_d (i := 24) (oi := _) (v := ?_) (d := some 99) rfl (by kernel_rfl) (by as_aux_lemma => kernel_rfl) (by as_aux_lemma => kernel_rfl) (by as_aux_lemma => kernel_rfl) (fun _ _ _ h => h) (Or.inl ⟨by kernel_rfl, ?_⟩) hHeld ?_
                rotate_left
                · intro w hSw; (try dsimp only at hSw); go_simp; (try with_reducible rfl)
                try simp only [Act.put, List.setIfInBounds_toArray, List.set_cons_zero, List.set_cons_succ]
                refine take_d (i := 25) (oi := _) (v := ?_) (d := some 100) rfl (by kernel_rfl) (by as_aux_lemma => kernel_rfl) (by as_aux_lemma => kernel_rfl) (by as_aux_lemma => kernel_rfl) (fun _ _ _ h => h) (Or.inl ⟨by kernel_rfl, ?_⟩) hHeld ?_
                rotate_left
                · intro w hSw; (try dsimp only at hSw); go_simp; (try with_reducible rfl)
                try simp only [Act.put, List.setIfInBounds_toArray, List.set_cons_zero, List.set_cons_succ]
                refine take_d (i := 26) (oi := _) (v := ?_) (d := some 101) rfl (by kernel_rfl) (by as_aux_lemma => kernel_rfl) (by as_aux_lemma => kernel_rfl) (by as_aux_lemma => kernel_rfl) (fun _ _ _ h => h) (Or.inl ⟨by kernel_rfl, ?_⟩) hHeld ?_
                rotate_left
                · intro w hSw; (try dsimp only at hSw); go_simp; (try with_reducible rfl)
                try simp only [Act.put, List.setIfInBounds_toArray, List.set_cons_zero, List.set_cons_succ]
                refine take_d (i := 27) (oi := _) (v := ?_) (d := some 102) rfl (by kernel_rfl) (by as_aux_lemma => kernel_rfl) (by as_aux_lemma => kernel_rfl) (by as_aux_lemma => kernel_rfl) (fun _ _ _ h => h) (Or.inl ⟨by kernel_rfl, ?_⟩) hHeld ?_
                rotate_left
                · intro w hSw; (try dsimp only at hSw); go_simp; (try with_reducible rfl)
                try simp only [Act.put, List.setIfInBounds_toArray, List.set_cons_zero, List.set_cons_succ]
                refine take_d (i := 28) (oi := _) (v := ?_) (d := some 103) rfl (by kernel_rfl) (by as_aux_lemma => kernel_rfl) (by as_aux_lemma => kernel_rfl) (by as_aux_lemma => kernel_rfl) (fun _ _ _ h => h) (Or.inl ⟨by kernel_rfl, ?_⟩) hHeld ?_
                rotate_left
                · intro w hSw; (try dsimp only at hSw); go_simp; (try with_reducible rfl)
                try simp only [Act.put, List.setIfInBounds_toArray, List.set_cons_zero, List.set_cons_succ]
                refine take_d (i := 29) (oi := _) (v := ?_) (d := some 104) rfl (by kernel_rfl) (by as_aux_lemma => kernel_rfl) (by as_aux_lemma => kernel_rfl) (by as_aux_lemma => kernel_rfl) (fun _ _ _ h => h) (Or.inl ⟨by kernel_rfl, ?_⟩) hHeld ?_
                rotate_left
                · intro w hSw; (try dsimp only at hSw); go_simp; (try with_reducible rfl)
                try simp only [Act.put, List.setIfInBounds_toArray, List.set_cons_zero, List.set_cons_succ]
                refine take_d (i := 30) (oi := _) (v := ?_) (d := some 105) rfl (by kernel_rfl) (by as_aux_lemma => kernel_rfl) (by as_aux_lemma => kernel_rfl) (by as_aux_lemma => kernel_rfl) (fun _ _ _ h => h) (Or.inl ⟨by kernel_rfl, ?_⟩) hHeld ?_
                rotate_left
                · intro w hSw; (try dsimp only at hSw); go_simp; (try with_reducible rfl)
                try simp only [Act.put, List.setIfInBounds_toArray, List.set_cons_zero, List.set_cons_succ]
                refine take_d (i := 31) (oi := _) (v := ?_) (d := some 106) rfl (by kernel_rfl) (by as_aux_lemma => kernel_rfl) (by as_aux_lemma => kernel_rfl) (by as_aux_lemma => kernel_rfl) (fun _ _ _ h => h) (Or.inl ⟨by kernel_rfl, ?_⟩) hHeld ?_
                rotate_left
                · intro w hSw; (try dsimp only at hSw); go_simp; (try with_reducible rfl)
                try simp only [Act.put, List.setIfInBounds_toArray, List.set_cons_zero, List.set_cons_succ]
                refine take_d (i := 32) (oi := _) (v := ?_) (d := some 107) rfl (by kernel_rfl) (by as_aux_lemma => kernel_rfl) (by as_aux_lemma => kernel_rfl) (by as_aux_lemma => kernel_rfl) (fun _ _ _ h => h) (Or.inl ⟨by kernel_rfl, ?_⟩) hHeld ?_
                rotate_left
                · intro w hSw; (try dsimp only at hSw); go_simp; (try with_reducible rfl)
                try simp only [Act.put, List.setIfInBounds_toArray, List.set_cons_zero, List.set_cons_succ]
                refine take_d (i := 33) (oi := _) (v := ?_) (d := some 108) rfl (by kernel_rfl) (by as_aux_lemma => kernel_rfl) (by as_aux_lemma => kernel_rfl) (by as_aux_lemma => kernel_rfl) (fun _ _ _ h => h) (Or.inl ⟨by kernel_rfl, ?_⟩) hHeld ?_
                rotate_left
                · intro w hSw; (try dsimp only at hSw); go_simp; (try with_reducible rfl)
                try simp only [Act.put, List.setIfInBounds_toArray, List.set_cons_zero, List.set_cons_succ]
                refine take_d (i := 34) (oi := _) (v := ?_) (d := some 109) rfl (by kernel_rfl) (by as_aux_lemma => kernel_rfl) (by as_aux_lemma => kernel_rfl) (by as_aux_lemma => kernel_rfl) (fun _ _ _ h => h) (Or.inl ⟨by kernel_rfl, ?_⟩) hHeld ?_
                rotate_left
                · intro w hSw; (try dsimp only at hSw); go_simp; (try with_reducible rfl)
                try simp only [Act.put, List.setIfInBounds_toArray, List.set_cons_zero, List.set_cons_succ]
                refine take_d (i := 35) (oi := _) (v := ?_) (d := some 110) rfl (by kernel_rfl) (by as_aux_lemma => kernel_rfl) (by as_aux_lemma => kernel_rfl) (by as_aux_lemma => kernel_rfl) (fun _ _ _ h => h) (Or.inl ⟨by kernel_rfl, ?_⟩) hHeld ?_
                rotate_left
                · intro w hSw; (try dsimp only at hSw); go_simp; (try with_reducible rfl)
                try simp only [Act.put, List.setIfInBounds_toArray, List.set_cons_zero, List.set_cons_succ]
                refine take_d (i := 36) (oi := _) (v := ?_) (d := some 111) rfl (by kernel_rfl) (by as_aux_lemma => kernel_rfl) (by as_aux_lemma => kernel_rfl) (by as_aux_lemma => kernel_rfl) (fun _ _ _ h => h) (Or.inl ⟨by kernel_rfl, ?_⟩) hHeld ?_
                rotate_left
                · intro w hSw; (try dsimp only at hSw); go_simp; (try with_reducible rfl)
                try simp only [Act.put, List.setIfInBounds_toArray, List.set_cons_zero, List.set_cons_succ]
                refine take_d (i := 37) (oi := _) (v := ?_) (d := some 112) rfl (by kernel_rfl) (by as_aux_lemma => kernel_rfl) (by as_aux_lemma => kernel_rfl) (by as_aux_lemma => kernel_rfl) (fun _ _ _ h => h) (Or.inl ⟨by kernel_rfl, ?_⟩) hHeld ?_
                rotate_left
                · intro w hSw; (try dsimp only at hSw); go_simp; (try with_reducible rfl)
                try simp only [Act.put, List.setIfInBounds_toArray, List.set_cons_zero, List.set_cons_succ]
                refine take_d (i := 38) (oi := _) (v := ?_) (d := some 113) rfl (by kernel_rfl) (by as_aux_lemma => kernel_rfl) (by as_aux_lemma => kernel_rfl) (by as_aux_lemma => kernel_rfl) (fun _ _ _ h => h) (Or.inl ⟨by kernel_rfl, ?_⟩) hHeld ?_
                rotate_left
                · intro w hSw; (try dsimp only at hSw); go_simp; (try with_reducible rfl)
                try simp only [Act.put, List.setIfInBounds_toArray, List.set_cons_zero, List.set_cons_succ]
                refine take_d (i := 39) (oi := _) (v := ?_) (d := some 114) rfl (by kernel_rfl) (by as_aux_lemma => kernel_rfl) (by as_aux_lemma => kernel_rfl) (by as_aux_lemma => kernel_rfl) (fun _ _ _ h => h) (Or.inl ⟨by kernel_rfl, ?_⟩) hHeld ?_
                rotate_left
                · intro w hSw; (try dsimp only at hSw); go_simp; (try with_reducible rfl)
                try simp only [Act.put, List.setIfInBounds_toArray, List.set_cons_zero, List.set_cons_succ]
                refine take_d (i := 40) (oi := _) (v := ?_) (d := some 115) rfl (by kernel_rfl) (by as_aux_lemma => kernel_rfl) (by as_aux_lemma => kernel_rfl) (by as_aux_lemma => kernel_rfl) (fun _ _ _ h => h) (Or.inl ⟨by kernel_rfl, ?_⟩) hHeld ?_
                rotate_left
                · intro w hSw; (try dsimp only at hSw); go_simp; (try with_reducible rfl)
                try simp only [Act.put, List.setIfInBounds_toArray, List.set_cons_zero, List.set_cons_succ]
                refine take_d (i := 41) (oi := _) (v := ?_) (d := some 116) rfl (by kernel_rfl) (by as_aux_lemma => kernel_rfl) (by as_aux_lemma => kernel_rfl) (by as_aux_lemma => kernel_rfl) (fun _ _ _ h => h) (Or.inl ⟨by kernel_rfl, ?_⟩) hHeld ?_
                rotate_left
                · intro w hSw; (try dsimp only at hSw); go_simp; (try with_reducible rfl)
                try simp only [Act.put, List.setIfInBounds_toArray, List.set_cons_zero, List.set_cons_succ]
                refine take_d (i := 42) (oi := _) (v := ?_) (d := some 117) rfl (by kernel_rfl) (by as_aux_lemma => kernel_rfl) (by as_aux_lemma => kernel_rfl) (by as_aux_lemma => kernel_rfl) (fun _ _ _ h => h) (Or.inl ⟨by kernel_rfl, ?_⟩) hHeld ?_
                rotate_left
                · intro w hSw; (try dsimp only at hSw); go_simp; (try with_reducible rfl)
                try simp only [Act.put, List.setIfInBounds_toArray, List.set_cons_zero, List.set_cons_succ]
                refine take_d (i := 43) (oi := _) (v := ?_) (d := some 118) rfl (by kernel_rfl) (by as_aux_lemma => kernel_rfl) (by as_aux_lemma => kernel_rfl) (by as_aux_lemma => kernel_rfl) (fun _ _ _ h => h) (Or.inl ⟨by kernel_rfl, ?_⟩) hHeld ?_
                rotate_left
                · intro w hSw; (try dsimp only at hSw); go_simp; (try with_reducible rfl)
                try simp only [Act.put, List.setIfInBounds_toArray, List.set_cons_zero, List.set_cons_succ]
                refine take_d (i := 44) (oi := _) (v := ?_) (d := some 119) rfl (by kernel_rfl) (by as_aux_lemma => kernel_rfl) (by as_aux_lemma => kernel_rfl) (by as_aux_lemma => kernel_rfl) (fun _ _ _ h => h) (Or.inl ⟨by kernel_rfl, ?_⟩) hHeld ?_
                rotate_left
                · intro w hSw; (try dsimp only at hSw); go_simp; (try with_reducible rfl)
                try simp only [Act.put, List.setIfInBounds_toArray, List.set_cons_zero, List.set_cons_succ]
                refine take_d (i := 45) (oi := _) (v := ?_) (d := some 120) rfl (by kernel_rfl) (by as_aux_lemma => kernel_rfl) (by as_aux_lemma => kernel_rfl) (by as_aux_lemma => kernel_rfl) (fun _ _ _ h => h) (Or.inl ⟨by kernel_rfl, ?_⟩) hHeld ?_
                rotate_left
                · intro w hSw; (try dsimp only at hSw); go_simp; (try with_reducible rfl)
                try simp only [Act.put, List.setIfInBounds_toArray, List.set_cons_zero, List.set_cons_succ]
                refine take_d (i := 46) (oi := _) (v := ?_) (d := some 121) rfl (by kernel_rfl) (by as_aux_lemma => kernel_rfl) (by as_aux_lemma => kernel_rfl) (by as_aux_lemma => kernel_rfl) (fun _ _ _ h => h) (Or.inl ⟨by kernel_rfl, ?_⟩) hHeld ?_
                rotate_left
                · intro w hSw; (try dsimp only at hSw); go_simp; (try with_reducible rfl)
                try simp only [Act.put, List.setIfInBounds_toArray, List.set_cons_zero, List.set_cons_succ]
                refine take_d (i := 47) (oi := _) (v := ?_) (d := some 122) rfl (by kernel_rfl) (by as_aux_lemma => kernel_rfl) (by as_aux_lemma => kernel_rfl) (by as_aux_lemma => kernel_rfl) (fun _ _ _ h => h) (Or.inl ⟨by kernel_rfl, ?_⟩) hHeld ?_
                rotate_left
                · intro w hSw; (try dsimp only at hSw); go_simp; (try with_reducible rfl)
                try simp only [Act.put, List.setIfInBounds_toArray, List.set_cons_zero, List.set_cons_succ]
                refine wpAnyH_done (by kernel_rfl) ?_ _
                go_wp2_with fail
                go_meet
                exact ⟨rfl, Below.drew bq⟩
              · obtain ⟨jp, hjp⟩ : ∃ jp, j = jp + 1 := ⟨j - 1, by omega⟩
                obtain ⟨mp, hmp, hlt3⟩ := HJ.out jp hjp
                have d3 := HD3.out jp mp hmp
                have tj : decide ((0 : Int) < (j : Int)) = true := by simp; omega
                have tjn : decide (0 < j) = true := by simp; omega
                have tj2 : IntKind.i64.wrap ((j : Int) - 1) = (jp : Int) := by rw [IntWalk.i64_in _ (by omega)]; omega
                have tg : decide ((a : Int) ≤ mp.n) = false := by simp; omega
                have jpn : (jp : Int) < (nl : Int) := by omega
                have HB : Hid (∀ W, Below wv.heap.size wv W → (fun W : World => W.cell? ⟨wr.heap.size, 0, none⟩ = some (.int .u8 (a : Int)) ∧ W.cell? ⟨wr.heap.size, 1, none⟩ = some (.int .u16 r1.i) ∧ W.cell? ⟨wr.heap.size, 2, none⟩ = some (.int .u32 r1.p) ∧ W.cell? ⟨w.heap.size, a * 3, none⟩ = some (.int .u16 r1.i) ∧ W.cell? ⟨w.heap.size, a * 3 + 1, none⟩ = some (.int .u32 r1.p) ∧ W.cell? ⟨b12, p12 + jp * 3, none⟩ = some (.int .u8 mp.n)) W) := Lib.hid fun W hb => ⟨(G.call hb).blk.2.1 0 _ rfl, (G.call hb).blk.2.1 1 _ rfl, (G.call hb).blk.2.1 2 _ rfl, (hb.cell (p := ⟨w.heap.size, _, none⟩) hgv).trans e0, (hb.cell (p := ⟨w.heap.size, _, none⟩) hgv).trans e1, (hb.cell (p := ⟨b12, _, none⟩) hbv).trans d3⟩
                clear hj0 hjp hmp hlt3 d3
                refine wp_region_held_drew (S := fun W : World => W.cell? ⟨wr.heap.size, 0, none⟩ = some (.int .u8 (a : Int)) ∧ W.cell? ⟨wr.heap.size, 1, none⟩ = some (.int .u16 r1.i) ∧ W.cell? ⟨wr.heap.size, 2, none⟩ = some (.int .u32 r1.p) ∧ W.cell? ⟨w.heap.size, a * 3, none⟩ = some (.int .u16 r1.i) ∧ W.cell? ⟨w.heap.size, a * 3 + 1, none⟩ = some (.int .u32 r1.p) ∧ W.cell? ⟨b12, p12 + jp * 3, none⟩ = some (.int .u8 mp.n)) (by kernel_rfl) (HB.out _ (Below.drew bq)) (fun hHeld => ?_)
                refine take_d (i := 0) (oi := _) (v := ?_) (d := some 75) rfl (by kernel_rfl) (by as_aux_lemma => kernel_rfl) (by as_aux_lemma => kernel_rfl) (by as_aux_lemma => kernel_rfl) (fun _ _ _ h => h) (Or.inl ⟨by kernel_rfl, ?_⟩) hHeld ?_
                rotate_left
                · intro w hSw; (try dsimp only at hSw); go_simp; (try with_reducible rfl)
                try simp only [Act.put, List.setIfInBounds_toArray, List.set_cons_zero, List.set_cons_succ]
                refine take_d (i := 1) (oi := _) (v := .bool true) (d := some 76) rfl (by kernel_rfl) (by as_aux_lemma => kernel_rfl) (by as_aux_lemma => kernel_rfl) (by as_aux_lemma => kernel_rfl) (fun _ _ _ h => h) (Or.inl ⟨by kernel_rfl, ?_⟩) hHeld ?_
                · intro W hSw
                  go_simp; first | done | simp only [tj] | simp only [tjn] | simp [tj, tjn]
                try simp only [Act.put, List.setIfInBounds_toArray, List.set_cons_zero, List.set_cons_succ]
                refine take_d (i := 2) (oi := _) (v := ?_) (d := some 77) rfl (by kernel_rfl) (by as_aux_lemma => kernel_rfl) (by as_aux_lemma => kernel_rfl) (by as_aux_lemma => kernel_rfl) (fun _ _ _ h => h) (Or.inl ⟨by kernel_rfl, ?_⟩) hHeld ?_
                rotate_left
                · intro w hSw; (try dsimp only at hSw); go_simp; (try with_reducible rfl)
                try simp only [Act.put, List.setIfInBounds_toArray, List.set_cons_zero, List.set_cons_succ]
                refine take_d (i := 3) (oi := _) (v := ?_) (d := some 78) rfl (by kernel_rfl) (by as_aux_lemma => kernel_rfl) (by as_aux_lemma => kernel_rfl) (by as_aux_lemma => kernel_rfl) (fun _ _ _ h => h) (Or.inl ⟨by kernel_rfl, ?_⟩) hHeld ?_
                rotate_left
                · intro w hSw; (try dsimp only at hSw); go_simp; (try with_reducible rfl)
                try simp only [Act.put, List.setIfInBounds_toArray, List.set_cons_zero, List.set_cons_succ]
                refine take_d (i := 4) (oi := _) (v := ?_) (d := some 79) rfl (by kernel_rfl) (by as_aux_lemma => kernel_rfl) (by as_aux_lemma => kernel_rfl) (by as_aux_lemma => kernel_rfl) (fun _ _ _ h => h) (Or.inl ⟨by kernel_rfl, ?_⟩) hHeld ?_
                rotate_left
                · intro w hSw; (try dsimp only at hSw); go_simp; (try with_reducible rfl)
                try simp only [Act.put, List.setIfInBounds_toArray, List.set_cons_zero, List.set_cons_succ]
                refine take_d (i := 5) (oi := _) (v := .int .i64 jp) (d := some 80) rfl (by kernel_rfl) (by as_aux_lemma => kernel_rfl) (by as_aux_lemma => kernel_rfl) (by as_aux_lemma => kernel_rfl) (fun _ _ _ h => h) (Or.inl ⟨by kernel_rfl, ?_⟩) hHeld ?_
                · intro W hSw
                  go_simp; first | done | simp only [tj2]
                try simp only [Act.put, List.setIfInBounds_toArray, List.set_cons_zero, List.set_cons_succ]
                refine take_d (i := 6) (oi := _) (v := ?_) (d := some 81) rfl (by kernel_rfl) (by as_aux_lemma => kernel_rfl) (by as_aux_lemma => kernel_rfl) (by as_aux_lemma => kernel_rfl) (fun _ _ _ h => h) (Or.inl ⟨by kernel_rfl, ?_⟩) hHeld ?_
                rotate_left
                · intro w hSw; (try dsimp only at hSw); go_simp; (try with_reducible rfl)
                try simp only [Act.put, List.setIfInBounds_toArray, List.set_cons_zero, List.set_cons_succ]
                refine take_d (i := 7) (oi := _) (v := ?_) (d := some 82) rfl (by kernel_rfl) (by as_aux_lemma => kernel_rfl) (by as_aux_lemma => kernel_rfl) (by as_aux_lemma => kernel_rfl) (fun _ _ _ h => h) (Or.inl ⟨by kernel_rfl, ?_⟩) hHeld ?_
                rotate_left
                · intro w hSw; (try dsimp only at hSw); go_simp; (try with_reducible rfl)
                try simp only [Act.put, List.setIfInBounds_toArray, List.set_cons_zero, List.set_cons_succ]
                refine take_d (i := 8) (oi := _) (v := ?_) (d := some 83) rfl (by kernel_rfl) (by as_aux_lemma => kernel_rfl) (by as_aux_lemma => kernel_rfl) (by as_aux_lemma => kernel_rfl) (fun _ _ _ h => h) (Or.inl ⟨by kernel_rfl, ?_⟩) hHeld ?_
                rotate_left
                · intro w hSw; (try dsimp only at hSw); go_simp; (try with_reducible rfl)
                try simp only [Act.put, List.setIfInBounds_toArray, List.set_cons_zero, List.set_cons_succ]
                refine take_d (i := 9) (oi := _) (v := ?_) (d := some 84) rfl (by kernel_rfl) (by as_aux_lemma => kernel_rfl) (by as_aux_lemma => kernel_rfl) (by as_aux_lemma => kernel_rfl) (fun _ _ _ h => h) (Or.inl ⟨by kernel_rfl, ?_⟩) hHeld ?_
                rotate_left
                · intro w hSw; (try dsimp only at hSw); go_simp; (try with_reducible rfl)
                try simp only [Act.put, List.setIfInBounds_toArray, List.set_cons_zero, List.set_cons_succ]
                refine take_d (i := 10) (oi := _) (v := ?_) (d := some 85) rfl (by kernel_rfl) (by as_aux_lemma => kernel_rfl) (by as_aux_lemma => kernel_rfl) (by as_aux_lemma => kernel_rfl) (fun _ _ _ h => h) (Or.inl ⟨by kernel_rfl, ?_⟩) hHeld ?_
                rotate_left
                · intro w hSw; (try dsimp only at hSw); go_simp; (try with_reducible rfl)
                try simp only [Act.put, List.setIfInBounds_toArray, List.set_cons_zero, List.set_cons_succ]
                refine take_d (i := 11) (oi := _) (v := .bool false) (d := some 86) rfl (by kernel_rfl) (by as_aux_lemma => kernel_rfl) (by as_aux_lemma => kernel_rfl) (by as_aux_lemma => kernel_rfl) (fun _ _ _ h => h) (Or.inl ⟨by kernel_rfl, ?_⟩) hHeld ?_
                · intro W hSw
                  go_simp; first | done | simp only [tg]
                try simp only [Act.put, List.setIfInBounds_toArray, List.set_cons_zero, List.set_cons_succ]
                refine take_d (i := 12) (oi := _) (v := ?_) (d := some 87) rfl (by kernel_rfl) (by as_aux_lemma => kernel_rfl) (by as_aux_lemma => kernel_rfl) (by as_aux_lemma => kernel_rfl) (fun _ _ _ h => h) (Or.inl ⟨by kernel_rfl, ?_⟩) hHeld ?_
                rotate_left
                · intro w hSw; (try dsimp only at hSw); go_simp; (try with_reducible rfl)
                try simp only [Act.put, List.setIfInBounds_toArray, List.set_cons_zero, List.set_cons_succ]
                refine take_d (i := 13) (oi := _) (v := ?_) (d := some 88) rfl (by kernel_rfl) (by as_aux_lemma => kernel_rfl) (by as_aux_lemma => kernel_rfl) (by as_aux_lemma => kernel_rfl) (fun _ _ _ h => h) (Or.inl ⟨by kernel_rfl, ?_⟩) hHeld ?_
                rotate_left
                · intro w hSw; (try dsimp only at hSw); go_simp; (try with_reducible rfl)
                try simp only [Act.put, List.setIfInBounds_toArray, List.set_cons_zero, List.set_cons_succ]
                refine take_d (i := 14) (oi := _) (v := ?_) (d := some 89) rfl (by kernel_rfl) (by as_aux_lemma => kernel_rfl) (by as_aux_lemma => kernel_rfl) (by as_aux_lemma => kernel_rfl) (fun _ _ _ h => h) (Or.inl ⟨by kernel_rfl, ?_⟩) hHeld ?_
                rotate_left
                · intro w hSw; (try dsimp only at hSw); go_simp; (try with_reducible rfl)
                try simp only [Act.put, List.setIfInBounds_toArray, List.set_cons_zero, List.set_cons_succ]
                refine take_d (i := 15) (oi := _) (v := ?_) (d := some 90) rfl (by kernel_rfl) (by as_aux_lemma => kernel_rfl) (by as_aux_lemma => kernel_rfl) (by as_aux_lemma => kernel_rfl) (fun _ _ _ h => h) (Or.inl ⟨by kernel_rfl, ?_⟩) hHeld ?_
                rotate_left
                · intro w hSw; (try dsimp only at hSw); go_simp; (try with_reducible rfl)
                try simp only [Act.put, List.setIfInBounds_toArray, List.set_cons_zero, List.set_cons_succ]
                refine take_d (i := 16) (oi := _) (v := ?_) (d := some 91) rfl (by kernel_rfl) (by as_aux_lemma => kernel_rfl) (by as_aux_lemma => kernel_rfl) (by as_aux_lemma => kernel_rfl) (fun _ _ _ h => h) (Or.inl ⟨by kernel_rfl, ?_⟩) hHeld ?_
                rotate_left
                · intro w hSw; (try dsimp only at hSw); go_simp; (try with_reducible rfl)
                try simp only [Act.put, List.setIfInBounds_toArray, List.set_cons_zero, List.set_cons_succ]
                refine take_d (i := 17) (oi := _) (v := ?_) (d := some 92) rfl (by kernel_rfl) (by as_aux_lemma => kernel_rfl) (by as_aux_lemma => kernel_rfl) (by as_aux_lemma => kernel_rfl) (fun _ _ _ h => h) (Or.inl ⟨by kernel_rfl, ?_⟩) hHeld ?_
                rotate_left
                · intro w hSw; (try dsimp only at hSw); go_simp; (try with_reducible rfl)
                try simp only [Act.put, List.setIfInBounds_toArray, List.set_cons_zero, List.set_cons_succ]
                refine take_d (i := 18) (oi := _) (v := ?_) (d := some 93) rfl (by kernel_rfl) (by as_aux_lemma => kernel_rfl) (by as_aux_lemma => kernel_rfl) (by as_aux_lemma => kernel_rfl) (fun _ _ _ h => h) (Or.inl ⟨by kernel_rfl, ?_⟩) hHeld ?_
                rotate_left
                · intro w hSw; (try dsimp only at hSw); go_simp; (try with_reducible rfl)
                try simp only [Act.put, List.setIfInBounds_toArray, List.set_cons_zero, List.set_cons_succ]
                refine take_d (i := 19) (oi := _) (v := ?_) (d := some 94) rfl (by kernel_rfl) (by as_aux_lemma => kernel_rfl) (by as_aux_lemma => kernel_rfl) (by as_aux_lemma => kernel_rfl) (fun _ _ _ h => h) (Or.inl ⟨by kernel_rfl, ?_⟩) hHeld ?_
                rotate_left
                · intro w hSw; (try dsimp only at hSw); go_simp; (try with_reducible rfl)
                try simp only [Act.put, List.setIfInBounds_toArray, List.set_cons_zero, List.set_cons_succ]
                refine take_d (i := 20) (oi := _) (v := ?_) (d := some 95) rfl (by kernel_rfl) (by as_aux_lemma => kernel_rfl) (by as_aux_lemma => kernel_rfl) (by as_aux_lemma => kernel_rfl) (fun _ _ _ h => h) (Or.inl ⟨by kernel_rfl, ?_⟩) hHeld ?_
                rotate_left
                · intro w hSw; (try dsimp only at hSw); go_simp; (try with_reducible rfl)
                try simp only [Act.put, List.setIfInBounds_toArray, List.set_cons_zero, List.set_cons_succ]
                refine take_d (i := 21) (oi := _) (v := ?_) (d := some 96) rfl (by kernel_rfl) (by as_aux_lemma => kernel_rfl) (by as_aux_lemma => kernel_rfl) (by as_aux_lemma => kernel_rfl) (fun _ _ _ h => h) (Or.inl ⟨by kernel_rfl, ?_⟩) hHeld ?_
                rotate_left
                · intro w hSw; (try dsimp only at hSw); go_simp; (try with_reducible rfl)
                try simp only [Act.put, List.setIfInBounds_toArray, List.set_cons_zero, List.set_cons_succ]
                refine take_d (i := 22) (oi := _) (v := ?_) (d := some 97) rfl (by kernel_rfl) (by as_aux_lemma => kernel_rfl) (by as_aux_lemma => kernel_rfl) (by as_aux_lemma => kernel_rfl) (fun _ _ _ h => h) (Or.inl ⟨by kernel_rfl, ?_⟩) hHeld ?_
                rotate_left
                · intro w hSw; (try dsimp only at hSw); go_simp; (try with_reducible rfl)
                try simp only [Act.put, List.setIfInBounds_toArray, List.set_cons_zero, List.set_cons_succ]
                refine take_d (i := 23) (oi := _) (v := ?_) (d := some 98) rfl (by kernel_rfl) (by as_aux_lemma => kernel_rfl) (by as_aux_lemma => kernel_rfl) (by as_aux_lemma => kernel_rfl) (fun _ _ _ h => h) (Or.inl ⟨by kernel_rfl, ?_⟩) hHeld ?_
                rotate_left
                · intro w hSw; (try dsimp only at hSw); go_simp; (try with_reducible rfl)
                try simp only [Act.put, List.setIfInBounds_toArray, List.set_cons_zero, List.set_cons_succ]
                refine take_d (i := 24) (oi := _) (v := ?_) (d := some 99) rfl (by kernel_rfl) (by as_aux_lemma => kernel_rfl) (by as_aux_lemma => kernel_rfl) (by as_aux_lemma => kernel_rfl) (fun _ _ _ h => h) (Or.inl ⟨by kernel_rfl, ?_⟩) hHeld ?_
                rotate_left
                · intro w hSw; (try dsimp only at hSw); go_simp; (try with_reducible rfl)
                try simp only [Act.put, List.setIfInBounds_toArray, List.set_cons_zero, List.set_cons_succ]
                refine take_d (i := 25) (oi := _) (v := ?_) (d := some 100) rfl (by kernel_rfl) (by as_aux_lemma => kernel_rfl) (by as_aux_lemma => kernel_rfl) (by as_aux_lemma => kernel_rfl) (fun _ _ _ h => h) (Or.inl ⟨by kernel_rfl, ?_⟩) hHeld ?_
                rotate_left
                · intro w hSw; (try dsimp only at hSw); go_simp; (try with_reducible rfl)
                try simp only [Act.put, List.setIfInBounds_toArray, List.set_cons_zero, List.set_cons_succ]
                refine take_d (i := 26) (oi := _) (v := ?_) (d := some 101) rfl (by kernel_rfl) (by as_aux_lemma => kernel_rfl) (by as_aux_lemma => kernel_rfl) (by as_aux_lemma => kernel_rfl) (fun _ _ _ h => h) (Or.inl ⟨by kernel_rfl, ?_⟩) hHeld ?_
                rotate_left
                · intro w hSw; (try dsimp only at hSw); go_simp; (try with_reducible rfl)
                try simp only [Act.put, List.setIfInBounds_toArray, List.set_cons_zero, List.set_cons_succ]
                refine take_d (i := 27) (oi := _) (v := ?_) (d := some 102) rfl (by kernel_rfl) (by as_aux_lemma => kernel_rfl) (by as_aux_lemma => kernel_rfl) (by as_aux_lemma => kernel_rfl) (fun _ _ _ h => h) (Or.inl ⟨by kernel_rfl, ?_⟩) hHeld ?_
                rotate_left
                · intro w hSw; (try dsimp only at hSw); go_simp; (try with_reducible rfl)
                try simp only [Act.put, List.setIfInBounds_toArray, List.set_cons_zero, List.set_cons_succ]
                refine take_d (i := 28) (oi := _) (v := ?_) (d := some 103) rfl (by kernel_rfl) (by as_aux_lemma => kernel_rfl) (by as_aux_lemma => kernel_rfl) (by as_aux_lemma => kernel_rfl) (fun _ _ _ h => h) (Or.inl ⟨by kernel_rfl, ?_⟩) hHeld ?_
                rotate_left
                · intro w hSw; (try dsimp only at hSw); go_simp; (try with_reducible rfl)
                try simp only [Act.put, List.setIfInBounds_toArray, List.set_cons_zero, List.set_cons_succ]
                refine take_d (i := 29) (oi := _) (v := ?_) (d := some 104) rfl (by kernel_rfl) (by as_aux_lemma => kernel_rfl) (by as_aux_lemma => kernel_rfl) (by as_aux_lemma => kernel_rfl) (fun _ _ _ h => h) (Or.inl ⟨by kernel_rfl, ?_⟩) hHeld ?_
                rotate_left
                · intro w hSw; (try dsimp only at hSw); go_simp; (try with_reducible rfl)
                try simp only [Act.put, List.setIfInBounds_toArray, List.set_cons_zero, List.set_cons_succ]
                refine take_d (i := 30) (oi := _) (v := ?_) (d := some 105) rfl (by kernel_rfl) (by as_aux_lemma => kernel_rfl) (by as_aux_lemma => kernel_rfl) (by as_aux_lemma => kernel_rfl) (fun _ _ _ h => h) (Or.inl ⟨by kernel_rfl, ?_⟩) hHeld ?_
                rotate_left
                · intro w hSw; (try dsimp only at hSw); go_simp; (try with_reducible rfl)
                try simp only [Act.put, List.setIfInBounds_toArray, List.set_cons_zero, List.set_cons_succ]
                refine take_d (i := 31) (oi := _) (v := ?_) (d := some 106) rfl (by kernel_rfl) (by as_aux_lemma => kernel_rfl) (by as_aux_lemma => kernel_rfl) (by as_aux_lemma => kernel_rfl) (fun _ _ _ h => h) (Or.inl ⟨by kernel_rfl, ?_⟩) hHeld ?_
                rotate_left
                · intro w hSw; (try dsimp only at hSw); go_simp; (try with_reducible rfl)
                try simp only [Act.put, List.setIfInBounds_toArray, List.set_cons_zero, List.set_cons_succ]
                refine take_d (i := 32) (oi := _) (v := ?_) (d := some 107) rfl (by kernel_rfl) (by as_aux_lemma => kernel_rfl) (by as_aux_lemma => kernel_rfl) (by as_aux_lemma => kernel_rfl) (fun _ _ _ h => h) (Or.inl ⟨by kernel_rfl, ?_⟩) hHeld ?_
                rotate_left
                · intro w hSw; (try dsimp only at hSw); go_simp; (try with_reducible rfl)
                try simp only [Act.put, List.setIfInBounds_toArray, List.set_cons_zero, List.set_cons_succ]
                refine take_d (i := 33) (oi := _) (v := ?_) (d := some 108) rfl (by kernel_rfl) (by as_aux_lemma => kernel_rfl) (by as_aux_lemma => kernel_rfl) (by as_aux_lemma => kernel_rfl) (fun _ _ _ h => h) (Or.inl ⟨by kernel_rfl, ?_⟩) hHeld ?_
                rotate_left
                · intro w hSw; (try dsimp only at hSw); go_simp; (try with_reducible rfl)
                try simp only [Act.put, List.setIfInBounds_toArray, List.set_cons_zero, List.set_cons_succ]
                refine take_d (i := 34) (oi := _) (v := ?_) (d := some 109) rfl (by kernel_rfl) (by as_aux_lemma => kernel_rfl) (by as_aux_lemma => kernel_rfl) (by as_aux_lemma => kernel_rfl) (fun _ _ _ h => h) (Or.inl ⟨by kernel_rfl, ?_⟩) hHeld ?_
                rotate_left
                · intro w hSw; (try dsimp only at hSw); go_simp; (try with_reducible rfl)
                try simp only [Act.put, List.setIfInBounds_toArray, List.set_cons_zero, List.set_cons_succ]
                refine take_d (i := 35) (oi := _) (v := ?_) (d := some 110) rfl (by kernel_rfl) (by as_aux_lemma => kernel_rfl) (by as_aux_lemma => kernel_rfl) (by as_aux_lemma => kernel_rfl) (fun _ _ _ h => h) (Or.inl ⟨by kernel_rfl, ?_⟩) hHeld ?_
                rotate_left
                · intro w hSw; (try dsimp only at hSw); go_simp; (try with_reducible rfl)
                try simp only [Act.put, List.setIfInBounds_toArray, List.set_cons_zero, List.set_cons_succ]
                refine take_d (i := 36) (oi := _) (v := ?_) (d := some 111) rfl (by kernel_rfl) (by as_aux_lemma => kernel_rfl) (by as_aux_lemma => kernel_rfl) (by as_aux_lemma => kernel_rfl) (fun _ _ _ h => h) (Or.inl ⟨by kernel_rfl, ?_⟩) hHeld ?_
                rotate_left
                · intro w hSw; (try dsimp only at hSw); go_simp; (try with_reducible rfl)
                try simp only [Act.put, List.setIfInBounds_toArray, List.set_cons_zero, List.set_cons_succ]
                refine take_d (i := 37) (oi := _) (v := ?_) (d := some 112) rfl (by kernel_rfl) (by as_aux_lemma => kernel_rfl) (by as_aux_lemma => kernel_rfl) (by as_aux_lemma => kernel_rfl) (fun _ _ _ h => h) (Or.inl ⟨by kernel_rfl, ?_⟩) hHeld ?_
                rotate_left
                · intro w hSw; (try dsimp only at hSw); go_simp; (try with_reducible rfl)
                try simp only [Act.put, List.setIfInBounds_toArray, List.set_cons_zero, List.set_cons_succ]
                refine take_d (i := 38) (oi := _) (v := ?_) (d := some 113) rfl (by kernel_rfl) (by as_aux_lemma => kernel_rfl) (by as_aux_lemma => kernel_rfl) (by as_aux_lemma => kernel_rfl) (fun _ _ _ h => h) (Or.inl ⟨by kernel_rfl, ?_⟩) hHeld ?_
                rotate_left
                · intro w hSw; (try dsimp only at hSw); go_simp; (try with_reducible rfl)
                try simp only [Act.put, List.setIfInBounds_toArray, List.set_cons_zero, List.set_cons_succ]
                refine take_d (i := 39) (oi := _) (v := ?_) (d := some 114) rfl (by kernel_rfl) (by as_aux_lemma => kernel_rfl) (by as_aux_lemma => kernel_rfl) (by as_aux_lemma => kernel_rfl) (fun _ _ _ h => h) (Or.inl ⟨by kernel_rfl, ?_⟩) hHeld ?_
                rotate_left
                · intro w hSw; (try dsimp only at hSw); go_simp; (try with_reducible rfl)
                try simp only [Act.put, List.setIfInBounds_toArray, List.set_cons_zero, List.set_cons_succ]
                refine take_d (i := 40) (oi := _) (v := ?_) (d := some 115) rfl (by kernel_rfl) (by as_aux_lemma => kernel_rfl) (by as_aux_lemma => kernel_rfl) (by as_aux_lemma => kernel_rfl) (fun _ _ _ h => h) (Or.inl ⟨by kernel_rfl, ?_⟩) hHeld ?_
                rotate_left
                · intro w hSw; (try dsimp only at hSw); go_simp; (try with_reducible rfl)
                try simp only [Act.put, List.setIfInBounds_toArray, List.set_cons_zero, List.set_cons_succ]
                refine take_d (i := 41) (oi := _) (v := ?_) (d := some 116) rfl (by kernel_rfl) (by as_aux_lemma => kernel_rfl) (by as_aux_lemma => kernel_rfl) (by as_aux_lemma => kernel_rfl) (fun _ _ _ h => h) (Or.inl ⟨by kernel_rfl, ?_⟩) hHeld ?_
                rotate_left
                · intro w hSw; (try dsimp only at hSw); go_simp; (try with_reducible rfl)
                try simp only [Act.put, List.setIfInBounds_toArray, List.set_cons_zero, List.set_cons_succ]
                refine take_d (i := 42) (oi := _) (v := ?_) (d := some 117) rfl (by kernel_rfl) (by as_aux_lemma => kernel_rfl) (by as_aux_lemma => kernel_rfl) (by as_aux_lemma => kernel_rfl) (fun _ _ _ h => h) (Or.inl ⟨by kernel_rfl, ?_⟩) hHeld ?_
                rotate_left
                · intro w hSw; (try dsimp only at hSw); go_simp; (try with_reducible rfl)
                try simp only [Act.put, List.setIfInBounds_toArray, List.set_cons_zero, List.set_cons_succ]
                refine take_d (i := 43) (oi := _) (v := ?_) (d := some 118) rfl (by kernel_rfl) (by as_aux_lemma => kernel_rfl) (by as_aux_lemma => kernel_rfl) (by as_aux_lemma => kernel_rfl) (fun _ _ _ h => h) (Or.inl ⟨by kernel_rfl, ?_⟩) hHeld ?_
                rotate_left
                · intro w hSw; (try dsimp only at hSw); go_simp; (try with_reducible rfl)
                try simp only [Act.put, List.setIfInBounds_toArray, List.set_cons_zero, List.set_cons_succ]
                refine take_d (i := 44) (oi := _) (v := ?_) (d := some 119) rfl (by kernel_rfl) (by as_aux_lemma => kernel_rfl) (by as_aux_lemma => kernel_rfl) (by as_aux_lemma => kernel_rfl) (fun _ _ _ h => h) (Or.inl ⟨by kernel_rfl, ?_⟩) hHeld ?_
                rotate_left
                · intro w hSw; (try dsimp only at hSw); go_simp; (try with_reducible rfl)
                try simp only [Act.put, List.setIfInBounds_toArray, List.set_cons_zero, List.set_cons_succ]
                refine take_d (i := 45) (oi := _) (v := ?_) (d := some 120) rfl (by kernel_rfl) (by as_aux_lemma => kernel_rfl) (by as_aux_lemma => kernel_rfl) (by as_aux_lemma => kernel_rfl) (fun _ _ _ h => h) (Or.inl ⟨by kernel_rfl, ?_⟩) hHeld ?_
                rotate_left
                · intro w hSw; (try dsimp only at hSw); go_simp; (try with_reducible rfl)
                try simp only [Act.put, List.setIfInBounds_toArray, List.set_cons_zero, List.set_cons_succ]
                refine take_d (i := 46) (oi := _) (v := ?_) (d := some 121) rfl (by kernel_rfl) (by as_aux_lemma => kernel_rfl) (by as_aux_lemma => kernel_rfl) (by as_aux_lemma => kernel_rfl) (fun _ _ _ h => h) (Or.inl ⟨by kernel_rfl, ?_⟩) hHeld ?_
                rotate_left
                · intro w hSw; (try dsimp only at hSw); go_simp; (try with_reducible rfl)
                try simp only [Act.put, List.setIfInBounds_toArray, List.set_cons_zero, List.set_cons_succ]
                refine take_d (i := 47) (oi := _) (v := ?_) (d := some 122) rfl (by kernel_rfl) (by as_aux_lemma => kernel_rfl) (by as_aux_lemma => kernel_rfl) (by as_aux_lemma => kernel_rfl) (fun _ _ _ h => h) (Or.inl ⟨by kernel_rfl, ?_⟩) hHeld ?_
                rotate_left
                · intro w hSw; (try dsimp only at hSw); go_simp; (try with_reducible rfl)
                try simp only [Act.put, List.setIfInBounds_toArray, List.set_cons_zero, List.set_cons_succ]
                refine wpAnyH_done (by kernel_rfl) ?_ _
                go_wp2_with fail
                go_meet
                exact ⟨rfl, Below.drew bq⟩
            case rest =>
              obtain ⟨rfl, bz⟩ := hcut
              clear bq HD3 HJ hbv
              go_upto_region 20 with fail
              replace o8 := Own.below o8 bz
              replace q9 := Own.below q9 bz
              replace q12 := Own.below q12 bz
              replace bi := Gw.call bi bz
              replace G := G.call bz
              clear e0 e1 hgv bz
              have bq := Below.refl wc.heap.size wc
              generalize hqq : kc rows rs j = q at *
              clear hqq
              rcases HC.out with ⟨⟨on, oi, op⟩, ho, hon, hn1, hn2, hkc⟩ | ⟨hkc, hno⟩
              · simp only at hon
                subst hon
                have HKC := Lib.hid hkc
                have hq : q < ol := by have := (List.getElem?_eq_some_iff.1 ho).1; have := HOL.out; omega
                have tq : decide ((q : Int) < (ol : Int)) = true := by simp; omega
                have tqn : decide (q < ol) = true := by simp; omega
                have hqi : (q : Int) < (ol : Int) := by omega
                obtain ⟨b9, p9, rfl, hb9, hc⟩ := (q9.rd idc_len).at_ ho
                have f0 := hc 0 _ rfl
                have f1 := hc 1 _ rfl
                have f2 := hc 2 _ rfl
                have C2 := Lib.hid (fun W => hn1 ▸ newer_any (⟨a, oi, op⟩ : Id) ⟨a, r1.i, r1.p⟩ W)
                clear hkc ho hc hq HC
                by_cases hom : (⟨(a : Int), oi, op⟩ : Id) = ⟨a, r1.i, r1.p⟩
                · simp only [Id.mk.injEq, true_and] at hom
                  obtain ⟨rfl, rfl⟩ := hom
                  clear hn1 hn2
                  have HB : Hid (∀ W, Below wc.heap.size wc W → (fun W : World => W.cell? ⟨wr.heap.size, 0, none⟩ = some (.int .u8 (a : Int)) ∧ W.cell? ⟨wr.heap.size, 1, none⟩ = some (.int .u16 r1.i) ∧ W.cell? ⟨wr.heap.size, 2, none⟩ = some (.int .u32 r1.p) ∧ W.cell? ⟨b9, p9 + q * 3, none⟩ = some (.int .u8 (a : Int)) ∧ W.cell? ⟨b9, p9 + q * 3 + 1, none⟩ = some (.int .u16 r1.i) ∧ W.cell? ⟨b9, p9 + q * 3 + 2, none⟩ = some (.int .u32 r1.p)) W) := Lib.hid fun W hb => ⟨(G.call hb).blk.2.1 0 _ rfl, (G.call hb).blk.2.1 1 _ rfl, (G.call hb).blk.2.1 2 _ rfl, (hb.cell (p := ⟨b9, _, none⟩) hb9).trans f0, (hb.cell (p := ⟨b9, _, none⟩) hb9).trans f1, (hb.cell (p := ⟨b9, _, none⟩) hb9).trans f2⟩
                  clear f0 f1 f2
                  refine wp_region_held_drew (S := fun W : World => W.cell? ⟨wr.heap.size, 0, none⟩ = some (.int .u8 (a : Int)) ∧ W.cell? ⟨wr.heap.size, 1, none⟩ = some (.int .u16 r1.i) ∧ W.cell? ⟨wr.heap.size, 2, none⟩ = some (.int .u32 r1.p) ∧ W.cell? ⟨b9, p9 + q * 3, none⟩ = some (.int .u8 (a : Int)) ∧ W.cell? ⟨b9, p9 + q * 3 + 1, none⟩ = some (.int .u16 r1.i) ∧ W.cell? ⟨b9, p9 + q * 3 + 2, none⟩ = some (.int .u32 r1.p)) (by kernel_rfl) (HB.out _ (Below.drew bq)) (fun hHeld => ?_)
                  refine take_d (i := 0) (oi := _) (v := ?_) (d := some 123) rfl (by kernel_rfl) (by as_aux_lemma => kernel_rfl) (by as_aux_lemma => kernel_rfl) (by as_aux_lemma => kernel_rfl) (fun _ _ _ h => h) (Or.inl ⟨by kernel_rfl, ?_⟩) hHeld ?_
                  rotate_left
                  · intro w hSw; (try dsimp only at hSw); go_simp; (try with_reducible rfl)
                  try simp only [Act.put, List.setIfInBounds_toArray, List.set_cons_zero, List.set_cons_succ]
                  refine take_d (i := 1) (oi := _) (v := ?_) (d := some 124) rfl (by kernel_rfl) (by as_aux_lemma => kernel_rfl) (by as_aux_lemma => kernel_rfl) (by as_aux_lemma => kernel_rfl) (fun _ _ _ h => h) (Or.inl ⟨by kernel_rfl, ?_⟩) hHeld ?_
                  rotate_left
                  · intro w hSw; (try dsimp only at hSw); go_simp; (try with_reducible rfl)
                  try simp only [Act.put, List.setIfInBounds_toArray, List.set_cons_zero, List.set_cons_succ]
                  refine take_d (i := 2) (oi := _) (v := ?_) (d := some 125) rfl (by kernel_rfl) (by as_aux_lemma => kernel_rfl) (by as_aux_lemma => kernel_rfl) (by as_aux_lemma => kernel_rfl) (fun _ _ _ h => h) (Or.inl ⟨by kernel_rfl, ?_⟩) hHeld ?_
                  rotate_left
                  · intro w hSw; (try dsimp only at hSw); go_simp; (try with_reducible rfl)
                  try simp only [Act.put, List.setIfInBounds_toArray, List.set_cons_zero, List.set_cons_succ]
                  refine take_d (i := 3) (oi := _) (v := .bool true) (d := some 126) rfl (by kernel_rfl) (by as_aux_lemma => kernel_rfl) (by as_aux_lemma => kernel_rfl) (by as_aux_lemma => kernel_rfl) (fun _ _ _ h => h) (Or.inl ⟨by kernel_rfl, ?_⟩) hHeld ?_
                  · intro W hSw
                    go_simp; first | done | simp only [tq] | simp only [tqn] | simp [tq, tqn]
                  try simp only [Act.put, List.setIfInBounds_toArray, List.set_cons_zero, List.set_cons_succ]
                  refine take_d (i := 4) (oi := _) (v := ?_) (d := some 127) rfl (by kernel_rfl) (by as_aux_lemma => kernel_rfl) (by as_aux_lemma => kernel_rfl) (by as_aux_lemma => kernel_rfl) (fun _ _ _ h => h) (Or.inl ⟨by kernel_rfl, ?_⟩) hHeld ?_
                  rotate_left
                  · intro w hSw; (try dsimp only at hSw); go_simp; (try with_reducible rfl)
                  try simp only [Act.put, List.setIfInBounds_toArray, List.set_cons_zero, List.set_cons_succ]
                  refine take_d (i := 5) (oi := _) (v := ?_) (d := some 128) rfl (by kernel_rfl) (by as_aux_lemma => kernel_rfl) (by as_aux_lemma => kernel_rfl) (by as_aux_lemma => kernel_rfl) (fun _ _ _ h => h) (Or.inl ⟨by kernel_rfl, ?_⟩) hHeld ?_
                  rotate_left
                  · intro w hSw; (try dsimp only at hSw); go_simp; (try with_reducible rfl)
                  try simp only [Act.put, List.setIfInBounds_toArray, List.set_cons_zero, List.set_cons_succ]
                  refine take_d (i := 6) (oi := _) (v := ?_) (d := some 129) rfl (by kernel_rfl) (by as_aux_lemma => kernel_rfl) (by as_aux_lemma => kernel_rfl) (by as_aux_lemma => kernel_rfl) (fun _ _ _ h => h) (Or.inl ⟨by kernel_rfl, ?_⟩) hHeld ?_
                  rotate_left
                  · intro w hSw; (try dsimp only at hSw); go_simp; (try with_reducible rfl)
                  try simp only [Act.put, List.setIfInBounds_toArray, List.set_cons_zero, List.set_cons_succ]
                  refine take_d (i := 7) (oi := _) (v := ?_) (d := some 130) rfl (by kernel_rfl) (by as_aux_lemma => kernel_rfl) (by as_aux_lemma => kernel_rfl) (by as_aux_lemma => kernel_rfl) (fun _ _ _ h => h) (Or.inl ⟨by kernel_rfl, ?_⟩) hHeld ?_
                  rotate_left
                  · intro w hSw; (try dsimp only at hSw); go_simp; (try with_reducible rfl)
                  try simp only [Act.put, List.setIfInBounds_toArray, List.set_cons_zero, List.set_cons_succ]
                  refine take_d (i := 8) (oi := _) (v := ?_) (d := some 131) rfl (by kernel_rfl) (by as_aux_lemma => kernel_rfl) (by as_aux_lemma => kernel_rfl) (by as_aux_lemma => kernel_rfl) (fun _ _ _ h => h) (Or.inl ⟨by kernel_rfl, ?_⟩) hHeld ?_
                  rotate_left
                  · intro w hSw; (try dsimp only at hSw); go_simp; (try with_reducible rfl)
                  try simp only [Act.put, List.setIfInBounds_toArray, List.set_cons_zero, List.set_cons_succ]
                  refine take_d (i := 9) (oi := _) (v := ?_) (d := some 132) rfl (by kernel_rfl) (by as_aux_lemma => kernel_rfl) (by as_aux_lemma => kernel_rfl) (by as_aux_lemma => kernel_rfl) (fun _ _ _ h => h) (Or.inl ⟨by kernel_rfl, ?_⟩) hHeld ?_
                  rotate_left
                  · intro w hSw; (try dsimp only at hSw); go_simp; (try with_reducible rfl)
                  try simp only [Act.put, List.setIfInBounds_toArray, List.set_cons_zero, List.set_cons_succ]
                  refine take_d (i := 10) (oi := _) (v := ?_) (d := some 133) rfl (by kernel_rfl) (by as_aux_lemma => kernel_rfl) (by as_aux_lemma => kernel_rfl) (by as_aux_lemma => kernel_rfl) (fun _ _ _ h => h) (Or.inl ⟨by kernel_rfl, ?_⟩) hHeld ?_
                  rotate_left
                  · intro w hSw; (try dsimp only at hSw); go_simp; (try with_reducible rfl)
                  try simp only [Act.put, List.setIfInBounds_toArray, List.set_cons_zero, List.set_cons_succ]
                  refine take_d (i := 11) (oi := _) (v := ?_) (d := some 134) rfl (by kernel_rfl) (by as_aux_lemma => kernel_rfl) (by as_aux_lemma => kernel_rfl) (by as_aux_lemma => kernel_rfl) (fun _ _ _ h => h) (Or.inl ⟨by kernel_rfl, ?_⟩) hHeld ?_
                  rotate_left
                  · intro w hSw; (try dsimp only at hSw); go_simp; (try with_reducible rfl)
                  try simp only [Act.put, List.setIfInBounds_toArray, List.set_cons_zero, List.set_cons_succ]
                  refine take_d (i := 12) (oi := _) (v := ?_) (d := some 135) rfl (by kernel_rfl) (by as_aux_lemma => kernel_rfl) (by as_aux_lemma => kernel_rfl) (by as_aux_lemma => kernel_rfl) (fun _ _ _ h => h) (Or.inl ⟨by kernel_rfl, ?_⟩) hHeld ?_
                  rotate_left
                  · intro w hSw; (try dsimp only at hSw); go_simp; (try with_reducible rfl)
                  try simp only [Act.put, List.setIfInBounds_toArray, List.set_cons_zero, List.set_cons_succ]
                  refine take_d (i := 13) (oi := _) (v := ?_) (d := some 136) rfl (by kernel_rfl) (by as_aux_lemma => kernel_rfl) (by as_aux_lemma => kernel_rfl) (by as_aux_lemma => kernel_rfl) (fun _ _ _ h => h) (Or.inl ⟨by kernel_rfl, ?_⟩) hHeld ?_
                  rotate_left
                  · intro w hSw; (try dsimp only at hSw); go_simp; (try with_reducible rfl)
                  try simp only [Act.put, List.setIfInBounds_toArray, List.set_cons_zero, List.set_cons_succ]
                  refine wpAnyH_done (by kernel_rfl) ?_ _
                  replace bq := Below.drew bq
                  clear hHeld
                  go_upto_region 21 with fail
                  have hnm := neq_mark ⟨a, r1.i, r1.p⟩ ⟨a, r1.i, r1.p⟩
                  rw [show decide ((⟨(a : Int), r1.i, r1.p⟩ : Id) ≠ ⟨a, r1.i, r1.p⟩) = false by simp] at hnm
                  refine wp_region_held_drew (S := fun W : World => W.cell? ⟨wr.heap.size, 0, none⟩ = some (.int .u8 (a : Int)) ∧ W.cell? ⟨wr.heap.size, 1, none⟩ = some (.int .u16 r1.i) ∧ W.cell? ⟨wr.heap.size, 2, none⟩ = some (.int .u32 r1.p) ∧ W.cell? ⟨b9, p9 + q * 3, none⟩ = some (.int .u8 (a : Int)) ∧ W.cell? ⟨b9, p9 + q * 3 + 1, none⟩ = some (.int .u16 r1.i) ∧ W.cell? ⟨b9, p9 + q * 3 + 2, none⟩ = some (.int .u32 r1.p)) (by kernel_rfl) (HB.out _ (Below.drew bq)) (fun hHeld => ?_)
                  refine take_d (i := 0) (oi := _) (v := ?_) (d := some 137) rfl (by kernel_rfl) (by as_aux_lemma => kernel_rfl) (by as_aux_lemma => kernel_rfl) (by as_aux_lemma => kernel_rfl) (fun _ _ _ h => h) (Or.inl ⟨by kernel_rfl, ?_⟩) hHeld ?_
                  rotate_left
                  · intro w hSw; (try dsimp only at hSw); go_simp; (try with_reducible rfl)
                  try simp only [Act.put, List.setIfInBounds_toArray, List.set_cons_zero, List.set_cons_succ]
                  refine take_d (i := 1) (oi := _) (v := ?_) (d := some 138) rfl (by kernel_rfl) (by as_aux_lemma => kernel_rfl) (by as_aux_lemma => kernel_rfl) (by as_aux_lemma => kernel_rfl) (fun _ _ _ h => h) (Or.inl ⟨by kernel_rfl, ?_⟩) hHeld ?_
                  rotate_left
                  · intro w hSw; (try dsimp only at hSw); go_simp; (try with_reducible rfl)
                  try simp only [Act.put, List.setIfInBounds_toArray, List.set_cons_zero, List.set_cons_succ]
                  refine take_d (i := 2) (oi := _) (v := ?_) (d := some 139) rfl (by kernel_rfl) (by as_aux_lemma => kernel_rfl) (by as_aux_lemma => kernel_rfl) (by as_aux_lemma => kernel_rfl) (fun _ _ _ h => h) (Or.inl ⟨by kernel_rfl, ?_⟩) hHeld ?_
                  rotate_left
                  · intro w hSw; (try dsimp only at hSw); go_simp; (try with_reducible rfl)
                  try simp only [Act.put, List.setIfInBounds_toArray, List.set_cons_zero, List.set_cons_succ]
                  refine take_d (i := 3) (oi := _) (v := ?_) (d := some 140) rfl (by kernel_rfl) (by as_aux_lemma => kernel_rfl) (by as_aux_lemma => kernel_rfl) (by as_aux_lemma => kernel_rfl) (fun _ _ _ h => h) (Or.inl ⟨by kernel_rfl, ?_⟩) hHeld ?_
                  rotate_left
                  · intro w hSw; (try dsimp only at hSw); go_simp; (try with_reducible rfl)
                  try simp only [Act.put, List.setIfInBounds_toArray, List.set_cons_zero, List.set_cons_succ]
                  refine take_d (i := 4) (oi := _) (v := ?_) (d := some 141) rfl (by kernel_rfl) (by as_aux_lemma => kernel_rfl) (by as_aux_lemma => kernel_rfl) (by as_aux_lemma => kernel_rfl) (fun _ _ _ h => h) (Or.inl ⟨by kernel_rfl, ?_⟩) hHeld ?_
                  rotate_left
                  · intro w hSw; (try dsimp only at hSw); go_simp; (try with_reducible rfl)
                  try simp only [Act.put, List.setIfInBounds_toArray, List.set_cons_zero, List.set_cons_succ]
                  refine take_d (i := 5) (oi := _) (v := .bool false) (d := some 142) rfl (by kernel_rfl) (by as_aux_lemma => kernel_rfl) (by as_aux_lemma => kernel_rfl) (by as_aux_lemma => kernel_rfl) (fun _ _ _ h => h) (Or.inl ⟨by kernel_rfl, ?_⟩) hHeld ?_
                  · intro W hSw
                    go_simp; first | done | simp [hnm]
                  try simp only [Act.put, List.setIfInBounds_toArray, List.set_cons_zero, List.set_cons_succ]
                  refine take_d (i := 6) (oi := _) (v := ?_) (d := some 143) rfl (by kernel_rfl) (by as_aux_lemma => kernel_rfl) (by as_aux_lemma => kernel_rfl) (by as_aux_lemma => kernel_rfl) (fun _ _ _ h => h) (Or.inl ⟨by kernel_rfl, ?_⟩) hHeld ?_
                  rotate_left
                  · intro w hSw; (try dsimp only at hSw); go_simp; (try with_reducible rfl)
                  try simp only [Act.put, List.setIfInBounds_toArray, List.set_cons_zero, List.set_cons_succ]
                  refine take_d (i := 7) (oi := _) (v := undef) (d := some 144) rfl (by kernel_rfl) (by as_aux_lemma => kernel_rfl) (by as_aux_lemma => kernel_rfl) (by as_aux_lemma => kernel_rfl) (fun _ _ _ h => h) (Or.inr ⟨by kernel_rfl, rfl⟩) hHeld ?_
                  try simp only [Act.put, List.setIfInBounds_toArray, List.set_cons_zero, List.set_cons_succ]
                  refine take_d (i := 8) (oi := _) (v := undef) (d := some 145) rfl (by kernel_rfl) (by as_aux_lemma => kernel_rfl) (by as_aux_lemma => kernel_rfl) (by as_aux_lemma => kernel_rfl) (fun _ _ _ h => h) (Or.inr ⟨by kernel_rfl, rfl⟩) hHeld ?_
                  try simp only [Act.put, List.setIfInBounds_toArray, List.set_cons_zero, List.set_cons_succ]
                  refine take_d (i := 9) (oi := _) (v := undef) (d := some 146) rfl (by kernel_rfl) (by as_aux_lemma => kernel_rfl) (by as_aux_lemma => kernel_rfl) (by as_aux_lemma => kernel_rfl) (fun _ _ _ h => h) (Or.inr ⟨by kernel_rfl, rfl⟩) hHeld ?_
                  try simp only [Act.put, List.setIfInBounds_toArray, List.set_cons_zero, List.set_cons_succ]
                  refine take_d (i := 10) (oi := _) (v := undef) (d := some 147) rfl (by kernel_rfl) (by as_aux_lemma => kernel_rfl) (by as_aux_lemma => kernel_rfl) (by as_aux_lemma => kernel_rfl) (fun _ _ _ h => h) (Or.inr ⟨by kernel_rfl, rfl⟩) hHeld ?_
                  try simp only [Act.put, List.setIfInBounds_toArray, List.set_cons_zero, List.set_cons_succ]
                  refine take_d (i := 11) (oi := _) (v := undef) (d := some 148) rfl (by kernel_rfl) (by as_aux_lemma => kernel_rfl) (by as_aux_lemma => kernel_rfl) (by as_aux_lemma => kernel_rfl) (fun _ _ _ h => h) (Or.inr ⟨by kernel_rfl, rfl⟩) hHeld ?_
                  try simp only [Act.put, List.setIfInBounds_toArray, List.set_cons_zero, List.set_cons_succ]
                  refine take_d (i := 12) (oi := _) (v := undef) (d := some 149) rfl (by kernel_rfl) (by as_aux_lemma => kernel_rfl) (by as_aux_lemma => kernel_rfl) (by as_aux_lemma => kernel_rfl) (fun _ _ _ h => h) (Or.inr ⟨by kernel_rfl, rfl⟩) hHeld ?_
                  try simp only [Act.put, List.setIfInBounds_toArray, List.set_cons_zero, List.set_cons_succ]
                  refine take_d (i := 13) (oi := _) (v := undef) (d := some 150) rfl (by kernel_rfl) (by as_aux_lemma => kernel_rfl) (by as_aux_lemma => kernel_rfl) (by as_aux_lemma => kernel_rfl) (fun _ _ _ h => h) (Or.inr ⟨by kernel_rfl, rfl⟩) hHeld ?_
                  try simp only [Act.put, List.setIfInBounds_toArray, List.set_cons_zero, List.set_cons_succ]
                  refine take_d (i := 14) (oi := _) (v := ?_) (d := some 151) rfl (by kernel_rfl) (by as_aux_lemma => kernel_rfl) (by as_aux_lemma => kernel_rfl) (by as_aux_lemma => kernel_rfl) (fun _ _ _ h => h) (Or.inl ⟨by kernel_rfl, ?_⟩) hHeld ?_
                  rotate_left
                  · intro w hSw; (try dsimp only at hSw); go_simp; (try with_reducible rfl)
                  try simp only [Act.put, List.setIfInBounds_toArray, List.set_cons_zero, List.set_cons_succ]
                  refine take_d (i := 15) (oi := _) (v := ?_) (d := some 152) rfl (by kernel_rfl) (by as_aux_lemma => kernel_rfl) (by as_aux_lemma => kernel_rfl) (by as_aux_lemma => kernel_rfl) (fun _ _ _ h => h) (Or.inl ⟨by kernel_rfl, ?_⟩) hHeld ?_
                  rotate_left
                  · intro w hSw; (try dsimp only at hSw); go_simp; (try with_reducible rfl)
                  try simp only [Act.put, List.setIfInBounds_toArray, List.set_cons_zero, List.set_cons_succ]
                  refine take_d (i := 16) (oi := _) (v := ?_) (d := some 153) rfl (by kernel_rfl) (by as_aux_lemma => kernel_rfl) (by as_aux_lemma => kernel_rfl) (by as_aux_lemma => kernel_rfl) (fun _ _ _ h => h) (Or.inl ⟨by kernel_rfl, ?_⟩) hHeld ?_
                  rotate_left
                  · intro w hSw; (try dsimp only at hSw); go_simp; (try with_reducible rfl)
                  try simp only [Act.put, List.setIfInBounds_toArray, List.set_cons_zero, List.set_cons_succ]
                  refine take_d (i := 17) (oi := _) (v := ?_) (d := some 154) rfl (by kernel_rfl) (by as_aux_lemma => kernel_rfl) (by as_aux_lemma => kernel_rfl) (by as_aux_lemma => kernel_rfl) (fun _ _ _ h => h) (Or.inl ⟨by kernel_rfl, ?_⟩) hHeld ?_
                  rotate_left
                  · intro w hSw; (try dsimp only at hSw); go_simp; (try with_reducible rfl)
                  try simp only [Act.put, List.setIfInBounds_toArray, List.set_cons_zero, List.set_cons_succ]
                  refine take_d (i := 18) (oi := _) (v := ?_) (d := some 155) rfl (by kernel_rfl) (by as_aux_lemma => kernel_rfl) (by as_aux_lemma => kernel_rfl) (by as_aux_lemma => kernel_rfl) (fun _ _ _ h => h) (Or.inl ⟨by kernel_rfl, ?_⟩) hHeld ?_
                  rotate_left
                  · intro w hSw; (try dsimp only at hSw); go_simp; (try with_reducible rfl)
                  try simp only [Act.put, List.setIfInBounds_toArray, List.set_cons_zero, List.set_cons_succ]
                  refine take_d (i := 19) (oi := _) (v := ?_) (d := some 156) rfl (by kernel_rfl) (by as_aux_lemma => kernel_rfl) (by as_aux_lemma => kernel_rfl) (by as_aux_lemma => kernel_rfl) (fun _ _ _ h => h) (Or.inl ⟨by kernel_rfl, ?_⟩) hHeld ?_
                  rotate_left
                  · intro w hSw; (try dsimp only at hSw); go_simp; (try with_reducible rfl)
                  try simp only [Act.put, List.setIfInBounds_toArray, List.set_cons_zero, List.set_cons_succ]
                  refine take_d (i := 20) (oi := _) (v := ?_) (d := some 157) rfl (by kernel_rfl) (by as_aux_lemma => kernel_rfl) (by as_aux_lemma => kernel_rfl) (by as_aux_lemma => kernel_rfl) (fun _ _ _ h => h) (Or.inl ⟨by kernel_rfl, ?_⟩) hHeld ?_
                  rotate_left
                  · intro w hSw; (try dsimp only at hSw); go_simp; (try with_reducible rfl)
                  try simp only [Act.put, List.setIfInBounds_toArray, List.set_cons_zero, List.set_cons_succ]
                  refine wpAnyH_ready (rs := [21]) (by kernel_rfl) (by simp) ?_
                  refine AllReadyH.cons rfl (fun K hK => ?_) AllReadyH.nil
                  go_simp
                  refine (C2.out _).mono ?_
                  rintro e u2 ⟨rfl, hb⟩
                  replace bq := (by first | exact Gw.call bq hb | exact Gw.call (Below.drew bq) hb)
                  clear hb
                  dsimp only
                  refine hK.out _ _ (HB.out _ bq) (fun hHeld => ?_)
                  clear hK K
                  try simp only [Act.put, List.setIfInBounds_toArray, List.set_cons_zero, List.set_cons_succ]
                  refine take_d (i := 22) (oi := _) (v := ?_) (d := some 159) rfl (by kernel_rfl) (by as_aux_lemma => kernel_rfl) (by as_aux_lemma => kernel_rfl) (by as_aux_lemma => kernel_rfl) (fun _ _ _ h => h) (Or.inl ⟨by kernel_rfl, ?_⟩) hHeld ?_
                  rotate_left
                  · intro w hSw; (try dsimp only at hSw); go_simp; (try with_reducible rfl)
                  try simp only [Act.put, List.setIfInBounds_toArray, List.set_cons_zero, List.set_cons_succ]
                  refine wpAnyH_done (by kernel_rfl) ?_ _
                  clear hHeld C2 hb9 hnm
                  replace o8 := Own.below o8 bq
                  replace q9 := Own.below q9 bq
                  replace q12 := Own.below q12 bq
                  replace bi := Gw.call bi bq
                  replace G := G.call bq
                  have c0 := G.blk.2.1 0 _ rfl
                  have c1 := G.blk.2.1 1 _ rfl
                  have c2 := G.blk.2.1 2 _ rfl
                  clear bq HB
                  by_cases hp : 0 < r1.p
                  · have tp : decide (0 < r1.p) = true := by simp; omega
                    have HP := Lib.hid hp
                    clear hp
                    go_wp2_with fail
                    refine (lacks_two rs nn _ _ _ _ a r1 m _ RSL.out (by rw [World.size_alloc]; exact Rd.lit idc_len _ _ rfl #[.int .u8 (a : Int), .int .u16 r1.i, .int .u32 r1.p, .int .u8 (a : Int), .int .u16 r1.i, .int .u32 1] 30 [⟨a, r1.i, r1.p⟩, ⟨a, r1.i, 1⟩] rfl) ((o8.alloc _).rd rowc_len) HRA.out GS.out (by omega) HP.out (by omega)).mono ?_
                    rintro e w5 ⟨A7, c7, rfl, hb⟩
                    replace o8 := Own.below (o8.alloc (.cells #[.int .u8 (a : Int), .int .u16 r1.i, .int .u32 r1.p, .int .u8 (a : Int), .int .u16 r1.i, .int .u32 1] 30)) hb
                    replace q9 := Own.below (q9.alloc (.cells #[.int .u8 (a : Int), .int .u16 r1.i, .int .u32 r1.p, .int .u8 (a : Int), .int .u16 r1.i, .int .u32 1] 30)) hb
                    replace q12 := Own.below (q12.alloc (.cells #[.int .u8 (a : Int), .int .u16 r1.i, .int .u32 r1.p, .int .u8 (a : Int), .int .u16 r1.i, .int .u32 1] 30)) hb
                    replace bi := Gw.call (Gw.al bi (.cells #[.int .u8 (a : Int), .int .u16 r1.i, .int .u32 r1.p, .int .u8 (a : Int), .int .u16 r1.i, .int .u32 1] 30)) hb
                    clear hb c0 c1 c2 G
                    go_wp2_with fail
                    go_roundw
                    case rel => exact ⟨j + 1, hjl, by go_num, by rw [HKC.out]; go_num, o8, q9, q12, bi⟩
                    case measure => simp [intOf]; omega
                  · have tp : decide (0 < r1.p) = false := by simp; omega
                    clear hp
                    go_wp2_with fail
                    go_roundw
                    case rel => exact ⟨j + 1, hjl, by go_num, by rw [HKC.out]; go_num, o8, q9, q12, bi⟩
                    case measure => simp [intOf]; omega
                · have C1 := Lib.hid (fun W => hn2 hom ▸ newer_any (⟨a, r1.i, r1.p⟩ : Id) ⟨a, oi, op⟩ W)
                  have hnm := neq_mark ⟨a, oi, op⟩ ⟨a, r1.i, r1.p⟩
                  rw [show decide ((⟨(a : Int), oi, op⟩ : Id) ≠ ⟨a, r1.i, r1.p⟩) = true by rw [decide_eq_true_iff]; exact hom] at hnm
                  clear hom hn1 hn2
                  have HB : Hid (∀ W, Below wc.heap.size wc W → (fun W : World => W.cell? ⟨wr.heap.size, 0, none⟩ = some (.int .u8 (a : Int)) ∧ W.cell? ⟨wr.heap.size, 1, none⟩ = some (.int .u16 r1.i) ∧ W.cell? ⟨wr.heap.size, 2, none⟩ = some (.int .u32 r1.p) ∧ W.cell? ⟨b9, p9 + q * 3, none⟩ = some (.int .u8 (a : Int)) ∧ W.cell? ⟨b9, p9 + q * 3 + 1, none⟩ = some (.int .u16 oi) ∧ W.cell? ⟨b9, p9 + q * 3 + 2, none⟩ = some (.int .u32 op)) W) := Lib.hid fun W hb => ⟨(G.call hb).blk.2.1 0 _ rfl, (G.call hb).blk.2.1 1 _ rfl, (G.call hb).blk.2.1 2 _ rfl, (hb.cell (p := ⟨b9, _, none⟩) hb9).trans f0, (hb.cell (p := ⟨b9, _, none⟩) hb9).trans f1, (hb.cell (p := ⟨b9, _, none⟩) hb9).trans f2⟩
                  clear f0 f1 f2
                  refine wp_region_held_drew (S := fun W : World => W.cell? ⟨wr.heap.size, 0, none⟩ = some (.int .u8 (a : Int)) ∧ W.cell? ⟨wr.heap.size, 1, none⟩ = some (.int .u16 r1.i) ∧ W.cell? ⟨wr.heap.size, 2, none⟩ = some (.int .u32 r1.p) ∧ W.cell? ⟨b9, p9 + q * 3, none⟩ = some (.int .u8 (a : Int)) ∧ W.cell? ⟨b9, p9 + q * 3 + 1, none⟩ = some (.int .u16 oi) ∧ W.cell? ⟨b9, p9 + q * 3 + 2, none⟩ = some (.int .u32 op)) (by kernel_rfl) (HB.out _ (Below.drew bq)) (fun hHeld => ?_)
                  refine take_d (i := 0) (oi := _) (v := ?_) (d := some 123) rfl (by kernel_rfl) (by as_aux_lemma => kernel_rfl) (by as_aux_lemma => kernel_rfl) (by as_aux_lemma => kernel_rfl) (fun _ _ _ h => h) (Or.inl ⟨by kernel_rfl, ?_⟩) hHeld ?_
                  rotate_left
                  · intro w hSw; (try dsimp only at hSw); go_simp; (try with_reducible rfl)
                  try simp only [Act.put, List.setIfInBounds_toArray, List.set_cons_zero, List.set_cons_succ]
                  refine take_d (i := 1) (oi := _) (v := ?_) (d := some 124) rfl (by kernel_rfl) (by as_aux_lemma => kernel_rfl) (by as_aux_lemma => kernel_rfl) (by as_aux_lemma => kernel_rfl) (fun _ _ _ h => h) (Or.inl ⟨by kernel_rfl, ?_⟩) hHeld ?_
                  rotate_left
                  · intro w hSw; (try dsimp only at hSw); go_simp; (try with_reducible rfl)
                  try simp only [Act.put, List.setIfInBounds_toArray, List.set_cons_zero, List.set_cons_succ]
                  refine take_d (i := 2) (oi := _) (v := ?_) (d := some 125) rfl (by kernel_rfl) (by as_aux_lemma => kernel_rfl) (by as_aux_lemma => kernel_rfl) (by as_aux_lemma => kernel_rfl) (fun _ _ _ h => h) (Or.inl ⟨by kernel_rfl, ?_⟩) hHeld ?_
                  rotate_left
                  · intro w hSw; (try dsimp only at hSw); go_simp; (try with_reducible rfl)
                  try simp only [Act.put, List.setIfInBounds_toArray, List.set_cons_zero, List.set_cons_succ]
                  refine take_d (i := 3) (oi := _) (v := .bool true) (d := some 126) rfl (by kernel_rfl) (by as_aux_lemma => kernel_rfl) (by as_aux_lemma => kernel_rfl) (by as_aux_lemma => kernel_rfl) (fun _ _ _ h => h) (Or.inl ⟨by kernel_rfl, ?_⟩) hHeld ?_
                  · intro W hSw
                    go_simp; first | done | simp only [tq] | simp only [tqn] | simp [tq, tqn]
                  try simp only [Act.put, List.setIfInBounds_toArray, List.set_cons_zero, List.set_cons_succ]
                  refine take_d (i := 4) (oi := _) (v := ?_) (d := some 127) rfl (by kernel_rfl) (by as_aux_lemma => kernel_rfl) (by as_aux_lemma => kernel_rfl) (by as_aux_lemma => kernel_rfl) (fun _ _ _ h => h) (Or.inl ⟨by kernel_rfl, ?_⟩) hHeld ?_
                  rotate_left
                  · intro w hSw; (try dsimp only at hSw); go_simp; (try with_reducible rfl)
                  try simp only [Act.put, List.setIfInBounds_toArray, List.set_cons_zero, List.set_cons_succ]
                  refine take_d (i := 5) (oi := _) (v := ?_) (d := some 128) rfl (by kernel_rfl) (by as_aux_lemma => kernel_rfl) (by as_aux_lemma => kernel_rfl) (by as_aux_lemma => kernel_rfl) (fun _ _ _ h => h) (Or.inl ⟨by kernel_rfl, ?_⟩) hHeld ?_
                  rotate_left
                  · intro w hSw; (try dsimp only at hSw); go_simp; (try with_reducible rfl)
                  try simp only [Act.put, List.setIfInBounds_toArray, List.set_cons_zero, List.set_cons_succ]
                  refine take_d (i := 6) (oi := _) (v := ?_) (d := some 129) rfl (by kernel_rfl) (by as_aux_lemma => kernel_rfl) (by as_aux_lemma => kernel_rfl) (by as_aux_lemma => kernel_rfl) (fun _ _ _ h => h) (Or.inl ⟨by kernel_rfl, ?_⟩) hHeld ?_
                  rotate_left
                  · intro w hSw; (try dsimp only at hSw); go_simp; (try with_reducible rfl)
                  try simp only [Act.put, List.setIfInBounds_toArray, List.set_cons_zero, List.set_cons_succ]
                  refine take_d (i := 7) (oi := _) (v := ?_) (d := some 130) rfl (by kernel_rfl) (by as_aux_lemma => kernel_rfl) (by as_aux_lemma => kernel_rfl) (by as_aux_lemma => kernel_rfl) (fun _ _ _ h => h) (Or.inl ⟨by kernel_rfl, ?_⟩) hHeld ?_
                  rotate_left
                  · intro w hSw; (try dsimp only at hSw); go_simp; (try with_reducible rfl)
                  try simp only [Act.put, List.setIfInBounds_toArray, List.set_cons_zero, List.set_cons_succ]
                  refine take_d (i := 8) (oi := _) (v := ?_) (d := some 131) rfl (by kernel_rfl) (by as_aux_lemma => kernel_rfl) (by as_aux_lemma => kernel_rfl) (by as_aux_lemma => kernel_rfl) (fun _ _ _ h => h) (Or.inl ⟨by kernel_rfl, ?_⟩) hHeld ?_
                  rotate_left
                  · intro w hSw; (try dsimp only at hSw); go_simp; (try with_reducible rfl)
                  try simp only [Act.put, List.setIfInBounds_toArray, List.set_cons_zero, List.set_cons_succ]
                  refine take_d (i := 9) (oi := _) (v := ?_) (d := some 132) rfl (by kernel_rfl) (by as_aux_lemma => kernel_rfl) (by as_aux_lemma => kernel_rfl) (by as_aux_lemma => kernel_rfl) (fun _ _ _ h => h) (Or.inl ⟨by kernel_rfl, ?_⟩) hHeld ?_
                  rotate_left
                  · intro w hSw; (try dsimp only at hSw); go_simp; (try with_reducible rfl)
                  try simp only [Act.put, List.setIfInBounds_toArray, List.set_cons_zero, List.set_cons_succ]
                  refine take_d (i := 10) (oi := _) (v := ?_) (d := some 133) rfl (by kernel_rfl) (by as_aux_lemma => kernel_rfl) (by as_aux_lemma => kernel_rfl) (by as_aux_lemma => kernel_rfl) (fun _ _ _ h => h) (Or.inl ⟨by kernel_rfl, ?_⟩) hHeld ?_
                  rotate_left
                  · intro w hSw; (try dsimp only at hSw); go_simp; (try with_reducible rfl)
                  try simp only [Act.put, List.setIfInBounds_toArray, List.set_cons_zero, List.set_cons_succ]
                  refine take_d (i := 11) (oi := _) (v := ?_) (d := some 134) rfl (by kernel_rfl) (by as_aux_lemma => kernel_rfl) (by as_aux_lemma => kernel_rfl) (by as_aux_lemma => kernel_rfl) (fun _ _ _ h => h) (Or.inl ⟨by kernel_rfl, ?_⟩) hHeld ?_
                  rotate_left
                  · intro w hSw; (try dsimp only at hSw); go_simp; (try with_reducible rfl)
                  try simp only [Act.put, List.setIfInBounds_toArray, List.set_cons_zero, List.set_cons_succ]
                  refine take_d (i := 12) (oi := _) (v := ?_) (d := some 135) rfl (by kernel_rfl) (by as_aux_lemma => kernel_rfl) (by as_aux_lemma => kernel_rfl) (by as_aux_lemma => kernel_rfl) (fun _ _ _ h => h) (Or.inl ⟨by kernel_rfl, ?_⟩) hHeld ?_
                  rotate_left
                  · intro w hSw; (try dsimp only at hSw); go_simp; (try with_reducible rfl)
                  try simp only [Act.put, List.setIfInBounds_toArray, List.set_cons_zero, List.set_cons_succ]
                  refine take_d (i := 13) (oi := _) (v := ?_) (d := some 136) rfl (by kernel_rfl) (by as_aux_lemma => kernel_rfl) (by as_aux_lemma => kernel_rfl) (by as_aux_lemma => kernel_rfl) (fun _ _ _ h => h) (Or.inl ⟨by kernel_rfl, ?_⟩) hHeld ?_
                  rotate_left
                  · intro w hSw; (try dsimp only at hSw); go_simp; (try with_reducible rfl)
                  try simp only [Act.put, List.setIfInBounds_toArray, List.set_cons_zero, List.set_cons_succ]
                  refine wpAnyH_done (by kernel_rfl) ?_ _
                  replace bq := Below.drew bq
                  clear hHeld
                  go_upto_region 21 with fail
                  refine wp_region_held_drew (S := fun W : World => W.cell? ⟨wr.heap.size, 0, none⟩ = some (.int .u8 (a : Int)) ∧ W.cell? ⟨wr.heap.size, 1, none⟩ = some (.int .u16 r1.i) ∧ W.cell? ⟨wr.heap.size, 2, none⟩ = some (.int .u32 r1.p) ∧ W.cell? ⟨b9, p9 + q * 3, none⟩ = some (.int .u8 (a : Int)) ∧ W.cell? ⟨b9, p9 + q * 3 + 1, none⟩ = some (.int .u16 oi) ∧ W.cell? ⟨b9, p9 + q * 3 + 2, none⟩ = some (.int .u32 op)) (by kernel_rfl) (HB.out _ (Below.drew bq)) (fun hHeld => ?_)
                  refine take_d (i := 0) (oi := _) (v := ?_) (d := some 137) rfl (by kernel_rfl) (by as_aux_lemma => kernel_rfl) (by as_aux_lemma => kernel_rfl) (by as_aux_lemma => kernel_rfl) (fun _ _ _ h => h) (Or.inl ⟨by kernel_rfl, ?_⟩) hHeld ?_
                  rotate_left
                  · intro w hSw; (try dsimp only at hSw); go_simp; (try with_reducible rfl)
                  try simp only [Act.put, List.setIfInBounds_toArray, List.set_cons_zero, List.set_cons_succ]
                  refine take_d (i := 1) (oi := _) (v := ?_) (d := some 138) rfl (by kernel_rfl) (by as_aux_lemma => kernel_rfl) (by as_aux_lemma => kernel_rfl) (by as_aux_lemma => kernel_rfl) (fun _ _ _ h => h) (Or.inl ⟨by kernel_rfl, ?_⟩) hHeld ?_
                  rotate_left
                  · intro w hSw; (try dsimp only at hSw); go_simp; (try with_reducible rfl)
                  try simp only [Act.put, List.setIfInBounds_toArray, List.set_cons_zero, List.set_cons_succ]
                  refine take_d (i := 2) (oi := _) (v := ?_) (d := some 139) rfl (by kernel_rfl) (by as_aux_lemma => kernel_rfl) (by as_aux_lemma => kernel_rfl) (by as_aux_lemma => kernel_rfl) (fun _ _ _ h => h) (Or.inl ⟨by kernel_rfl, ?_⟩) hHeld ?_
                  rotate_left
                  · intro w hSw; (try dsimp only at hSw); go_simp; (try with_reducible rfl)
                  try simp only [Act.put, List.setIfInBounds_toArray, List.set_cons_zero, List.set_cons_succ]
                  refine take_d (i := 3) (oi := _) (v := ?_) (d := some 140) rfl (by kernel_rfl) (by as_aux_lemma => kernel_rfl) (by as_aux_lemma => kernel_rfl) (by as_aux_lemma => kernel_rfl) (fun _ _ _ h => h) (Or.inl ⟨by kernel_rfl, ?_⟩) hHeld ?_
                  rotate_left
                  · intro w hSw; (try dsimp only at hSw); go_simp; (try with_reducible rfl)
                  try simp only [Act.put, List.setIfInBounds_toArray, List.set_cons_zero, List.set_cons_succ]
                  refine take_d (i := 4) (oi := _) (v := ?_) (d := some 141) rfl (by kernel_rfl) (by as_aux_lemma => kernel_rfl) (by as_aux_lemma => kernel_rfl) (by as_aux_lemma => kernel_rfl) (fun _ _ _ h => h) (Or.inl ⟨by kernel_rfl, ?_⟩) hHeld ?_
                  rotate_left
                  · intro w hSw; (try dsimp only at hSw); go_simp; (try with_reducible rfl)
                  try simp only [Act.put, List.setIfInBounds_toArray, List.set_cons_zero, List.set_cons_succ]
                  refine take_d (i := 5) (oi := _) (v := .bool true) (d := some 142) rfl (by kernel_rfl) (by as_aux_lemma => kernel_rfl) (by as_aux_lemma => kernel_rfl) (by as_aux_lemma => kernel_rfl) (fun _ _ _ h => h) (Or.inl ⟨by kernel_rfl, ?_⟩) hHeld ?_
                  · intro W hSw
                    go_simp; first | done | simp [hnm]
                  try simp only [Act.put, List.setIfInBounds_toArray, List.set_cons_zero, List.set_cons_succ]
                  refine take_d (i := 6) (oi := _) (v := ?_) (d := some 143) rfl (by kernel_rfl) (by as_aux_lemma => kernel_rfl) (by as_aux_lemma => kernel_rfl) (by as_aux_lemma => kernel_rfl) (fun _ _ _ h => h) (Or.inl ⟨by kernel_rfl, ?_⟩) hHeld ?_
                  rotate_left
                  · intro w hSw; (try dsimp only at hSw); go_simp; (try with_reducible rfl)
                  try simp only [Act.put, List.setIfInBounds_toArray, List.set_cons_zero, List.set_cons_succ]
                  refine take_d (i := 7) (oi := _) (v := ?_) (d := some 144) rfl (by kernel_rfl) (by as_aux_lemma => kernel_rfl) (by as_aux_lemma => kernel_rfl) (by as_aux_lemma => kernel_rfl) (fun _ _ _ h => h) (Or.inl ⟨by kernel_rfl, ?_⟩) hHeld ?_
                  rotate_left
                  · intro w hSw; (try dsimp only at hSw); go_simp; (try with_reducible rfl)
                  try simp only [Act.put, List.setIfInBounds_toArray, List.set_cons_zero, List.set_cons_succ]
                  refine take_d (i := 8) (oi := _) (v := ?_) (d := some 145) rfl (by kernel_rfl) (by as_aux_lemma => kernel_rfl) (by as_aux_lemma => kernel_rfl) (by as_aux_lemma => kernel_rfl) (fun _ _ _ h => h) (Or.inl ⟨by kernel_rfl, ?_⟩) hHeld ?_
                  rotate_left
                  · intro w hSw; (try dsimp only at hSw); go_simp; (try with_reducible rfl)
                  try simp only [Act.put, List.setIfInBounds_toArray, List.set_cons_zero, List.set_cons_succ]
                  refine take_d (i := 9) (oi := _) (v := ?_) (d := some 146) rfl (by kernel_rfl) (by as_aux_lemma => kernel_rfl) (by as_aux_lemma => kernel_rfl) (by as_aux_lemma => kernel_rfl) (fun _ _ _ h => h) (Or.inl ⟨by kernel_rfl, ?_⟩) hHeld ?_
                  rotate_left
                  · intro w hSw; (try dsimp only at hSw); go_simp; (try with_reducible rfl)
                  try simp only [Act.put, List.setIfInBounds_toArray, List.set_cons_zero, List.set_cons_succ]
                  refine take_d (i := 10) (oi := _) (v := ?_) (d := some 147) rfl (by kernel_rfl) (by as_aux_lemma => kernel_rfl) (by as_aux_lemma => kernel_rfl) (by as_aux_lemma => kernel_rfl) (fun _ _ _ h => h) (Or.inl ⟨by kernel_rfl, ?_⟩) hHeld ?_
                  rotate_left
                  · intro w hSw; (try dsimp only at hSw); go_simp; (try with_reducible rfl)
                  try simp only [Act.put, List.setIfInBounds_toArray, List.set_cons_zero, List.set_cons_succ]
                  refine take_d (i := 11) (oi := _) (v := ?_) (d := some 148) rfl (by kernel_rfl) (by as_aux_lemma => kernel_rfl) (by as_aux_lemma => kernel_rfl) (by as_aux_lemma => kernel_rfl) (fun _ _ _ h => h) (Or.inl ⟨by kernel_rfl, ?_⟩) hHeld ?_
                  rotate_left
                  · intro w hSw; (try dsimp only at hSw); go_simp; (try with_reducible rfl)
                  try simp only [Act.put, List.setIfInBounds_toArray, List.set_cons_zero, List.set_cons_succ]
                  refine wpAnyH_ready (rs := [12]) (by kernel_rfl) (by simp) ?_
                  refine AllReadyH.cons rfl (fun K hK => ?_) AllReadyH.nil
                  go_simp
                  refine (C1.out _).mono ?_
                  rintro e u1 ⟨rfl, hb⟩
                  replace bq := (by first | exact Gw.call bq hb | exact Gw.call (Below.drew bq) hb)
                  clear hb
                  dsimp only
                  refine hK.out _ _ (HB.out _ bq) (fun hHeld => ?_)
                  clear hK K
                  try simp only [Act.put, List.setIfInBounds_toArray, List.set_cons_zero, List.set_cons_succ]
                  refine take_d (i := 13) (oi := _) (v := ?_) (d := some 150) rfl (by kernel_rfl) (by as_aux_lemma => kernel_rfl) (by as_aux_lemma => kernel_rfl) (by as_aux_lemma => kernel_rfl) (fun _ _ _ h => h) (Or.inl ⟨by kernel_rfl, ?_⟩) hHeld ?_
                  rotate_left
                  · intro w hSw; (try dsimp only at hSw); go_simp; (try with_reducible rfl)
                  try simp only [Act.put, List.setIfInBounds_toArray, List.set_cons_zero, List.set_cons_succ]
                  refine take_d (i := 14) (oi := _) (v := ?_) (d := some 151) rfl (by kernel_rfl) (by as_aux_lemma => kernel_rfl) (by as_aux_lemma => kernel_rfl) (by as_aux_lemma => kernel_rfl) (fun _ _ _ h => h) (Or.inl ⟨by kernel_rfl, ?_⟩) hHeld ?_
                  rotate_left
                  · intro w hSw; (try dsimp only at hSw); go_simp; (try with_reducible rfl)
                  try simp only [Act.put, List.setIfInBounds_toArray, List.set_cons_zero, List.set_cons_succ]
                  refine take_d (i := 15) (oi := _) (v := ?_) (d := some 152) rfl (by kernel_rfl) (by as_aux_lemma => kernel_rfl) (by as_aux_lemma => kernel_rfl) (by as_aux_lemma => kernel_rfl) (fun _ _ _ h => h) (Or.inl ⟨by kernel_rfl, ?_⟩) hHeld ?_
                  rotate_left
                  · intro w hSw; (try dsimp only at hSw); go_simp; (try with_reducible rfl)
                  try simp only [Act.put, List.setIfInBounds_toArray, List.set_cons_zero, List.set_cons_succ]
                  refine take_d (i := 16) (oi := _) (v := ?_) (d := some 153) rfl (by kernel_rfl) (by as_aux_lemma => kernel_rfl) (by as_aux_lemma => kernel_rfl) (by as_aux_lemma => kernel_rfl) (fun _ _ _ h => h) (Or.inl ⟨by kernel_rfl, ?_⟩) hHeld ?_
                  rotate_left
                  · intro w hSw; (try dsimp only at hSw); go_simp; (try with_reducible rfl)
                  try simp only [Act.put, List.setIfInBounds_toArray, List.set_cons_zero, List.set_cons_succ]
                  refine take_d (i := 17) (oi := _) (v := ?_) (d := some 154) rfl (by kernel_rfl) (by as_aux_lemma => kernel_rfl) (by as_aux_lemma => kernel_rfl) (by as_aux_lemma => kernel_rfl) (fun _ _ _ h => h) (Or.inl ⟨by kernel_rfl, ?_⟩) hHeld ?_
                  rotate_left
                  · intro w hSw; (try dsimp only at hSw); go_simp; (try with_reducible rfl)
                  try simp only [Act.put, List.setIfInBounds_toArray, List.set_cons_zero, List.set_cons_succ]
                  refine take_d (i := 18) (oi := _) (v := ?_) (d := some 155) rfl (by kernel_rfl) (by as_aux_lemma => kernel_rfl) (by as_aux_lemma => kernel_rfl) (by as_aux_lemma => kernel_rfl) (fun _ _ _ h => h) (Or.inl ⟨by kernel_rfl, ?_⟩) hHeld ?_
                  rotate_left
                  · intro w hSw; (try dsimp only at hSw); go_simp; (try with_reducible rfl)
                  try simp only [Act.put, List.setIfInBounds_toArray, List.set_cons_zero, List.set_cons_succ]
                  refine take_d (i := 19) (oi := _) (v := ?_) (d := some 156) rfl (by kernel_rfl) (by as_aux_lemma => kernel_rfl) (by as_aux_lemma => kernel_rfl) (by as_aux_lemma => kernel_rfl) (fun _ _ _ h => h) (Or.inl ⟨by kernel_rfl, ?_⟩) hHeld ?_
                  rotate_left
                  · intro w hSw; (try dsimp only at hSw); go_simp; (try with_reducible rfl)
                  try simp only [Act.put, List.setIfInBounds_toArray, List.set_cons_zero, List.set_cons_succ]
                  refine take_d (i := 20) (oi := _) (v := ?_) (d := some 157) rfl (by kernel_rfl) (by as_aux_lemma => kernel_rfl) (by as_aux_lemma => kernel_rfl) (by as_aux_lemma => kernel_rfl) (fun _ _ _ h => h) (Or.inl ⟨by kernel_rfl, ?_⟩) hHeld ?_
                  rotate_left
                  · intro w hSw; (try dsimp only at hSw); go_simp; (try with_reducible rfl)
                  try simp only [Act.put, List.setIfInBounds_toArray, List.set_cons_zero, List.set_cons_succ]
                  refine wpAnyH_ready (rs := [21]) (by kernel_rfl) (by simp) ?_
                  refine AllReadyH.cons rfl (fun K hK => ?_) AllReadyH.nil
                  go_simp
                  refine (C2.out _).mono ?_
                  rintro e u2 ⟨rfl, hb⟩
                  replace bq := (by first | exact Gw.call bq hb | exact Gw.call (Below.drew bq) hb)
                  clear hb
                  dsimp only
                  refine hK.out _ _ (HB.out _ bq) (fun hHeld => ?_)
                  clear hK K
                  try simp only [Act.put, List.setIfInBounds_toArray, List.set_cons_zero, List.set_cons_succ]
                  refine take_d (i := 22) (oi := _) (v := ?_) (d := some 159) rfl (by kernel_rfl) (by as_aux_lemma => kernel_rfl) (by as_aux_lemma => kernel_rfl) (by as_aux_lemma => kernel_rfl) (fun _ _ _ h => h) (Or.inl ⟨by kernel_rfl, ?_⟩) hHeld ?_
                  rotate_left
                  · intro w hSw; (try dsimp only at hSw); go_simp; (try with_reducible rfl)
                  try simp only [Act.put, List.setIfInBounds_toArray, List.set_cons_zero, List.set_cons_succ]
                  refine wpAnyH_done (by kernel_rfl) ?_ _
                  clear hHeld C1 C2 hb9 hnm
                  replace o8 := Own.below o8 bq
                  replace q9 := Own.below q9 bq
                  replace q12 := Own.below q12 bq
                  replace bi := Gw.call bi bq
                  replace G := G.call bq
                  have c0 := G.blk.2.1 0 _ rfl
                  have c1 := G.blk.2.1 1 _ rfl
                  have c2 := G.blk.2.1 2 _ rfl
                  clear bq HB
                  by_cases hp : 0 < r1.p
                  · have tp : decide (0 < r1.p) = true := by simp; omega
                    have HP := Lib.hid hp
                    clear hp
                    go_wp2_with fail
                    refine (lacks_two rs nn _ _ _ _ a r1 m _ RSL.out (by rw [World.size_alloc]; exact Rd.lit idc_len _ _ rfl #[.int .u8 (a : Int), .int .u16 r1.i, .int .u32 r1.p, .int .u8 (a : Int), .int .u16 r1.i, .int .u32 1] 30 [⟨a, r1.i, r1.p⟩, ⟨a, r1.i, 1⟩] rfl) ((o8.alloc _).rd rowc_len) HRA.out GS.out (by omega) HP.out (by omega)).mono ?_
                    rintro e w5 ⟨A7, c7, rfl, hb⟩
                    replace o8 := Own.below (o8.alloc (.cells #[.int .u8 (a : Int), .int .u16 r1.i, .int .u32 r1.p, .int .u8 (a : Int), .int .u16 r1.i, .int .u32 1] 30)) hb
                    replace q9 := Own.below (q9.alloc (.cells #[.int .u8 (a : Int), .int .u16 r1.i, .int .u32 r1.p, .int .u8 (a : Int), .int .u16 r1.i, .int .u32 1] 30)) hb
                    replace q12 := Own.below (q12.alloc (.cells #[.int .u8 (a : Int), .int .u16 r1.i, .int .u32 r1.p, .int .u8 (a : Int), .int .u16 r1.i, .int .u32 1] 30)) hb
                    replace bi := Gw.call (Gw.al bi (.cells #[.int .u8 (a : Int), .int .u16 r1.i, .int .u32 r1.p, .int .u8 (a : Int), .int .u16 r1.i, .int .u32 1] 30)) hb
                    clear hb c0 c1 c2 G
                    go_wp2_with fail
                    go_roundw
                    case rel => exact ⟨j + 1, hjl, by go_num, by rw [HKC.out]; go_num, o8, q9, q12, bi⟩
                    case measure => simp [intOf]; omega
                  · have tp : decide (0 < r1.p) = false := by simp; omega
                    clear hp
                    go_wp2_with fail
                    go_roundw
                    case rel => exact ⟨j + 1, hjl, by go_num, by rw [HKC.out]; go_num, o8, q9, q12, bi⟩
                    case measure => simp [intOf]; omega
              · have HKC := Lib.hid hkc
                clear hkc HC
                by_cases hq : q < ol
                · obtain ⟨o, ho⟩ : ∃ o, (marksL rows)[q]? = some o := ⟨_, List.getElem?_eq_getElem (by have := HOL.out; omega)⟩
                  have hne := hno o ho
                  have tne : (o.n == (a : Int)) = false := by rw [beq_eq_false_iff_ne]; exact hne
                  have tq : decide ((q : Int) < (ol : Int)) = true := by simp; omega
                  have tqn : decide (q < ol) = true := by simp; omega
                  have hqi : (q : Int) < (ol : Int) := by omega
                  obtain ⟨b9, p9, rfl, hb9, hc⟩ := (q9.rd idc_len).at_ ho
                  have f0 : wc.cell? ⟨b9, p9 + q * 3, none⟩ = some (.int .u8 o.n) := hc 0 _ rfl
                  clear hno ho hne hc hq
                  have HB : Hid (∀ W, Below wc.heap.size wc W → (fun W : World => W.cell? ⟨wr.heap.size, 0, none⟩ = some (.int .u8 (a : Int)) ∧ W.cell? ⟨b9, p9 + q * 3, none⟩ = some (.int .u8 o.n)) W) := Lib.hid fun W hb => ⟨(G.call hb).blk.2.1 0 _ rfl, (hb.cell (p := ⟨b9, _, none⟩) hb9).trans f0⟩
                  clear f0
                  refine wp_region_held_drew (S := fun W : World => W.cell? ⟨wr.heap.size, 0, none⟩ = some (.int .u8 (a : Int)) ∧ W.cell? ⟨b9, p9 + q * 3, none⟩ = some (.int .u8 o.n)) (by kernel_rfl) (HB.out _ (Below.drew bq)) (fun hHeld => ?_)
                  refine take_d (i := 0) (oi := _) (v := ?_) (d := some 123) rfl (by kernel_rfl) (by as_aux_lemma => kernel_rfl) (by as_aux_lemma => kernel_rfl) (by as_aux_lemma => kernel_rfl) (fun _ _ _ h => h) (Or.inl ⟨by kernel_rfl, ?_⟩) hHeld ?_
                  rotate_left
                  · intro w hSw; (try dsimp only at hSw); go_simp; (try with_reducible rfl)
                  try simp only [Act.put, List.setIfInBounds_toArray, List.set_cons_zero, List.set_cons_succ]
                  refine take_d (i := 1) (oi := _) (v := ?_) (d := some 124) rfl (by kernel_rfl) (by as_aux_lemma => kernel_rfl) (by as_aux_lemma => kernel_rfl) (by as_aux_lemma => kernel_rfl) (fun _ _ _ h => h) (Or.inl ⟨by kernel_rfl, ?_⟩) hHeld ?_
                  rotate_left
                  · intro w hSw; (try dsimp only at hSw); go_simp; (try with_reducible rfl)
                  try simp only [Act.put, List.setIfInBounds_toArray, List.set_cons_zero, List.set_cons_succ]
                  refine take_d (i := 2) (oi := _) (v := ?_) (d := some 125) rfl (by kernel_rfl) (by as_aux_lemma => kernel_rfl) (by as_aux_lemma => kernel_rfl) (by as_aux_lemma => kernel_rfl) (fun _ _ _ h => h) (Or.inl ⟨by kernel_rfl, ?_⟩) hHeld ?_
                  rotate_left
                  · intro w hSw; (try dsimp only at hSw); go_simp; (try with_reducible rfl)
                  try simp only [Act.put, List.setIfInBounds_toArray, List.set_cons_zero, List.set_cons_succ]
                  refine take_d (i := 3) (oi := _) (v := .bool true) (d := some 126) rfl (by kernel_rfl) (by as_aux_lemma => kernel_rfl) (by as_aux_lemma => kernel_rfl) (by as_aux_lemma => kernel_rfl) (fun _ _ _ h => h) (Or.inl ⟨by kernel_rfl, ?_⟩) hHeld ?_
                  · intro W hSw
                    go_simp; first | done | simp only [tq] | simp only [tqn] | simp [tq, tqn]
                  try simp only [Act.put, List.setIfInBounds_toArray, List.set_cons_zero, List.set_cons_succ]
                  refine take_d (i := 4) (oi := _) (v := ?_) (d := some 127) rfl (by kernel_rfl) (by as_aux_lemma => kernel_rfl) (by as_aux_lemma => kernel_rfl) (by as_aux_lemma => kernel_rfl) (fun _ _ _ h => h) (Or.inl ⟨by kernel_rfl, ?_⟩) hHeld ?_
                  rotate_left
                  · intro w hSw; (try dsimp only at hSw); go_simp; (try with_reducible rfl)
                  try simp only [Act.put, List.setIfInBounds_toArray, List.set_cons_zero, List.set_cons_succ]
                  refine take_d (i := 5) (oi := _) (v := ?_) (d := some 128) rfl (by kernel_rfl) (by as_aux_lemma => kernel_rfl) (by as_aux_lemma => kernel_rfl) (by as_aux_lemma => kernel_rfl) (fun _ _ _ h => h) (Or.inl ⟨by kernel_rfl, ?_⟩) hHeld ?_
                  rotate_left
                  · intro w hSw; (try dsimp only at hSw); go_simp; (try with_reducible rfl)
                  try simp only [Act.put, List.setIfInBounds_toArray, List.set_cons_zero, List.set_cons_succ]
                  refine take_d (i := 6) (oi := _) (v := ?_) (d := some 129) rfl (by kernel_rfl) (by as_aux_lemma => kernel_rfl) (by as_aux_lemma => kernel_rfl) (by as_aux_lemma => kernel_rfl) (fun _ _ _ h => h) (Or.inl ⟨by kernel_rfl, ?_⟩) hHeld ?_
                  rotate_left
                  · intro w hSw; (try dsimp only at hSw); go_simp; (try with_reducible rfl)
                  try simp only [Act.put, List.setIfInBounds_toArray, List.set_cons_zero, List.set_cons_succ]
                  refine take_d (i := 7) (oi := _) (v := ?_) (d := some 130) rfl (by kernel_rfl) (by as_aux_lemma => kernel_rfl) (by as_aux_lemma => kernel_rfl) (by as_aux_lemma => kernel_rfl) (fun _ _ _ h => h) (Or.inl ⟨by kernel_rfl, ?_⟩) hHeld ?_
                  rotate_left
                  · intro w hSw; (try dsimp only at hSw); go_simp; (try with_reducible rfl)
                  try simp only [Act.put, List.setIfInBounds_toArray, List.set_cons_zero, List.set_cons_succ]
                  refine take_d (i := 8) (oi := _) (v := ?_) (d := some 131) rfl (by kernel_rfl) (by as_aux_lemma => kernel_rfl) (by as_aux_lemma => kernel_rfl) (by as_aux_lemma => kernel_rfl) (fun _ _ _ h => h) (Or.inl ⟨by kernel_rfl, ?_⟩) hHeld ?_
                  rotate_left
                  · intro w hSw; (try dsimp only at hSw); go_simp; (try with_reducible rfl)
                  try simp only [Act.put, List.setIfInBounds_toArray, List.set_cons_zero, List.set_cons_succ]
                  refine take_d (i := 9) (oi := _) (v := ?_) (d := some 132) rfl (by kernel_rfl) (by as_aux_lemma => kernel_rfl) (by as_aux_lemma => kernel_rfl) (by as_aux_lemma => kernel_rfl) (fun _ _ _ h => h) (Or.inl ⟨by kernel_rfl, ?_⟩) hHeld ?_
                  rotate_left
                  · intro w hSw; (try dsimp only at hSw); go_simp; (try with_reducible rfl)
                  try simp only [Act.put, List.setIfInBounds_toArray, List.set_cons_zero, List.set_cons_succ]
                  refine take_d (i := 10) (oi := _) (v := ?_) (d := some 133) rfl (by kernel_rfl) (by as_aux_lemma => kernel_rfl) (by as_aux_lemma => kernel_rfl) (by as_aux_lemma => kernel_rfl) (fun _ _ _ h => h) (Or.inl ⟨by kernel_rfl, ?_⟩) hHeld ?_
                  rotate_left
                  · intro w hSw; (try dsimp only at hSw); go_simp; (try with_reducible rfl)
                  try simp only [Act.put, List.setIfInBounds_toArray, List.set_cons_zero, List.set_cons_succ]
                  refine take_d (i := 11) (oi := _) (v := ?_) (d := some 134) rfl (by kernel_rfl) (by as_aux_lemma => kernel_rfl) (by as_aux_lemma => kernel_rfl) (by as_aux_lemma => kernel_rfl) (fun _ _ _ h => h) (Or.inl ⟨by kernel_rfl, ?_⟩) hHeld ?_
                  rotate_left
                  · intro w hSw; (try dsimp only at hSw); go_simp; (try with_reducible rfl)
                  try simp only [Act.put, List.setIfInBounds_toArray, List.set_cons_zero, List.set_cons_succ]
                  refine take_d (i := 12) (oi := _) (v := .bool false) (d := some 135) rfl (by kernel_rfl) (by as_aux_lemma => kernel_rfl) (by as_aux_lemma => kernel_rfl) (by as_aux_lemma => kernel_rfl) (fun _ _ _ h => h) (Or.inl ⟨by kernel_rfl, ?_⟩) hHeld ?_
                  · intro W hSw
                    go_simp; first | done | simp only [tne]
                  try simp only [Act.put, List.setIfInBounds_toArray, List.set_cons_zero, List.set_cons_succ]
                  refine take_d (i := 13) (oi := _) (v := ?_) (d := some 136) rfl (by kernel_rfl) (by as_aux_lemma => kernel_rfl) (by as_aux_lemma => kernel_rfl) (by as_aux_lemma => kernel_rfl) (fun _ _ _ h => h) (Or.inl ⟨by kernel_rfl, ?_⟩) hHeld ?_
                  rotate_left
                  · intro w hSw; (try dsimp only at hSw); go_simp; (try with_reducible rfl)
                  try simp only [Act.put, List.setIfInBounds_toArray, List.set_cons_zero, List.set_cons_succ]
                  refine wpAnyH_done (by kernel_rfl) ?_ _
                  replace bq := Below.drew bq
                  clear hHeld hb9 tne
                  replace o8 := Own.below o8 bq
                  replace q9 := Own.below q9 bq
                  replace q12 := Own.below q12 bq
                  replace bi := Gw.call bi bq
                  replace G := G.call bq
                  have c0 := G.blk.2.1 0 _ rfl
                  have c1 := G.blk.2.1 1 _ rfl
                  have c2 := G.blk.2.1 2 _ rfl
                  clear bq HB
                  by_cases hp : 0 < r1.p
                  · have tp : decide (0 < r1.p) = true := by simp; omega
                    have HP := Lib.hid hp
                    clear hp
                    go_wp2_with fail
                    refine (lacks_two rs nn _ _ _ _ a r1 m _ RSL.out (by rw [World.size_alloc]; exact Rd.lit idc_len _ _ rfl #[.int .u8 (a : Int), .int .u16 r1.i, .int .u32 r1.p, .int .u8 (a : Int), .int .u16 r1.i, .int .u32 1] 30 [⟨a, r1.i, r1.p⟩, ⟨a, r1.i, 1⟩] rfl) ((o8.alloc _).rd rowc_len) HRA.out GS.out (by omega) HP.out (by omega)).mono ?_
                    rintro e w5 ⟨A7, c7, rfl, hb⟩
                    replace o8 := Own.below (o8.alloc (.cells #[.int .u8 (a : Int), .int .u16 r1.i, .int .u32 r1.p, .int .u8 (a : Int), .int .u16 r1.i, .int .u32 1] 30)) hb
                    replace q9 := Own.below (q9.alloc (.cells #[.int .u8 (a : Int), .int .u16 r1.i, .int .u32 r1.p, .int .u8 (a : Int), .int .u16 r1.i, .int .u32 1] 30)) hb
                    replace q12 := Own.below (q12.alloc (.cells #[.int .u8 (a : Int), .int .u16 r1.i, .int .u32 r1.p, .int .u8 (a : Int), .int .u16 r1.i, .int .u32 1] 30)) hb
                    replace bi := Gw.call (Gw.al bi (.cells #[.int .u8 (a : Int), .int .u16 r1.i, .int .u32 r1.p, .int .u8 (a : Int), .int .u16 r1.i, .int .u32 1] 30)) hb
                    clear hb c0 c1 c2 G
                    go_wp2_with fail
                    go_roundw
                    case rel => exact ⟨j + 1, hjl, by go_num, by rw [HKC.out], o8, q9, q12, bi⟩
                    case measure => simp [intOf]; omega
                  · have tp : decide (0 < r1.p) = false := by simp; omega
                    clear hp
                    go_wp2_with fail
                    go_roundw
                    case rel => exact ⟨j + 1, hjl, by go_num, by rw [HKC.out], o8, q9, q12, bi⟩
                    case measure => simp [intOf]; omega
                · have tq : decide ((q : Int) < (ol : Int)) = false := by simp; omega
                  have tqn : decide (q < ol) = false := by simp; omega
                  clear hno hq
                  have HB : Hid (∀ W, Below wc.heap.size wc W → (fun W : World => W.cell? ⟨wr.heap.size, 0, none⟩ = some (.int .u8 (a : Int))) W) := Lib.hid fun W hb => (G.call hb).blk.2.1 0 _ rfl
                  refine wp_region_held_drew (S := fun W : World => W.cell? ⟨wr.heap.size, 0, none⟩ = some (.int .u8 (a : Int))) (by kernel_rfl) (HB.out _ (Below.drew bq)) (fun hHeld => ?_)
                  refine take_d (i := 0) (oi := _) (v := ?_) (d := some 123) rfl (by kernel_rfl) (by as_aux_lemma => kernel_rfl) (by as_aux_lemma => kernel_rfl) (by as_aux_lemma => kernel_rfl) (fun _ _ _ h => h) (Or.inl ⟨by kernel_rfl, ?_⟩) hHeld ?_
                  rotate_left
                  · intro w hSw; (try dsimp only at hSw); go_simp; (try with_reducible rfl)
                  try simp only [Act.put, List.setIfInBounds_toArray, List.set_cons_zero, List.set_cons_succ]
                  refine take_d (i := 1) (oi := _) (v := ?_) (d := some 124) rfl (by kernel_rfl) (by as_aux_lemma => kernel_rfl) (by as_aux_lemma => kernel_rfl) (by as_aux_lemma => kernel_rfl) (fun _ _ _ h => h) (Or.inl ⟨by kernel_rfl, ?_⟩) hHeld ?_
                  rotate_left
                  · intro w hSw; (try dsimp only at hSw); go_simp; (try with_reducible rfl)
                  try simp only [Act.put, List.setIfInBounds_toArray, List.set_cons_zero, List.set_cons_succ]
                  refine take_d (i := 2) (oi := _) (v := ?_) (d := some 125) rfl (by kernel_rfl) (by as_aux_lemma => kernel_rfl) (by as_aux_lemma => kernel_rfl) (by as_aux_lemma => kernel_rfl) (fun _ _ _ h => h) (Or.inl ⟨by kernel_rfl, ?_⟩) hHeld ?_
                  rotate_left
                  · intro w hSw; (try dsimp only at hSw); go_simp; (try with_reducible rfl)
                  try simp only [Act.put, List.setIfInBounds_toArray, List.set_cons_zero, List.set_cons_succ]
                  refine take_d (i := 3) (oi := _) (v := .bool false) (d := some 126) rfl (by kernel_rfl) (by as_aux_lemma => kernel_rfl) (by as_aux_lemma => kernel_rfl) (by as_aux_lemma => kernel_rfl) (fun _ _ _ h => h) (Or.inl ⟨by kernel_rfl, ?_⟩) hHeld ?_
                  · intro W hSw
                    go_simp; first | done | simp only [tq] | simp only [tqn] | simp [tq, tqn]
                  try simp only [Act.put, List.setIfInBounds_toArray, List.set_cons_zero, List.set_cons_succ]
                  refine take_d (i := 4) (oi := _) (v := ?_) (d := some 127) rfl (by kernel_rfl) (by as_aux_lemma => kernel_rfl) (by as_aux_lemma => kernel_rfl) (by as_aux_lemma => kernel_rfl) (fun _ _ _ h => h) (Or.inl ⟨by kernel_rfl, ?_⟩) hHeld ?_
                  rotate_left
                  · intro w hSw; (try dsimp only at hSw); go_simp; (try with_reducible rfl)
                  try simp only [Act.put, List.setIfInBounds_toArray, List.set_cons_zero, List.set_cons_succ]
                  refine take_d (i := 5) (oi := _) (v := undef) (d := some 128) rfl (by kernel_rfl) (by as_aux_lemma => kernel_rfl) (by as_aux_lemma => kernel_rfl) (by as_aux_lemma => kernel_rfl) (fun _ _ _ h => h) (Or.inr ⟨by kernel_rfl, rfl⟩) hHeld ?_
                  try simp only [Act.put, List.setIfInBounds_toArray, List.set_cons_zero, List.set_cons_succ]
                  refine take_d (i := 6) (oi := _) (v := undef) (d := some 129) rfl (by kernel_rfl) (by as_aux_lemma => kernel_rfl) (by as_aux_lemma => kernel_rfl) (by as_aux_lemma => kernel_rfl) (fun _ _ _ h => h) (Or.inr ⟨by kernel_rfl, rfl⟩) hHeld ?_
                  try simp only [Act.put, List.setIfInBounds_toArray, List.set_cons_zero, List.set_cons_succ]
                  refine take_d (i := 7) (oi := _) (v := undef) (d := some 130) rfl (by kernel_rfl) (by as_aux_lemma => kernel_rfl) (by as_aux_lemma => kernel_rfl) (by as_aux_lemma => kernel_rfl) (fun _ _ _ h => h) (Or.inr ⟨by kernel_rfl, rfl⟩) hHeld ?_
                  try simp only [Act.put, List.setIfInBounds_toArray, List.set_cons_zero, List.set_cons_succ]
                  refine take_d (i := 8) (oi := _) (v := undef) (d := some 131) rfl (by kernel_rfl) (by as_aux_lemma => kernel_rfl) (by as_aux_lemma => kernel_rfl) (by as_aux_lemma => kernel_rfl) (fun _ _ _ h => h) (Or.inr ⟨by kernel_rfl, rfl⟩) hHeld ?_
                  try simp only [Act.put, List.setIfInBounds_toArray, List.set_cons_zero, List.set_cons_succ]
                  refine take_d (i := 9) (oi := _) (v := undef) (d := some 132) rfl (by kernel_rfl) (by as_aux_lemma => kernel_rfl) (by as_aux_lemma => kernel_rfl) (by as_aux_lemma => kernel_rfl) (fun _ _ _ h => h) (Or.inr ⟨by kernel_rfl, rfl⟩) hHeld ?_
                  try simp only [Act.put, List.setIfInBounds_toArray, List.set_cons_zero, List.set_cons_succ]
                  refine take_d (i := 10) (oi := _) (v := undef) (d := some 133) rfl (by kernel_rfl) (by as_aux_lemma => kernel_rfl) (by as_aux_lemma => kernel_rfl) (by as_aux_lemma => kernel_rfl) (fun _ _ _ h => h) (Or.inr ⟨by kernel_rfl, rfl⟩) hHeld ?_
                  try simp only [Act.put, List.setIfInBounds_toArray, List.set_cons_zero, List.set_cons_succ]
                  refine take_d (i := 11) (oi := _) (v := undef) (d := some 134) rfl (by kernel_rfl) (by as_aux_lemma => kernel_rfl) (by as_aux_lemma => kernel_rfl) (by as_aux_lemma => kernel_rfl) (fun _ _ _ h => h) (Or.inr ⟨by kernel_rfl, rfl⟩) hHeld ?_
                  try simp only [Act.put, List.setIfInBounds_toArray, List.set_cons_zero, List.set_cons_succ]
                  refine take_d (i := 12) (oi := _) (v := undef) (d := some 135) rfl (by kernel_rfl) (by as_aux_lemma => kernel_rfl) (by as_aux_lemma => kernel_rfl) (by as_aux_lemma => kernel_rfl) (fun _ _ _ h => h) (Or.inr ⟨by kernel_rfl, rfl⟩) hHeld ?_
                  try simp only [Act.put, List.setIfInBounds_toArray, List.set_cons_zero, List.set_cons_succ]
                  refine take_d (i := 13) (oi := _) (v := ?_) (d := some 136) rfl (by kernel_rfl) (by as_aux_lemma => kernel_rfl) (by as_aux_lemma => kernel_rfl) (by as_aux_lemma => kernel_rfl) (fun _ _ _ h => h) (Or.inl ⟨by kernel_rfl, ?_⟩) hHeld ?_
                  rotate_left
                  · intro w hSw; (try dsimp only at hSw); go_simp; (try with_reducible rfl)
                  try simp only [Act.put, List.setIfInBounds_toArray, List.set_cons_zero, List.set_cons_succ]
                  refine wpAnyH_done (by kernel_rfl) ?_ _
                  replace bq := Below.drew bq
                  clear hHeld
                  replace o8 := Own.below o8 bq
                  replace q9 := Own.below q9 bq
                  replace q12 := Own.below q12 bq
                  replace bi := Gw.call bi bq
                  replace G := G.call bq
                  have c0 := G.blk.2.1 0 _ rfl
                  have c1 := G.blk.2.1 1 _ rfl
                  have c2 := G.blk.2.1 2 _ rfl
                  clear bq HB
                  by_cases hp : 0 < r1.p
                  · have tp : decide (0 < r1.p) = true := by simp; omega
                    have HP := Lib.hid hp
                    clear hp
                    go_wp2_with fail
                    refine (lacks_two rs nn _ _ _ _ a r1 m _ RSL.out (by rw [World.size_alloc]; exact Rd.lit idc_len _ _ rfl #[.int .u8 (a : Int), .int .u16 r1.i, .int .u32 r1.p, .int .u8 (a : Int), .int .u16 r1.i, .int .u32 1] 30 [⟨a, r1.i, r1.p⟩, ⟨a, r1.i, 1⟩] rfl) ((o8.alloc _).rd rowc_len) HRA.out GS.out (by omega) HP.out (by omega)).mono ?_
                    rintro e w5 ⟨A7, c7, rfl, hb⟩
                    replace o8 := Own.below (o8.alloc (.cells #[.int .u8 (a : Int), .int .u16 r1.i, .int .u32 r1.p, .int .u8 (a : Int), .int .u16 r1.i, .int .u32 1] 30)) hb
                    replace q9 := Own.below (q9.alloc (.cells #[.int .u8 (a : Int), .int .u16 r1.i, .int .u32 r1.p, .int .u8 (a : Int), .int .u16 r1.i, .int .u32 1] 30)) hb
                    replace q12 := Own.below (q12.alloc (.cells #[.int .u8 (a : Int), .int .u16 r1.i, .int .u32 r1.p, .int .u8 (a : Int), .int .u16 r1.i, .int .u32 1] 30)) hb
                    replace bi := Gw.call (Gw.al bi (.cells #[.int .u8 (a : Int), .int .u16 r1.i, .int .u32 r1.p, .int .u8 (a : Int), .int .u16 r1.i, .int .u32 1] 30)) hb
                    clear hb c0 c1 c2 G
                    go_wp2_with fail
                    go_roundw
                    case rel => exact ⟨j + 1, hjl, by go_num, by rw [HKC.out], o8, q9, q12, bi⟩
                    case measure => simp [intOf]; omega
                  · have tp : decide (0 < r1.p) = false := by simp; omega
                    clear hp
                    go_wp2_with fail
                    go_roundw
                    case rel => exact ⟨j + 1, hjl, by go_num, by rw [HKC.out], o8, q9, q12, bi⟩
                    case measure => simp [intOf]; omega
          · obtain rfl : j = nl := by omega
            rw [HKA.out] at *
            go_wp2_with fail
            go_roundw
            case rel => exact ⟨k + 1, rs, _, c12, hlt, by go_num, by rw [HNL.out], o8, by rw [HNL.out]; exact q12, RSL, GS, bi⟩
            case measure => simp [intOf]; omega
      · have t1 : decide ((nn : Int) ≤ (n : Int)) = true := by simp; omega
        go_wp2_with fail
        go_roundw
        case rel => exact ⟨k + 1, rows, A9, c9, hlt, by go_num, rfl, o8, q9, RL, RG, bx⟩
        case measure => simp [intOf]; omega
    · obtain rfl : k = mn := by omega
      go_wp2_with fail
      refine (awake_any _).mono ?_
      rintro e w9 ⟨rfl, hb⟩
      replace bl := Gw.call bl hb
      clear hb
      go_wp2_with fail
      go_ret
      exact ⟨rfl, bl⟩
end Go.Proofs.Ythockpallaoelaa
