/-
  StableForgets (19): begun.
-/
import Derived.Test.YtcclnfpegepcnaaForgetsL
import Derived.Test.YtcclnfpegepcnaaLaw19C
namespace Go.Proofs.Ytcclnfpegepcnaa
open Go.RowKit
theorem Try.infoTd : (Try.prog.info? 31).map (fun i => (i.zero, i.size, i.bytes)) = some (some (.agg #[.int .u8 0, .slice none 0 0, .bool false]), 3, 40) := by kernel_rfl
def flt (m : Nat) (l : List TdV) (j : Nat) : List TdV := (l.take j).filter fun x => decide (¬x.m.toNat = m)
theorem flt_len (m : Nat) (l : List TdV) (j : Nat) : (flt m l j).length ≤ l.length := Nat.le_trans (List.length_filter_le _ _) (by simp; omega)
theorem flt_yes {m : Nat} {l : List TdV} {j : Nat} {x : TdV} (h : l[j]? = some x) (hm : ¬x.m.toNat = m) : flt m l (j + 1) = flt m l j ++ [x] := by
  unfold flt; rw [List.take_add_one, h, Option.toList_some, List.filter_append]; simp [hm]
theorem flt_no {m : Nat} {l : List TdV} {j : Nat} {x : TdV} (h : l[j]? = some x) (hm : x.m.toNat = m) : flt m l (j + 1) = flt m l j := by
  unfold flt; rw [List.take_add_one, h, Option.toList_some, List.filter_append]; simp [hm]
theorem RepO.app {α : Type} {enc : α → List Value} {sz base base2 : Nat} {E : TypeId} {W W' : World} {u v : Value} {l : List α} {rows : List (List Id)} (h : RepO base W v rows) (ho : Own enc sz E base2 W u l) (h1 : 29 ≠ E) (h2 : 40 ≠ E) (hg : W.grownBy W' u.ownBlock) : RepO base W' v rows := by
  obtain ⟨rs, e, hx⟩ := h
  exact ⟨rs, e, ⟨Apart.keep hx.out (own_unlike hx.out ho h1) hg, fun x hm => Apart.keep (hx.row x hm) (own_unlike (hx.row x hm) ho h2) hg, hx.far⟩⟩
theorem forget_rows {t : List (List Id)} {m n : Nat} (hl : t.length = n) (h : ∀ r ∈ t, r.length = n) : ∀ r ∈ forgetL t m, r.length = n := fun r hr => by
  unfold forgetL at hr
  split at hr
  · rcases List.mem_or_eq_of_mem_set hr with h1 | h1
    · exact h r h1
    · rw [h1, blank_len, hl]
  · exact h r hr
theorem step_make {P : Program} {w : World} {ops : Array Oper} {o : Oper} {a : Act} {K : Act → World → Prop} {Q : Exit → Act → World → Prop} {EE : Prop}
    (hg : o.guard = none) (l c : Operand) (t : TypeId) (hop : o.op = Op.makeSlice t l c)
    (base : Nat) (e : TypeId) (i : TypeInfo) (z : Value) (size : Nat) (h1 : P.underlying t = some (.slice e)) (h2 : P.info? e = some i) (h3 : i.zero = some z) (h4 : i.size = size)
    (kl kc : IntKind) (L C : Int) (n : Nat) (hl : a.eval l = .int kl L) (hc : a.eval c = .int kc C) (hL : L = (n : Int)) (hC : C = (n : Int)) (b2 : i.bytes * n ≤ 281474976710656) (b3 : n ≤ maxLen) (b4 : base ≤ w.heap.size)
    (hK : ∀ w', w'.ownsRow base e size (.slice (some ⟨w.heap.size, 0, none⟩) n n) n (madeCells z.cells (n * size)).toList → w.grownBy w' none → K (a.put o.dst (.slice (some ⟨w.heap.size, 0, none⟩) n n)) w') :
    if Region.wanted o (yielded ops a.tmps) = true then Oper.wp P o a w K Q else EE := by
  have hw : Region.wanted o (yielded ops a.tmps) = true := by simp [Region.wanted, hg]
  rw [if_pos hw]
  obtain ⟨w', hrun, r1, r2⟩ := run_make_full (P := P) w base t e i z size h1 h2 h3 h4 kl kc n b2 b3 b4
  subst hL
  subst hC
  unfold Oper.wp
  simp [execOp, hop, hl, hc, hrun, Result.andThen, Oper.upon]
  first | exact hK w' r1 r2 | exact .inl (hK w' r1 r2)
theorem neq_mark19 (x y : Id) (w : World) : (binOp .neq 40 (idv x) (idv y)).run Try.prog w = .ok (.bool (decide (x ≠ y))) w := by
  go_simp
  by_cases h0 : x.n = y.n <;> by_cases h1 : x.i = y.i <;> by_cases h2 : x.s = y.s <;> simp [id_ext, h0, h1, h2]
set_option maxRecDepth 100000 in
set_option maxHeartbeats 8000000 in
theorem sforg_any (nodes : Int) (mem : Nat) (l : List TdV) (thn : List Id) (a : Nat) (xi xs : Int) (A B : Option Addr) (ca cb : Nat) (w : World) (hn : 0 ≤ nodes ∧ nodes ≤ 255) (hmem : mem ≤ 255) (hl : Rd tdc 3 w.heap.size w A l) (hlo : ∀ x ∈ l, x.ok w) (hll : l.length ≤ 9223372036854775807) (hb0 : Rd idc 3 w.heap.size w B thn) (hbo : ∀ x ∈ thn, x.ok) (hbl : thn.length ≤ 9223372036854775807) (hcb : thn.length ≤ cb) (hcm : cb ≤ maxLen) (hx : (⟨(a : Int), xi, xs⟩ : Id).ok) :
    Calls Try.prog 8 #[.int .u8 nodes, .int .u8 (mem : Int), .slice A l.length ca, .slice B thn.length cb, .agg #[.int .u8 (a : Int), .int .u16 xi, .int .u32 xs]] w fun e w' => e = .returned (.bool true) ∧ Below w.heap.size w w' := by
  obtain ⟨nn, hnn⟩ : ∃ nn : Nat, 1 + nodes % 12 = (nn : Int) := ⟨(1 + nodes % 12).toNat, by omega⟩
  have nn1 : 1 ≤ nn := by omega
  have nn12 : nn ≤ 12 := by omega
  have HLO := Lib.hid hlo
  have HXO := Lib.hid hx
  have HBO := Lib.hid hbo
  obtain ⟨⟨_, x1⟩, ⟨x2, x3⟩, x4, x5⟩ := hx
  simp only at x1 x2 x3 x4 x5
  have oX := Ob.new w #[.int .u8 (a : Int), .int .u16 xi, .int .u32 xs] 28
  have b0 := Gw.al (Below.refl w.heap.size w) (.cells #[.int .u8 (a : Int), .int .u16 xi, .int .u32 xs] 28)
  have HF1 := Lib.hid (fun W h => few_any l A ca 30 W h hll)
  have wmem : IntKind.i64.wrap (mem : Int) = (mem : Int) := IntWalk.i64_in _ (by omega)
  have tnn : ((nn : Int) != (nn : Int)) = false := by simp
  clear hlo hbo
  go_enter Try.func8, Try.ntmps8
  go_wp2_with fail
  refine (HF1.out _ (hl.up b0)).mono ?_
  rintro e w1 ⟨rfl, hb⟩
  replace b0 := Gw.call b0 hb
  replace oX := oX.call hb
  clear hb HF1 hn hnn
  have HFW := Lib.hid (fun (h : fewB l 30 = true) => of_decide_eq_true h)
  cases hf : fewB l 30
  · clear HFW
    go_wp2_with fail
    refine (awake_any _).mono ?_
    rintro e w9 ⟨rfl, hb⟩
    go_wp2_with fail
    go_ret
    exact ⟨rfl, Gw.call b0 hb⟩
  obtain ⟨hf40, hf30⟩ := HFW.out hf
  have HF40 := Lib.hid hf40
  clear HFW hf hf40 hll
  by_cases h40 : 40 < thn.length
  · have q1 : decide ((40 : Int) < (thn.length : Int)) = true := by simp; omega
    go_wp2_with fail
    refine (awake_any _).mono ?_
    rintro e w9 ⟨rfl, hb⟩
    go_wp2_with fail
    go_ret
    exact ⟨rfl, Gw.call b0 hb⟩
  have q1 : decide ((40 : Int) < (thn.length : Int)) = false := by simp; omega
  have HTD := Lib.hid (fun W h h2 => told_any nn l A ca W (by omega) h (by omega) h2 (fun x hx => by have := HF40.out x hx; omega))
  have HSH := Lib.hid (told_shape nn l l.length (Nat.le_refl _))
  have HFT := Lib.hid (forget_told nn mem l)
  rw [List.take_length] at HSH
  go_wp2_with fail
  refine (HTD.out _ (hl.up b0) (fun x hx => (HLO.out x hx).up b0)).mono ?_
  rintro e w2 ⟨A1, c1, rfl, rt, hb⟩
  replace b0 := Gw.call b0 hb
  replace oX := oX.call hb
  clear hb
  have TL : Hid ((toldL nn l).length = nn) := Lib.hid HSH.out.1
  have TR : Hid (∀ r ∈ toldL nn l, r.length = nn) := Lib.hid HSH.out.2
  clear HSH
  have HFG := Lib.hid (fun (A1 : Option Addr) (c1 : Nat) (t : List (List Id)) (W : World) (h1 : t.length = nn) (h2 : ∀ r ∈ t, r.length = nn) h => forget_any t A1 c1 nn (mem : Int) W h1 h (by omega) (fun r hr => by rw [h2 r hr]; omega) (by omega))
  simp only [Int.toNat_natCast] at HFG
  go_wp2_with fail
  refine (HFG.out A1 c1 _ _ TL.out TR.out rt).mono ?_
  rintro e w3 ⟨A2, c2, rfl, xu, hb⟩
  have ru := xu.rd
  replace b0 := Gw.call b0 hb
  replace oX := oX.call hb
  replace rt := rt.up hb
  clear hb xu
  go_wp2_with fail
  refine (HTD.out _ (hl.up b0) (fun x hx => (HLO.out x hx).up b0)).mono ?_
  rintro e w4 ⟨A3, c3, rfl, r3, hb⟩
  replace b0 := Gw.call b0 hb
  replace oX := oX.call hb
  replace rt := rt.up hb
  replace ru := ru.up hb
  clear hb
  have CSM := Lib.hid (fun (A1 A2 : Option Addr) (c1 c2 : Nat) (t : List (List Id)) (W : World) (h1 : t.length = nn) (h2 : ∀ r ∈ t, r.length = nn) h3 h4 => (show decide (t = t) = true by simp) ▸ same_any t t A1 A2 c1 c2 nn nn W h1 h1 h3 h4 (fun r hr => by rw [h2 r hr]; omega) (fun r hr => by rw [h2 r hr]; omega) (by omega) (by omega))
  go_wp2_with fail
  refine (CSM.out A1 A3 c1 c3 _ _ TL.out TR.out rt r3).mono ?_
  rintro e w5 ⟨rfl, hb⟩
  replace b0 := Gw.call b0 hb
  replace oX := oX.call hb
  replace rt := rt.up hb
  replace ru := ru.up hb
  clear hb r3
  have UL : Hid ((forgetL (toldL nn l) mem).length = nn) := Lib.hid (by rw [forget_len]; exact TL.out)
  have UR : Hid (∀ r ∈ forgetL (toldL nn l) mem, r.length = nn) := Lib.hid (by
    rw [HFT.out]
    have h := (told_shape nn (l.filter fun x => decide (¬x.m.toNat = mem)) _ (Nat.le_refl _)).2
    rwa [List.take_length] at h)
  have OFU : Hid (∀ i k, ofL (forgetL (toldL nn l) mem) i k = if i = mem then (if mem < nn then ⟨(k : Int), 0, 0⟩ else ofL (toldL nn l) i k) else ofL (toldL nn l) i k) := Lib.hid (fun i k => by rw [of_forget, of_blank1, TL.out])
  have UT : Hid (nn ≤ mem → forgetL (toldL nn l) mem = toldL nn l) := Lib.hid (fun h => by unfold forgetL; rw [if_neg (by rw [TL.out]; omega)])
  have UE : Hid (reportL (forgetL (toldL nn l) mem) mem thn = toldL nn ((l.filter fun x => decide (¬x.m.toNat = mem)) ++ [⟨(mem : Int), B, thn, cb, false⟩])) := Lib.hid (by rw [toldL_snoc, HFT.out]; rfl)
  have UF : Hid (forgetL (reportL (forgetL (toldL nn l) mem) mem thn) mem = forgetL (forgetL (toldL nn l) mem) mem) := Lib.hid forget_report_same
  clear HFT
  obtain ⟨U, hU⟩ : ∃ U, U = forgetL (toldL nn l) mem := ⟨_, rfl⟩
  rw [← hU] at ru UL UR OFU UT UE UF
  clear hU
  obtain ⟨T, hT⟩ : ∃ T, T = toldL nn l := ⟨_, rfl⟩
  rw [← hT] at rt TL TR OFU UT
  clear hT
  go_wp2_with fail
  go_loopw [61] (fun iv wr => ∃ i : Nat, i ≤ nn ∧ iv = .int .i64 i ∧ Below w5.heap.size w5 wr) (fun iv _ => nn - (intOf iv).toNat)
  case atStart => exact ⟨0, Nat.zero_le _, rfl, Below.refl _ _⟩
  case round =>
    obtain ⟨i, hi, rfl, bl⟩ := hrel
    by_cases hil : i < nn
    · have ii : (i : Int) < (nn : Int) := by omega
      go_wp2_with fail
      go_loopw [65] (fun kv wr => ∃ k : Nat, k ≤ nn ∧ kv = .int .i64 k ∧ Below w5.heap.size w5 wr) (fun kv _ => nn - (intOf kv).toNat)
      case atStart => exact ⟨0, Nat.zero_le _, rfl, bl⟩
      case round =>
        clear bl
        obtain ⟨k, hk, rfl, bl⟩ := hrel
        by_cases hkl : k < nn
        · have ki : (k : Int) < (nn : Int) := by omega
          have wi : IntKind.u8.wrap (i : Int) = (i : Int) := IntWalk.u8_in _ (by omega)
          have wk : IntKind.u8.wrap (k : Int) = (k : Int) := IntWalk.u8_in _ (by omega)
          have hof := OFU.out i k
          go_wp2_with fail
          refine (of_any T A1 c1 nn i k _ TL.out (rt.up bl) (by omega) (by omega)).mono ?_
          rintro e w6 ⟨rfl, hb⟩
          have b6 := Gw.call bl hb
          clear hb bl
          obtain ⟨o, ho⟩ : ∃ o, o = ofL T i k := ⟨_, rfl⟩
          rw [← ho] at hof ⊢
          clear ho
          by_cases him : i = mem
          · rw [if_pos him, if_pos (by omega)] at hof
            have z3 : ((i : Int) == (mem : Int)) = true := by rw [beq_iff_eq]; omega
            clear him
            go_upto_region 17 with fail
            have G := Ob.new w6 #[.int .u8 (k : Int), .int .u16 0, .int .u32 0] 40
            have bx := Gw.al b6 (.cells #[.int .u8 (k : Int), .int .u16 0, .int .u32 0] 40)
            generalize hwq : w6.alloc (.cells #[.int .u8 (k : Int), .int .u16 0, .int .u32 0] 40) = wq at *
            generalize hgb : w6.heap.size = gb at *
            clear hwq hgb b6
            have bq := Below.refl wq.heap.size wq
            have HB : Hid (∀ W, Below wq.heap.size wq W → (fun W : World => W.cell? ⟨gb, 0, none⟩ = some (.int .u8 (k : Int)) ∧ W.cell? ⟨gb, 1, none⟩ = some (.int .u16 0) ∧ W.cell? ⟨gb, 2, none⟩ = some (.int .u32 0)) W) := Lib.hid fun W hb => ⟨(G.call hb).blk.2.1 0 _ rfl, (G.call hb).blk.2.1 1 _ rfl, (G.call hb).blk.2.1 2 _ rfl⟩
            have CO := Lib.hid (fun W h => hof ▸ of_any U A2 c2 nn i k W UL.out h (by omega) (by omega))
            have hnm := neq_mark19 (⟨(k : Int), 0, 0⟩ : Id) (⟨(k : Int), 0, 0⟩ : Id)
            rw [show decide ((⟨(k : Int), 0, 0⟩ : Id) ≠ (⟨(k : Int), 0, 0⟩ : Id)) = false by simp] at hnm
            clear hof
            refine wp_region_held_drew (S := fun W : World => W.cell? ⟨gb, 0, none⟩ = some (.int .u8 (k : Int)) ∧ W.cell? ⟨gb, 1, none⟩ = some (.int .u16 0) ∧ W.cell? ⟨gb, 2, none⟩ = some (.int .u32 0)) (by kernel_rfl) (HB.out _ (Below.drew bq)) (fun hHeld => ?_)
            refine take_d (i := 0) (oi := _) (v := ?_) (d := some 81) rfl (by kernel_rfl) (by as_aux_lemma => kernel_rfl) (by as_aux_lemma => kernel_rfl) (by as_aux_lemma => kernel_rfl) (fun _ _ _ h => h) (Or.inl ⟨by kernel_rfl, ?_⟩) hHeld ?_
            rotate_left
            · intro w hSw; (try dsimp only at hSw); go_simp; (try with_reducible rfl)
            try simp only [Act.put, List.setIfInBounds_toArray, List.set_cons_zero, List.set_cons_succ]
            refine take_d (i := 1) (oi := _) (v := ?_) (d := some 82) rfl (by kernel_rfl) (by as_aux_lemma => kernel_rfl) (by as_aux_lemma => kernel_rfl) (by as_aux_lemma => kernel_rfl) (fun _ _ _ h => h) (Or.inl ⟨by kernel_rfl, ?_⟩) hHeld ?_
            rotate_left
            · intro w hSw; (try dsimp only at hSw); go_simp; (try with_reducible rfl)
            try simp only [Act.put, List.setIfInBounds_toArray, List.set_cons_zero, List.set_cons_succ]
            refine take_d (i := 2) (oi := _) (v := ?_) (d := some 83) rfl (by kernel_rfl) (by as_aux_lemma => kernel_rfl) (by as_aux_lemma => kernel_rfl) (by as_aux_lemma => kernel_rfl) (fun _ _ _ h => h) (Or.inl ⟨by kernel_rfl, ?_⟩) hHeld ?_
            rotate_left
            · intro w hSw; (try dsimp only at hSw); go_simp; (try with_reducible rfl)
            try simp only [Act.put, List.setIfInBounds_toArray, List.set_cons_zero, List.set_cons_succ]
            refine take_d (i := 3) (oi := _) (v := ?_) (d := some 84) rfl (by kernel_rfl) (by as_aux_lemma => kernel_rfl) (by as_aux_lemma => kernel_rfl) (by as_aux_lemma => kernel_rfl) (fun _ _ _ h => h) (Or.inl ⟨by kernel_rfl, ?_⟩) hHeld ?_
            rotate_left
            · intro w hSw; (try dsimp only at hSw); go_simp; (try with_reducible rfl)
            try simp only [Act.put, List.setIfInBounds_toArray, List.set_cons_zero, List.set_cons_succ]
            refine take_d (i := 4) (oi := _) (v := ?_) (d := some 85) rfl (by kernel_rfl) (by as_aux_lemma => kernel_rfl) (by as_aux_lemma => kernel_rfl) (by as_aux_lemma => kernel_rfl) (fun _ _ _ h => h) (Or.inl ⟨by kernel_rfl, ?_⟩) hHeld ?_
            rotate_left
            · intro w hSw; (try dsimp only at hSw); go_simp; (try with_reducible rfl)
            try simp only [Act.put, List.setIfInBounds_toArray, List.set_cons_zero, List.set_cons_succ]
            refine take_d (i := 6) (oi := _) (v := ?_) (d := some 87) rfl (by kernel_rfl) (by as_aux_lemma => kernel_rfl) (by as_aux_lemma => kernel_rfl) (by as_aux_lemma => kernel_rfl) (fun _ _ _ h => h) (Or.inl ⟨by kernel_rfl, ?_⟩) hHeld ?_
            rotate_left
            · intro w hSw; (try dsimp only at hSw); go_simp; (try with_reducible rfl)
            try simp only [Act.put, List.setIfInBounds_toArray, List.set_cons_zero, List.set_cons_succ]
            refine wpAnyH_ready (rs := [5]) (by kernel_rfl) (by simp) ?_
            refine AllReadyH.cons rfl (fun K hK => ?_) AllReadyH.nil
            go_simp
            refine (CO.out _ (ru.up (Gw.call bx (by first | exact bq | exact Below.drew bq)))).mono ?_
            rintro e u1 ⟨rfl, hb⟩
            replace bq := (by first | exact Gw.call bq hb | exact Gw.call (Below.drew bq) hb)
            clear hb
            dsimp only
            refine hK.out _ _ (HB.out _ bq) (fun hHeld => ?_)
            clear hK K
            try simp only [Act.put, List.setIfInBounds_toArray, List.set_cons_zero, List.set_cons_succ]
            refine take_d (i := 7) (oi := _) (v := .bool false) (d := some 88) rfl (by kernel_rfl) (by as_aux_lemma => kernel_rfl) (by as_aux_lemma => kernel_rfl) (by as_aux_lemma => kernel_rfl) (fun _ _ _ h => h) (Or.inl ⟨by kernel_rfl, ?_⟩) hHeld ?_
            · intro W hSw
              go_simp; first | done | simp [hnm]
            try simp only [Act.put, List.setIfInBounds_toArray, List.set_cons_zero, List.set_cons_succ]
            refine wpAnyH_done (by kernel_rfl) ?_ _
            clear hHeld HB CO hnm G
            go_wp2_with fail
            go_roundw
            case rel => exact ⟨k + 1, hkl, by go_num, Gw.call bx bq⟩
            case measure => simp [intOf]; omega
          · rw [if_neg him] at hof
            have z3 : ((i : Int) == (mem : Int)) = false := by rw [beq_eq_false_iff_ne]; omega
            clear him
            go_upto_region 17 with fail
            have G := Ob.new w6 #[.int .u8 o.n, .int .u16 o.i, .int .u32 o.s] 40
            have bx := Gw.al b6 (.cells #[.int .u8 o.n, .int .u16 o.i, .int .u32 o.s] 40)
            generalize hwq : w6.alloc (.cells #[.int .u8 o.n, .int .u16 o.i, .int .u32 o.s] 40) = wq at *
            generalize hgb : w6.heap.size = gb at *
            clear hwq hgb b6
            have bq := Below.refl wq.heap.size wq
            have HB : Hid (∀ W, Below wq.heap.size wq W → (fun W : World => W.cell? ⟨gb, 0, none⟩ = some (.int .u8 o.n) ∧ W.cell? ⟨gb, 1, none⟩ = some (.int .u16 o.i) ∧ W.cell? ⟨gb, 2, none⟩ = some (.int .u32 o.s)) W) := Lib.hid fun W hb => ⟨(G.call hb).blk.2.1 0 _ rfl, (G.call hb).blk.2.1 1 _ rfl, (G.call hb).blk.2.1 2 _ rfl⟩
            have CO := Lib.hid (fun W h => hof ▸ of_any U A2 c2 nn i k W UL.out h (by omega) (by omega))
            have hnm := neq_mark19 o o
            rw [show decide (o ≠ o) = false by simp] at hnm
            clear hof
            refine wp_region_held_drew (S := fun W : World => W.cell? ⟨gb, 0, none⟩ = some (.int .u8 o.n) ∧ W.cell? ⟨gb, 1, none⟩ = some (.int .u16 o.i) ∧ W.cell? ⟨gb, 2, none⟩ = some (.int .u32 o.s)) (by kernel_rfl) (HB.out _ (Below.drew bq)) (fun hHeld => ?_)
            refine take_d (i := 0) (oi := _) (v := ?_) (d := some 81) rfl (by kernel_rfl) (by as_aux_lemma => kernel_rfl) (by as_aux_lemma => kernel_rfl) (by as_aux_lemma => kernel_rfl) (fun _ _ _ h => h) (Or.inl ⟨by kernel_rfl, ?_⟩) hHeld ?_
            rotate_left
            · intro w hSw; (try dsimp only at hSw); go_simp; (try with_reducible rfl)
            try simp only [Act.put, List.setIfInBounds_toArray, List.set_cons_zero, List.set_cons_succ]
            refine take_d (i := 1) (oi := _) (v := ?_) (d := some 82) rfl (by kernel_rfl) (by as_aux_lemma => kernel_rfl) (by as_aux_lemma => kernel_rfl) (by as_aux_lemma => kernel_rfl) (fun _ _ _ h => h) (Or.inl ⟨by kernel_rfl, ?_⟩) hHeld ?_
            rotate_left
            · intro w hSw; (try dsimp only at hSw); go_simp; (try with_reducible rfl)
            try simp only [Act.put, List.setIfInBounds_toArray, List.set_cons_zero, List.set_cons_succ]
            refine take_d (i := 2) (oi := _) (v := ?_) (d := some 83) rfl (by kernel_rfl) (by as_aux_lemma => kernel_rfl) (by as_aux_lemma => kernel_rfl) (by as_aux_lemma => kernel_rfl) (fun _ _ _ h => h) (Or.inl ⟨by kernel_rfl, ?_⟩) hHeld ?_
            rotate_left
            · intro w hSw; (try dsimp only at hSw); go_simp; (try with_reducible rfl)
            try simp only [Act.put, List.setIfInBounds_toArray, List.set_cons_zero, List.set_cons_succ]
            refine take_d (i := 3) (oi := _) (v := ?_) (d := some 84) rfl (by kernel_rfl) (by as_aux_lemma => kernel_rfl) (by as_aux_lemma => kernel_rfl) (by as_aux_lemma => kernel_rfl) (fun _ _ _ h => h) (Or.inl ⟨by kernel_rfl, ?_⟩) hHeld ?_
            rotate_left
            · intro w hSw; (try dsimp only at hSw); go_simp; (try with_reducible rfl)
            try simp only [Act.put, List.setIfInBounds_toArray, List.set_cons_zero, List.set_cons_succ]
            refine take_d (i := 4) (oi := _) (v := ?_) (d := some 85) rfl (by kernel_rfl) (by as_aux_lemma => kernel_rfl) (by as_aux_lemma => kernel_rfl) (by as_aux_lemma => kernel_rfl) (fun _ _ _ h => h) (Or.inl ⟨by kernel_rfl, ?_⟩) hHeld ?_
            rotate_left
            · intro w hSw; (try dsimp only at hSw); go_simp; (try with_reducible rfl)
            try simp only [Act.put, List.setIfInBounds_toArray, List.set_cons_zero, List.set_cons_succ]
            refine take_d (i := 6) (oi := _) (v := ?_) (d := some 87) rfl (by kernel_rfl) (by as_aux_lemma => kernel_rfl) (by as_aux_lemma => kernel_rfl) (by as_aux_lemma => kernel_rfl) (fun _ _ _ h => h) (Or.inl ⟨by kernel_rfl, ?_⟩) hHeld ?_
            rotate_left
            · intro w hSw; (try dsimp only at hSw); go_simp; (try with_reducible rfl)
            try simp only [Act.put, List.setIfInBounds_toArray, List.set_cons_zero, List.set_cons_succ]
            refine wpAnyH_ready (rs := [5]) (by kernel_rfl) (by simp) ?_
            refine AllReadyH.cons rfl (fun K hK => ?_) AllReadyH.nil
            go_simp
            refine (CO.out _ (ru.up (Gw.call bx (by first | exact bq | exact Below.drew bq)))).mono ?_
            rintro e u1 ⟨rfl, hb⟩
            replace bq := (by first | exact Gw.call bq hb | exact Gw.call (Below.drew bq) hb)
            clear hb
            dsimp only
            refine hK.out _ _ (HB.out _ bq) (fun hHeld => ?_)
            clear hK K
            try simp only [Act.put, List.setIfInBounds_toArray, List.set_cons_zero, List.set_cons_succ]
            refine take_d (i := 7) (oi := _) (v := .bool false) (d := some 88) rfl (by kernel_rfl) (by as_aux_lemma => kernel_rfl) (by as_aux_lemma => kernel_rfl) (by as_aux_lemma => kernel_rfl) (fun _ _ _ h => h) (Or.inl ⟨by kernel_rfl, ?_⟩) hHeld ?_
            · intro W hSw
              go_simp; first | done | simp [hnm]
            try simp only [Act.put, List.setIfInBounds_toArray, List.set_cons_zero, List.set_cons_succ]
            refine wpAnyH_done (by kernel_rfl) ?_ _
            clear hHeld HB CO hnm G
            go_wp2_with fail
            go_roundw
            case rel => exact ⟨k + 1, hkl, by go_num, Gw.call bx bq⟩
            case measure => simp [intOf]; omega
        · obtain rfl : k = nn := by omega
          go_wp2_with fail
          go_roundw
          case rel => exact ⟨i + 1, hil, by go_num, bl⟩
          case measure => simp [intOf]; omega
    · obtain rfl : i = nn := by omega
      replace rt := rt.up bl
      replace ru := ru.up bl
      replace oX := oX.call bl
      replace b0 := Gw.call b0 bl
      clear bl
      have k1 := oX.blk.2.1 1 _ rfl
      have k0 := oX.blk.2.1 0 _ rfl
      by_cases hmn : i ≤ mem
      · have q2 : decide ((i : Int) ≤ (mem : Int)) = true := by simp; omega
        have q2n : decide (i ≤ mem) = true := by simp; omega
        have hUT := UT.out hmn
        subst hUT
        clear hmn
        go_wp2_with fail
        refine (CSM.out A2 A1 c2 c1 _ _ TL.out TR.out ru rt).mono ?_
        rintro e w6 ⟨rfl, hb⟩
        replace b0 := Gw.call b0 hb
        clear hb
        go_wp2_with fail
        refine (awake_any _).mono ?_
        rintro e w9 ⟨rfl, hb⟩
        go_wp2_with fail
        go_ret
        exact ⟨rfl, Gw.call b0 hb⟩
      have q2 : decide ((i : Int) ≤ (mem : Int)) = false := by simp; omega
      have q2n : decide (i ≤ mem) = false := by simp; omega
      have hmi : mem < i := by omega
      have memi : (mem : Int) < (i : Int) := by omega
      have wa : IntKind.i64.wrap (a : Int) = (a : Int) := IntWalk.i64_in _ (by omega)
      clear hmn
      go_upto_region 23 with fail
      go_cut [110] (fun v wx => (v = .bool true ∧ Hid (0 < xi ∧ a < i) ∨ v = .bool false) ∧ wx = wr)
      case first =>
        by_cases h1 : 0 < xi
        · have p1 : decide (0 < xi) = true := by simp [h1]
          by_cases h2 : a < i
          · have p2 : decide ((a : Int) < (i : Int)) = true := by simp; omega
            have p2n : decide (a < i) = true := by simp; omega
            have hh := Lib.hid (And.intro h1 h2)
            clear h1 h2
            go_wp2_with fail
            go_meet
            exact ⟨.inl ⟨rfl, hh⟩, rfl⟩
          · have p2 : decide ((a : Int) < (i : Int)) = false := by simp; omega
            have p2n : decide (a < i) = false := by simp; omega
            clear h1 h2
            go_wp2_with fail
            go_meet
            exact ⟨.inr rfl, rfl⟩
        · have p1 : decide (0 < xi) = false := by simp; omega
          clear h1
          go_wp2_with fail
          go_meet
          exact ⟨.inr rfl, rfl⟩
      case rest =>
        obtain ⟨hv, hwx⟩ := hcut
        subst hwx
        clear k0 k1
        go_upto_if 110 with fail
        go_cut [17] (fun _ wx => Below wc.heap.size wc wx)
        case first =>
          rcases hv with ⟨rfl, hxa⟩ | rfl
          · obtain ⟨i1, hi1, hy0, hy1, hy2⟩ := info_parts Try.infoMem
            obtain ⟨i0, hi0, hz0, hz1, hz2⟩ := info_parts Try.infoRow19
            go_upto_region 25 with (first | (at_make; refine wpList_make_full _ rfl _ _ 23 rfl wc.heap.size 39 i1 _ 3 Try.underlying23 hi1 hy0 hy1 _ _ _ _ i rfl rfl rfl rfl (by rw [hy2]; omega) (by unfold maxLen; omega) (Nat.le_refl _) ?_; intro w7 hown7 hg7) | fail)
            have o7 : Own memc 3 39 wc.heap.size w7 (.slice (some ⟨wc.heap.size, 0, none⟩) i i) (List.replicate i ⟨0, 0, 0⟩) := by unfold Own; rw [List.length_replicate]; show World.ownsRow _ _ _ _ _ _ ((List.replicate i (⟨0, 0, 0⟩ : Mb)).flatMap memc); rw [zeroes_mb]; exact hown7
            have b7 := Gw.none_ hg7
            have hat : (List.replicate i (⟨0, 0, 0⟩ : Mb))[mem]? = some ⟨0, 0, 0⟩ := by rw [List.getElem?_replicate, if_pos hmi]
            have f7 := fun j => Own.free o7 j
            have e0 := Own.at_ memc_len o7 hat (j := 0) rfl
            have e1 := Own.at_ memc_len o7 hat (j := 1) rfl
            have e2 := Own.at_ memc_len o7 hat (j := 2) rfl
            rw [Nat.add_zero] at e0
            have o8 := own_put_mem o7 hat ⟨1, 1, 0⟩
            have b8 := Gw.st (Gw.st (Gw.st b7 (p := ⟨wc.heap.size, mem * 3, none⟩) (Nat.le_refl _) (.int .u16 1)) (p := ⟨wc.heap.size, mem * 3 + 1, none⟩) (Nat.le_refl _) (.int .u8 1)) (p := ⟨wc.heap.size, mem * 3 + 2, none⟩) (Nat.le_refl _) (.int .u8 0)
            clear hown7 hg7
            go_upto_region 26 with fail
            clear e0 e1 e2 f7 o7 b7 hat
            generalize ((w7.setCell ⟨wc.heap.size, mem * 3, none⟩ (.int .u16 1)).setCell ⟨wc.heap.size, mem * 3 + 1, none⟩ (.int .u8 1)).setCell ⟨wc.heap.size, mem * 3 + 2, none⟩ (.int .u8 0) = w8 at *
            have oX8 := oX.call b8
            have ru8 := ru.up b8
            obtain ⟨hx0, hxa2⟩ := hxa.out
            have wm1 : IntKind.u8.wrap ((mem : Int) + 1) = (mem : Int) + 1 := IntWalk.u8_in _ (by omega)
            have PB : Hid (stableB U ((List.replicate i (⟨0, 0, 0⟩ : Mb)).set mem ⟨1, 1, 0⟩) ((mem : Int) + 1) (List.replicate i (⟨0, 0, 0⟩ : Rw)) ⟨(a : Int), xi, xs⟩ = false) := Lib.hid (stable_lag (k := mem) (mb := ⟨1, 1, 0⟩) (r := ⟨0, 0, 0⟩) (by simp [hxa2]) (List.getElem?_set_self (by simpa using hmi)) (by
              unfold lagB
              rw [if_neg (by simp), if_neg (by omega)]
              simp only [Int.toNat_natCast, OFU.out, if_pos, if_pos hmi]
              simp only [passedB, Bool.not_eq_true', decide_eq_false_iff_not]
              omega))
            have CST := Lib.hid (fun (C B : Option Addr) (cc cb : Nat) (W : World) h1 h2 h3 => PB.out ▸ stable_any U ((List.replicate i (⟨0, 0, 0⟩ : Mb)).set mem ⟨1, 1, 0⟩) ((mem : Int) + 1) (List.replicate i (⟨0, 0, 0⟩ : Rw)) ⟨(a : Int), xi, xs⟩ A2 C B c2 cc cb i i i W UL.out (by simp) (by simp) h1 h2 h3 (by omega) HXO.out (by omega) (by omega))
            have bq := Below.refl w8.heap.size w8
            have HB : Hid (∀ W, Below w8.heap.size w8 W → (fun W : World => W.cell? ⟨w.heap.size, 0, none⟩ = some (.int .u8 (a : Int)) ∧ W.cell? ⟨w.heap.size, 1, none⟩ = some (.int .u16 xi) ∧ W.cell? ⟨w.heap.size, 2, none⟩ = some (.int .u32 xs)) W) := Lib.hid fun W hb => ⟨(oX8.call hb).blk.2.1 0 _ rfl, (oX8.call hb).blk.2.1 1 _ rfl, (oX8.call hb).blk.2.1 2 _ rfl⟩
            refine wp_region_held_drew (S := fun W : World => W.cell? ⟨w.heap.size, 0, none⟩ = some (.int .u8 (a : Int)) ∧ W.cell? ⟨w.heap.size, 1, none⟩ = some (.int .u16 xi) ∧ W.cell? ⟨w.heap.size, 2, none⟩ = some (.int .u32 xs)) (by kernel_rfl) (HB.out _ (Below.drew bq)) (fun hHeld => ?_)
            refine take_d (i := 0) (oi := _) (v := ?_) (d := some 117) rfl (by kernel_rfl) (by as_aux_lemma => kernel_rfl) (by as_aux_lemma => kernel_rfl) (by as_aux_lemma => kernel_rfl) (fun _ _ _ h => h) (Or.inl ⟨by kernel_rfl, ?_⟩) hHeld ?_
            rotate_left
            · intro w hSw; (try dsimp only at hSw); go_simp; (try with_reducible rfl)
            try simp only [Act.put, List.setIfInBounds_toArray, List.set_cons_zero, List.set_cons_succ]
            refine take_d (i := 1) (oi := _) (v := ?_) (d := some 118) rfl (by kernel_rfl) (by as_aux_lemma => kernel_rfl) (by as_aux_lemma => kernel_rfl) (by as_aux_lemma => kernel_rfl) (fun _ _ _ h => h) (Or.inl ⟨by kernel_rfl, ?_⟩) hHeld ?_
            rotate_left
            · intro w hSw; (try dsimp only at hSw); go_simp; (try with_reducible rfl)
            try simp only [Act.put, List.setIfInBounds_toArray, List.set_cons_zero, List.set_cons_succ]
            refine take_d (i := 2) (oi := _) (v := ?_) (d := some 119) rfl (by kernel_rfl) (by as_aux_lemma => kernel_rfl) (by as_aux_lemma => kernel_rfl) (by as_aux_lemma => kernel_rfl) (fun _ _ _ h => h) (Or.inl ⟨by kernel_rfl, ?_⟩) hHeld ?_
            rotate_left
            · intro w hSw; (try dsimp only at hSw); go_simp; (try with_reducible rfl)
            try simp only [Act.put, List.setIfInBounds_toArray, List.set_cons_zero, List.set_cons_succ]
            refine take_d (i := 3) (oi := _) (v := ?_) (d := some 120) rfl (by kernel_rfl) (by as_aux_lemma => kernel_rfl) (by as_aux_lemma => kernel_rfl) (by as_aux_lemma => kernel_rfl) (fun _ _ _ h => h) (Or.inl ⟨by kernel_rfl, ?_⟩) hHeld ?_
            rotate_left
            · intro w hSw; (try dsimp only at hSw); go_simp; (try with_reducible rfl)
            try simp only [Act.put, List.setIfInBounds_toArray, List.set_cons_zero, List.set_cons_succ]
            refine take_d (i := 4) (oi := _) (v := ?_) (d := some 121) rfl (by kernel_rfl) (by as_aux_lemma => kernel_rfl) (by as_aux_lemma => kernel_rfl) (by as_aux_lemma => kernel_rfl) (fun _ _ _ h => h) (Or.inl ⟨by kernel_rfl, ?_⟩) hHeld ?_
            rotate_left
            · intro w hSw; (try dsimp only at hSw); go_simp; (try with_reducible rfl)
            try simp only [Act.put, List.setIfInBounds_toArray, List.set_cons_zero, List.set_cons_succ]
            refine take_d (i := 6) (oi := _) (v := ?_) (d := some 123) rfl (by kernel_rfl) (by as_aux_lemma => kernel_rfl) (by as_aux_lemma => kernel_rfl) (by as_aux_lemma => kernel_rfl) (fun _ _ _ h => h) (Or.inl ⟨by kernel_rfl, ?_⟩) hHeld ?_
            rotate_left
            · intro w hSw; (try dsimp only at hSw); go_simp; (try with_reducible rfl)
            try simp only [Act.put, List.setIfInBounds_toArray, List.set_cons_zero, List.set_cons_succ]
            refine wpAnyH_ready (rs := [5]) (by kernel_rfl) (by simp) ?_
            refine AllReadyH.cons rfl (fun K hK => ?_) AllReadyH.nil
            refine step_make rfl _ _ _ rfl w8.heap.size 44 i0 _ 3 Try.underlying24 hi0 hz0 hz1 _ _ _ _ i rfl rfl rfl rfl (by rw [hz2]; omega) (by unfold maxLen; omega) (Nat.le_refl _) ?_
            intro w10 hown10 hg10
            have oR : Own rowc 3 44 w8.heap.size w10 (.slice (some ⟨w8.heap.size, 0, none⟩) i i) (List.replicate i ⟨0, 0, 0⟩) := by unfold Own; rw [List.length_replicate]; show World.ownsRow _ _ _ _ _ _ ((List.replicate i (⟨0, 0, 0⟩ : Rw)).flatMap rowc); rw [zeroes_row]; exact hown10
            replace bq := Gw.call (Below.drew bq) (Gw.none_ hg10)
            clear hown10 hg10
            refine hK.out _ _ (HB.out _ bq) (fun hHeld => ?_)
            clear hK K
            try simp only [Act.put, List.setIfInBounds_toArray, List.set_cons_zero, List.set_cons_succ]
            refine wpAnyH_ready (rs := [7]) (by kernel_rfl) (by simp) ?_
            refine AllReadyH.cons rfl (fun K hK => ?_) AllReadyH.nil
            go_simp
            refine (CST.out _ _ _ _ _ (ru8.up bq) ((o8.rd memc_len).up bq) (oR.rd rowc_len)).mono ?_
            rintro e w11 ⟨rfl, hb⟩
            replace bq := Gw.call bq hb
            clear hb
            dsimp only
            refine hK.out _ _ (HB.out _ bq) (fun hHeld => ?_)
            clear hK K
            try simp only [Act.put, List.setIfInBounds_toArray, List.set_cons_zero, List.set_cons_succ]
            refine wpAnyH_done (by kernel_rfl) ?_ _
            go_wp2_with fail
            go_meet
            exact Gw.call b8 bq
          · go_wp2_with fail
            go_meet
            exact Below.refl _ _
        case rest =>
          have bc := hcut
          replace oX := oX.call bc
          replace rt := rt.up bc
          replace ru := ru.up bc
          replace b0 := Gw.call b0 bc
          clear hv bc hcut
          obtain ⟨i2, hi2, hv0, hv1, hv2⟩ := info_parts Try.infoTd
          have hll : l.length ≤ 30 := by omega
          go_wp2_with fail
          go_loopw [18, 127] (fun t jv wr => ∃ (j : Nat) (A6 : Option Addr) (c6 : Nat), j ≤ l.length ∧ jv = .int .i64 j ∧ t = .slice A6 (flt mem l j).length c6 ∧ Own tdc 3 31 wc.heap.size wr (.slice A6 (flt mem l j).length c6) (flt mem l j) ∧ Below wc.heap.size wc wr) (fun _ jv _ => l.length - (intOf jv).toNat)
          case atStart => exact ⟨0, none, 0, Nat.zero_le _, rfl, by simp [flt], by simpa [flt] using Own.nil_, Below.refl _ _⟩
          case round =>
            obtain ⟨j, A6, c6, hj, rfl, rfl, o6, bl⟩ := hrel
            have hfl := flt_len mem l j
            by_cases hjl : j < l.length
            · obtain ⟨x, hx⟩ : ∃ x, l[j]? = some x := ⟨_, List.getElem?_eq_getElem hjl⟩
              obtain ⟨⟨xm0, xm1⟩, _⟩ := HLO.out x (List.mem_of_getElem? hx)
              obtain ⟨bm, om, rfl, hbm, hc⟩ := (hl.below (Gw.call b0 bl)).at_ hx
              have d0 : wr.cell? ⟨bm, om + j * 3, none⟩ = some (.int .u8 x.m) := hc 0 _ rfl
              have d1 : wr.cell? ⟨bm, om + j * 3 + 1, none⟩ = some (.slice x.A x.l.length x.cap) := hc 1 _ rfl
              have d2 : wr.cell? ⟨bm, om + j * 3 + 2, none⟩ = some (.bool x.f) := hc 2 _ rfl
              have ji : (j : Int) < (l.length : Int) := by omega
              have bx := Gw.al bl (.cells #[.int .u8 x.m, .slice x.A x.l.length x.cap, .bool x.f] 31)
              have ox := o6.alloc (.cells #[.int .u8 x.m, .slice x.A x.l.length x.cap, .bool x.f] 31)
              by_cases hxm : x.m = (mem : Int)
              · have z1 : (x.m != (mem : Int)) = false := by simp [hxm]
                have FN := Lib.hid (flt_no hx (show x.m.toNat = mem by omega))
                clear hx hxm hc
                go_wp2_with fail
                go_roundw
                case rel => exact ⟨j + 1, A6, c6, hjl, by go_num, by rw [FN.out], by rw [FN.out]; exact ox, bx⟩
                case measure => simp [intOf]; omega
              · have z1 : (x.m != (mem : Int)) = true := by simpa using hxm
                have FY := Lib.hid (flt_yes hx (show ¬x.m.toNat = mem by omega))
                have LT : Rd tdc 3 ((wr.alloc (.cells #[.int .u8 x.m, .slice x.A x.l.length x.cap, .bool x.f] 31)).alloc (.cells #[.int .u8 x.m, .slice x.A x.l.length x.cap, .bool x.f] 31)).heap.size ((wr.alloc (.cells #[.int .u8 x.m, .slice x.A x.l.length x.cap, .bool x.f] 31)).alloc (.cells #[.int .u8 x.m, .slice x.A x.l.length x.cap, .bool x.f] 31)) (some ⟨wr.heap.size + 1, 0, none⟩) [x] := by rw [World.size_alloc]; exact Rd.lit tdc_len _ _ (by rw [World.size_alloc]) _ _ _ rfl
                have ox2 := ox.alloc (.cells #[.int .u8 x.m, .slice x.A x.l.length x.cap, .bool x.f] 31)
                have bx2 := Gw.al bx (.cells #[.int .u8 x.m, .slice x.A x.l.length x.cap, .bool x.f] 31)
                clear hx hxm hc
                go_wp2_with (first | (at_builtin; refine wpList_app _ rfl _ _ 22 rfl wc.heap.size 31 i2 _ 40 Try.underlying22 hi2 hv0 hv1 hv2 rfl (by omega) tdc_len tdc_one _ (flt mem l j) rfl ox2 (flt mem l j).length rfl _ _ 1 1 [x] rfl rfl LT (by omega) (by omega) bx2.size ?_; intro A8 c8 w8 o8 hg) | fail)
                have b8 := Gw.gr bx2 hg ox2.lt
                go_roundw
                case rel => exact ⟨j + 1, A8, c8, hjl, by go_num, by rw [FY.out, List.length_append]; rfl, by rw [FY.out, List.length_append]; exact o8, b8⟩
                case measure => simp [intOf]; omega
            · obtain rfl : j = l.length := by omega
              have hfa : flt mem l l.length = l.filter fun x => decide (¬x.m.toNat = mem) := by unfold flt; rw [List.take_length]
              have UE2 := UE.out
              rw [← hfa] at UE2
              have HFM : Hid (∀ x ∈ flt mem l l.length, x ∈ l) := Lib.hid (fun x hx => by rw [hfa] at hx; exact (List.mem_filter.1 hx).1)
              have VL : Hid ((reportL U mem thn).length = i) := Lib.hid (by rw [reportL_len]; exact UL.out)
              have VR : Hid (∀ r ∈ reportL U mem thn, r.length = i) := Lib.hid (rep_rows UR.out)
              have HRP := Lib.hid (fun W h1 h2 => report_any U A2 c2 i (mem : Int) thn B cb W UL.out h1 (by omega) (fun r hr => by rw [UR.out r hr]; omega) (by omega) h2 (by omega) HBO.out)
              simp only [Int.toNat_natCast] at HRP
              have UE3 := Lib.hid UE2
              clear hfa UE2
              generalize hfg : flt mem l l.length = fl at *
              clear hfg
              go_wp2_with fail
              refine (HRP.out _ (ru.up bl) (hb0.up (Gw.call b0 bl))).mono ?_
              rintro e w8 ⟨A8, c8, rfl, xv, hb⟩
              have b8 := Gw.call bl hb
              have o8 := Own.below o6 hb
              have rv := xv.rd
              clear hb HRP o6 bl
              have LT : Rd tdc 3 (w8.alloc (.cells #[.int .u8 (mem : Int), .slice B thn.length cb, .bool false] 31)).heap.size (w8.alloc (.cells #[.int .u8 (mem : Int), .slice B thn.length cb, .bool false] 31)) (some ⟨w8.heap.size, 0, none⟩) [(⟨(mem : Int), B, thn, cb, false⟩ : TdV)] := by rw [World.size_alloc]; exact Rd.lit tdc_len _ _ rfl _ _ _ rfl
              have ox2 := o8.alloc (.cells #[.int .u8 (mem : Int), .slice B thn.length cb, .bool false] 31)
              have bx2 := Gw.al b8 (.cells #[.int .u8 (mem : Int), .slice B thn.length cb, .bool false] 31)
              have hx8 := Gw.al (Below.refl w8.heap.size w8) (.cells #[.int .u8 (mem : Int), .slice B thn.length cb, .bool false] 31)
              go_wp2_with (first | (at_builtin; refine wpList_app _ rfl _ _ 22 rfl wc.heap.size 31 i2 _ 40 Try.underlying22 hi2 hv0 hv1 hv2 rfl (by omega) tdc_len tdc_one _ fl rfl ox2 fl.length rfl _ _ 1 1 [(⟨(mem : Int), B, thn, cb, false⟩ : TdV)] rfl rfl LT (by omega) (by omega) bx2.size ?_; intro A9 c9 w9 o9 hg) | fail)
              have b9 := Gw.gr bx2 hg ox2.lt
              have xv9 := RepO.app (xv.keep hx8) ox2 (by decide) (by decide) hg
              have rv9 := xv9.rd
              have HT2 := Lib.hid (fun W h h2 => told_any i (fl ++ [(⟨(mem : Int), B, thn, cb, false⟩ : TdV)]) A9 c9 W (by omega) h (by simp; omega) h2 (fun x hx => by
                rcases List.mem_append.1 hx with hx | hx
                · have := HF40.out x (HFM.out x hx); omega
                · obtain rfl : x = ⟨(mem : Int), B, thn, cb, false⟩ := by simpa using hx
                  show thn.length ≤ 1000000
                  omega))
              rw [List.length_append, ← UE3.out] at HT2
              generalize reportL U mem thn = V at *
              replace b0 := Gw.call b0 b9
              replace ru := ru.up b9
              clear LT ox2 bx2 hx8 hg xv b8 o8 rv b9
              go_wp2_with fail
              refine (HT2.out _ (o9.rd tdc_len) (fun x hx => by
                rcases List.mem_append.1 hx with hx | hx
                · exact (HLO.out x (HFM.out x hx)).up b0
                · obtain rfl : x = ⟨(mem : Int), B, thn, cb, false⟩ := by simpa using hx
                  exact ⟨⟨by simp, by simp; omega⟩, hcb, hcm, hb0.up b0, HBO.out⟩)).mono ?_
              rintro e w10 ⟨A10, c10, rfl, r10, hb⟩
              replace b0 := Gw.call b0 hb
              replace ru := ru.up hb
              replace rv9 := rv9.up hb
              clear hb HT2 o9 xv9
              go_wp2_with fail
              refine (CSM.out A8 A10 c8 c10 _ _ VL.out VR.out rv9 r10).mono ?_
              rintro e w11 ⟨rfl, hb⟩
              replace b0 := Gw.call b0 hb
              replace ru := ru.up hb
              replace rv9 := rv9.up hb
              clear hb r10
              go_wp2_with fail
              refine (HFG.out A8 c8 V _ VL.out VR.out rv9).mono ?_
              rintro e w12 ⟨A12, c12, rfl, x12, hb⟩
              replace b0 := Gw.call b0 hb
              replace ru := ru.up hb
              have r12 := x12.rd
              clear hb x12 rv9
              go_wp2_with fail
              refine (HFG.out A2 c2 U _ UL.out UR.out ru).mono ?_
              rintro e w13 ⟨A13, c13, rfl, x13, hb⟩
              replace b0 := Gw.call b0 hb
              replace r12 := r12.up hb
              have r13 := x13.rd
              clear hb x13
              rw [UF.out] at r12
              have FL : Hid ((forgetL U mem).length = i) := Lib.hid (by rw [forget_len]; exact UL.out)
              have FR : Hid (∀ r ∈ forgetL U mem, r.length = i) := Lib.hid (forget_rows UL.out UR.out)
              go_wp2_with fail
              refine (CSM.out A12 A13 c12 c13 _ _ FL.out FR.out r12 r13).mono ?_
              rintro e w14 ⟨rfl, hb⟩
              replace b0 := Gw.call b0 hb
              clear hb
              go_wp2_with fail
              refine (awake_any _).mono ?_
              rintro e w15 ⟨rfl, hb⟩
              go_wp2_with fail
              go_ret
              exact ⟨rfl, Gw.call b0 hb⟩
end Go.Proofs.Ytcclnfpegepcnaa
