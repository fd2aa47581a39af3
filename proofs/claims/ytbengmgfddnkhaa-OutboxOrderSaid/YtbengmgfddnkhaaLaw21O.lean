/-
  OutboxOrder (21).
-/
import Derived.Test.YtbengmgfddnkhaaWant
import Derived.Test.YtbengmgfddnkhaaLaw21N
namespace Go.Proofs.Ytbengmgfddnkhaa
open Go.RowKit
/-- the outbox in its block, and what is wanted -/
def Sto (l : List MsV) (g7 : Nat) (ρ X : Int) (Pn : Nat) (W : World) (Aw : Option Addr) (cw n K : Nat) (Ao : Option Addr) (co : Nat) (lo q : List MsV) : Prop :=
  lo.map MsV.abs = q.map MsV.abs ∧ q.length = n ∧ lo.length = n ∧ (∀ y ∈ q, y ∈ l) ∧ n + K = Pn ∧ (n : Int) ≤ (if ρ < 0 then 0 else ρ) ∧ Ob W g7 #[.int .i64 ρ, .slice Ao n co, .int .i64 X] 24 ∧ OutR W.heap.size W Ao lo ∧ n ≤ co ∧ co ≤ maxLen ∧ Wt (g7 + 1) W Aw n cw q
def St (l : List MsV) (g7 : Nat) (ρ X : Int) (Pn : Nat) (W : World) (Aw : Option Addr) (cw n K : Nat) : Prop := ∃ Ao co lo q, Sto l g7 ρ X Pn W Aw cw n K Ao co lo q
theorem abs_few {lo q l : List MsV} (h : lo.map MsV.abs = q.map MsV.abs) (hq : ∀ y ∈ q, y ∈ l) (hl : ∀ y ∈ l, y.few) : ∀ y ∈ lo, y.few := bx_few (by rw [h]; exact few_map (fun y hy => hl y (hq y hy)))
theorem putu_any (r x : Int) (A : Option Addr) (l : List MsV) (n c : Nat) (m : MsV) (w : World) (hr : OutR w.heap.size w A l) (hf : ∀ d ∈ l, d.few) (hn : l.length = n) (hlen : n ≤ 1000) (hm : m.rd w.heap.size w) (hmf : m.few) :
    Calls Try.prog 12 #[bxa r A n c x, msv m] w fun e w' => ∃ A' c' t n' x', e = .returned (bxa r A' n' c' x') ∧ (((n : Int) < r ∧ n' = n + 1 ∧ x' = x ∧ t.map MsV.abs = l.map MsV.abs ++ [m.abs]) ∨ (¬(n : Int) < r ∧ n' = n ∧ x' = wrap64 (x + 1) ∧ t.map MsV.abs = l.map MsV.abs)) ∧ OutX w.heap.size w' (.slice A' n' c') t ∧ Below w.heap.size w w' := by
  by_cases hlt : (n : Int) < r
  · refine (put_fits r x A l n c m w hr hf hn hlen hm hmf hlt).mono ?_
    rintro e w' ⟨A', c', t, rfl, h1, h2, h3⟩
    exact ⟨A', c', t, _, _, rfl, .inl ⟨hlt, rfl, rfl, h1⟩, h2, h3⟩
  · refine (put_full r x A l n c m w hr hf hn hlen hm hmf hlt).mono ?_
    rintro e w' ⟨A', c', t, rfl, h1, h2, h3⟩
    exact ⟨A', c', t, _, _, rfl, .inr ⟨hlt, rfl, rfl, h1⟩, h2, h3⟩
set_option maxRecDepth 100000 in
set_option maxHeartbeats 8000000 in
theorem oorder_any (room : Int) (l : List MsV) (A : Option Addr) (ca : Nat) (T : List Int) (B : Option Addr) (cb : Nat) (w : World) (hroom : 0 ≤ room ∧ room ≤ 255) (hr : OutR w.heap.size w A l) (hok : ∀ d ∈ l, d.ok w) (hll : l.length ≤ 9223372036854775807) (hT : Rd u8c 1 w.heap.size w B T) (hTw : ∀ z ∈ T, 0 ≤ z ∧ z ≤ 255) (hTl : T.length ≤ 9223372036854775807) :
    Calls Try.prog 4 #[.int .u8 room, .slice A l.length ca, .slice B T.length cb] w fun e w' => e = .returned (.bool true) ∧ Below w.heap.size w w' := by
  obtain ⟨ρ, hρ⟩ : ∃ ρ : Int, room % 15 - 2 = ρ := ⟨_, rfl⟩
  have hρ1 : -2 ≤ ρ ∧ ρ ≤ 12 := by omega
  have HRO := Lib.hid hρ
  have HLL : Hid (∀ d ∈ l, d.L.length ≤ 9223372036854775807) := Lib.hid (fun d hd => by have := (hok d hd).L; unfold maxLen at this; omega)
  have CF := Lib.hid (fun W h => fewM_any l A ca 40 W h hll HLL.out)
  have HTW := Lib.hid hTw
  clear hok hTw hρ
  go_enter Try.func4, Try.ntmps4
  go_wp2_with fail
  refine (CF.out _ hr).mono ?_
  rintro e w1 ⟨r1, rfl, hrr, b1⟩
  have HRR := Lib.hid hrr
  clear hrr CF
  cases r1
  · clear HRR
    go_wp2_with fail
    refine (awake_any _).mono ?_
    rintro e w9 ⟨rfl, hb⟩
    go_wp2_with fail
    go_ret
    exact ⟨rfl, Gw.call b1 hb⟩
  have HF := Lib.hid (HRR.out rfl).2
  have l40 : l.length ≤ 40 := by have := (HRR.out rfl).1; omega
  have HRD := Lib.hid hr.row
  have hro := hr.out
  have G0 := Ob.new w1 #[.int .i64 ρ, .slice none 0 0, .int .i64 0] 24
  have b2 := Gw.al b1 (.cells #[.int .i64 ρ, .slice none 0 0, .int .i64 0] 24)
  clear HRR hr hll HLL
  go_upto_region 6 with fail
  rw [HRO.out]
  clear hroom
  have hg7w : w.heap.size ≤ w1.heap.size := b1.size
  generalize w1.alloc (.cells #[.int .i64 ρ, .slice none 0 0, .int .i64 0] 24) = w2 at *
  generalize w1.heap.size = g7 at *
  have S0 : St l g7 ρ 0 0 w2 none 0 0 0 := ⟨none, 0, [], [], rfl, rfl, rfl, (fun y hy => by cases hy), rfl, by split <;> omega, G0, OutR.nil_, Nat.le_refl _, Nat.zero_le _, Wt.nil_⟩
  clear G0 b1
  go_wp2_with fail
  go_loopw [8, 9, 10, 28] (fun wv pv tv iv wr => ∃ (i Pn K n : Nat) (Aw : Option Addr) (cw : Nat), i ≤ l.length ∧ Pn ≤ i ∧ iv = .int .i64 i ∧ wv = .slice Aw n cw ∧ pv = .int .i64 Pn ∧ tv = .int .i64 K ∧ St l g7 ρ ((i : Int) - Pn) Pn wr Aw cw n K ∧ Below w.heap.size w wr) (fun _ _ _ iv _ => l.length - (intOf iv).toNat)
  case atStart => exact ⟨0, 0, 0, 0, none, 0, Nat.zero_le _, Nat.le_refl _, rfl, rfl, rfl, rfl, by simpa using S0, b2⟩
  case round =>
    clear S0 b2
    obtain ⟨i, Pn, K, n, Aw, cw, hi, hPi, rfl, rfl, rfl, rfl, ⟨Ao, co, lo, q, s1, s2, s3, s4, s5, s6, G, rl, s9, s10, wt⟩, bl⟩ := hrel
    by_cases hil : i < l.length
    · obtain ⟨y, hy⟩ : ∃ y, l[i]? = some y := ⟨_, List.getElem?_eq_getElem hil⟩
      obtain ⟨b, o, rfl, hb, hc⟩ := (hro.below bl).at_ hy
      have hym := List.mem_of_getElem? hy
      have HYM := Lib.hid hym
      have hyr := HRD.out y hym
      have hyf := HF.out y hym
      have HLF := Lib.hid (abs_few s1 s4 HF.out)
      have n12 : n ≤ 12 := by split at s6 <;> omega
      have ii : (i : Int) < (l.length : Int) := by omega
      have S1 := Lib.hid s1
      have S2 := Lib.hid s2
      have S3 := Lib.hid s3
      have S4 := Lib.hid s4
      have S5 := Lib.hid s5
      have S6 := Lib.hid s6
      have S9 := Lib.hid (And.intro s9 s10)
      clear hy hym s1 s2 s3 s4 s5 s6 s9 s10
      have HGY := Lib.hid G.lt
      have al := Below.alloc (Below.refl wr.heap.size wr) (Nat.le_refl _) (.cells (msA y) 39)
      have Y := Ob.new wr (msA y) 39
      have G1 := G.call al
      have rl1 := rl.up al
      have wt1 := wt.below al
      have bl1 := Gw.call bl al
      clear G rl wt bl
      go_upto_region 9 with (first | (with_reducible refine ldM y b (o + i * 17) hc rfl _ rfl rfl ?_) | (with_reducible refine stM_new y _ rfl _ _ rfl rfl rfl rfl ?_) | fail)
      have hsz3 : (wr.alloc (.cells (msA y) 39)).heap.size = wr.heap.size + 1 := World.size_alloc _ _
      have HSZ := Lib.hid hsz3
      clear hsz3
      generalize wr.alloc (.cells (msA y) 39) = w3 at *
      generalize wr.heap.size = gy at *
      clear al hc
      have g0 := G1.blk.2.1 0 _ rfl
      have g1 := G1.blk.2.1 1 _ rfl
      have g2 := G1.blk.2.1 2 _ rfl
      have CP := Lib.hid (fun W h h2 => putu_any ρ ((i : Int) - Pn) Ao lo n co y W h HLF.out S3.out (by omega) h2 hyf)
      go_wp2_with (first | (with_reducible refine ldM y _ 0 (obM Y) rfl _ rfl rfl ?_) | fail)
      refine (CP.out _ rl1 (hyr.up bl1)).mono ?_
      rintro e w4 ⟨A2, c2, t2, n2, x2, rfl, hcase, o2, hb⟩
      have HCASE := Lib.hid hcase
      have hs4 := hb.size
      have WLT := Lib.hid (wt1.lt)
      have G4 := G1.call hb
      have Y4 := Y.call hb
      have wt4 := wt1.below hb
      have bl4 := Gw.call bl1 hb
      clear hcase hb g0 g1 g2 G1 Y wt1 bl1 CP rl1
      have g0 := G4.blk.2.1 0 _ rfl
      have g1 := G4.blk.2.1 1 _ rfl
      have g2 := G4.blk.2.1 2 _ rfl
      have gf := G4.blk.2.2
      have HG := ((grown_set w4 ⟨g7, 0, none⟩ (.int .i64 ρ)).trans (grown_set _ ⟨g7, 1, none⟩ (.slice A2 n2 c2))).trans (grown_set _ ⟨g7, 2, none⟩ (.int .i64 x2))
      have G5 : Ob (((w4.setCell ⟨g7, 0, none⟩ (.int .i64 ρ)).setCell ⟨g7, 1, none⟩ (.slice A2 n2 c2)).setCell ⟨g7, 2, none⟩ (.int .i64 x2)) g7 #[.int .i64 ρ, .slice A2 n2 c2, .int .i64 x2] 24 := ((G4.set 0 (.int .i64 ρ)).set 1 (.slice A2 n2 c2)).set 2 (.int .i64 x2)
      have hgne : gy ≠ g7 := by have := HGY.out; omega
      have Y5 := ((Y4.far (p := g7) (j := 0) hgne (.int .i64 ρ)).far (p := g7) (j := 1) hgne (.slice A2 n2 c2)).far (p := g7) (j := 2) hgne (.int .i64 x2)
      have hg3 : g7 + 1 < w3.heap.size := by have := HGY.out; have := HSZ.out; omega
      have HG3 := Lib.hid hg3
      have o5 := o2.hop HG (by show g7 < _; omega)
      have wt5 := wt4.hop HG (by show g7 < g7 + 1; omega)
      have bl5 := Gw.hop bl4 HG (by show w.heap.size ≤ g7; omega)
      have hs5 : w3.heap.size ≤ (((w4.setCell ⟨g7, 0, none⟩ (.int .i64 ρ)).setCell ⟨g7, 1, none⟩ (.slice A2 n2 c2)).setCell ⟨g7, 2, none⟩ (.int .i64 x2)).heap.size := by simp only [Gw.setSize]; exact hs4
      clear o2 wt4 bl4 G4 Y4 HG hg3 hs4
      go_upto_region 10 with fail
      clear g0 g1 g2 gf
      generalize ((w4.setCell ⟨g7, 0, none⟩ (.int .i64 ρ)).setCell ⟨g7, 1, none⟩ (.slice A2 n2 c2)).setCell ⟨g7, 2, none⟩ (.int .i64 x2) = w5 at *
      have g0 := G5.blk.2.1 0 _ rfl
      go_upto_if 40 with fail
      clear g0
      go_cut [8, 9] (fun wv pv wx => ∃ (A3 : Option Addr) (c3 n3 P3 : Nat), wv = .slice A3 n3 c3 ∧ pv = .int .i64 P3 ∧ P3 ≤ i + 1 ∧ St l g7 ρ ((i : Int) + 1 - P3) P3 wx A3 c3 n3 K ∧ Below w.heap.size w wx)
      case first =>
        rcases HCASE.out with ⟨hlt, rfl, rfl, habs⟩ | ⟨hlt, hn2, rfl, habs⟩
        · have t1 : decide ((n : Int) < ρ) = true := by simp [hlt]
          have HAB := Lib.hid habs
          have HLT := Lib.hid hlt
          have al5 := Below.alloc (Below.refl w5.heap.size w5) (Nat.le_refl _) (.cells (msA y) 39)
          have wt6 := wt5.below al5
          have M5 := Ob.new w5 (msA y) 39
          have o6 := o5.below al5
          have G6 := G5.call al5
          have bl6 := Gw.call bl5 al5
          have hsz6 : g7 + 1 < (w5.alloc (.cells (msA y) 39)).heap.size := by have := HG3.out; rw [World.size_alloc]; omega
          have HI := Lib.hid hPi
          clear wt5 o5 G5 bl5 al5 habs
          go_wp2_with (first | (with_reducible refine ldM y _ 0 (obM Y5) rfl _ rfl rfl ?_) | (with_reducible refine bsM y rfl _ rfl rfl ?_) | (at_builtin; refine wpList_wt _ wt6 hsz6 (by omega) y _ M5 rfl _ _ rfl rfl rfl ?_; intro A3 c3 w7 g hw3 hgr hrg) | fail)
          go_meet
          have hgb : g7 + 1 ≤ g ∧ g < w3.heap.size := by
            rcases hrg with ⟨_, e⟩ | ⟨off, e⟩
            · have := HG3.out; omega
            · exact WLT.out g off e
          have o7 := o6.hop hgr hgb.2
          have G7 : Ob w7 g7 #[.int .i64 ρ, .slice A2 (n + 1) c2, .int .i64 ((i : Int) - Pn)] 24 := (hgr.block g7 G6.lt (by intro e; injection e with e; omega)).trans G6
          have hcap := o7.cap
          refine ⟨A3, c3, n + 1, Pn + 1, rfl, by go_num, by have := HI.out; omega, ⟨A2, c2, t2, q ++ [y], ?_, ?_, ?_, ?_, ?_, ?_, ?_, o7.rd, hcap.2.1, hcap.2.2, hw3⟩, Gw.hop bl6 hgr (by omega)⟩
          · rw [HAB.out, S1.out, List.map_append]; rfl
          · rw [List.length_append, S2.out]; rfl
          · exact hcap.1.symm
          · intro z hz
            rcases List.mem_append.1 hz with h | h
            · exact S4.out z h
            · obtain rfl : z = y := by simpa using h
              exact HYM.out
          · have := S5.out; omega
          · have := HLT.out; split <;> omega
          · rw [show (i : Int) + 1 - ((Pn + 1 : Nat) : Int) = (i : Int) - Pn by omega]; exact G7
        · obtain rfl := hn2.symm
          have t1 : decide ((n : Int) < ρ) = false := by simp; omega
          have HAB := Lib.hid habs
          have HI := Lib.hid hPi
          have e1 : wrap64 ((i : Int) - Pn + 1) = (i : Int) + 1 - Pn := by rw [IntWalk.wrap64_in _ (by omega)]; omega
          rw [e1] at G5
          clear habs hPi e1
          go_wp2_with fail
          go_meet
          have hcap := o5.cap
          refine ⟨Aw, cw, n, Pn, rfl, rfl, by have := HI.out; omega, ⟨A2, c2, t2, q, ?_, S2.out, hcap.1.symm, S4.out, S5.out, S6.out, G5, o5.rd, hcap.2.1, hcap.2.2, wt5⟩, bl5⟩
          rw [HAB.out, S1.out]
      case rest =>
        obtain ⟨A3, c3, n3, P3, rfl, rfl, hP3, hSt, bl⟩ := hcut
        clear HCASE WLT G5 Y5 o5 wt5 bl5 hs5 HG3 HGY HSZ S1 S2 S3 S4 S5 S6 S9 HLF
        go_upto_region 13 with fail
        go_cut [56, 57] (fun v v2 wx => ∃ D : Nat, v = .int .i64 D ∧ v2 = .int .i64 0 ∧ Hid (D = 0 ∨ D = 1 ∧ i < T.length) ∧ wx = wc)
        case first =>
          by_cases hiT : i < T.length
          · have f1 : (i : Int) < (T.length : Int) := by omega
            by_cases hiT2 : i + 1 < T.length
            · have f2 : (i : Int) + 1 < (T.length : Int) := by omega
              have f3 : (i : Int) + 1 - (i : Int) = 1 := by omega
              go_wp2_with fail
              go_meet
              exact ⟨1, by go_num, rfl, Lib.hid (.inr ⟨rfl, hiT⟩), rfl⟩
            · have f2 : ¬(i : Int) + 1 < (T.length : Int) := by omega
              have f3 : (T.length : Int) - (i : Int) = 1 := by omega
              go_wp2_with fail
              go_meet
              exact ⟨1, by go_num, rfl, Lib.hid (.inr ⟨rfl, hiT⟩), rfl⟩
          · have f1 : ¬(i : Int) < (T.length : Int) := by omega
            have f2 : ¬(i : Int) + 1 < (T.length : Int) := by omega
            have f3 : (T.length : Int) - (T.length : Int) = 0 := by omega
            have f4 : ¬i + 1 < T.length := by omega
            go_wp2_with fail
            go_meet
            exact ⟨0, by go_num, rfl, Lib.hid (.inl rfl), rfl⟩
        case rest =>
          obtain ⟨D, rfl, rfl, HD, hwx⟩ := hcut
          subst hwx
          go_wp2_with fail
          go_loopw [8, 10, 57] (fun wv tv jv wr => ∃ (j K n : Nat) (A : Option Addr) (c : Nat), j ≤ D ∧ jv = .int .i64 j ∧ wv = .slice A n c ∧ tv = .int .i64 K ∧ St l g7 ρ ((i : Int) + 1 - P3) P3 wr A c n K ∧ Below w.heap.size w wr) (fun _ _ jv _ => D - (intOf jv).toNat)
          case atStart => exact ⟨0, K, n3, A3, c3, Nat.zero_le _, rfl, rfl, rfl, hSt, bl⟩
          case round =>
            clear hSt bl
            obtain ⟨j, K, n, Aw, cw, hj, rfl, rfl, rfl, hSt, bl⟩ := hrel
            by_cases hjD : j < D
            · have hD1 : D ≤ 1 := by rcases HD.out with h | ⟨h, _⟩ <;> omega
              have hiT : i < T.length := by rcases HD.out with h | ⟨_, h⟩; omega; exact h
              have ji : (j : Int) < (D : Int) := by omega
              have iT : (i : Int) < (T.length : Int) := by omega
              obtain ⟨z, hz⟩ : ∃ z, T[i]? = some z := ⟨_, List.getElem?_eq_getElem hiT⟩
              obtain ⟨hz0, hz1⟩ := HTW.out z (List.mem_of_getElem? hz)
              obtain ⟨bt, ot, rfl, hbt, ht⟩ := (hT.below bl).int1 hz
              obtain ⟨dd, hdd⟩ : ∃ dd : Nat, z % 4 = (dd : Int) := ⟨(z % 4).toNat, by omega⟩
              have dd4 : dd < 4 := by omega
              have HDD := Lib.hid hdd
              clear hz hdd
              go_wp2_with fail
              rw [HDD.out]
              clear hz0 hz1 ht
              go_loopw [8, 10, 64] (fun wv tv kv wr => ∃ (k K n : Nat) (A : Option Addr) (c : Nat), k ≤ dd ∧ kv = .int .u8 k ∧ wv = .slice A n c ∧ tv = .int .i64 K ∧ St l g7 ρ ((i : Int) + 1 - P3) P3 wr A c n K ∧ Below w.heap.size w wr) (fun _ _ kv _ => dd - (intOf kv).toNat)
              case atStart => exact ⟨0, K, n, Aw, cw, Nat.zero_le _, rfl, rfl, rfl, hSt, bl⟩
              case round =>
                clear hSt bl
                obtain ⟨k, K, n, Aw, cw, hk, rfl, rfl, rfl, ⟨Ao, co, lo, q, s1, s2, s3, s4, s5, s6, G, rl, s9, s10, wt⟩, bl⟩ := hrel
                by_cases hkd : k < dd
                · have kd : (k : Int) < (dd : Int) := by omega
                  have n12 : n ≤ 12 := by split at s6 <;> omega
                  have g0 := G.blk.2.1 0 _ rfl
                  have g1 := G.blk.2.1 1 _ rfl
                  have g2 := G.blk.2.1 2 _ rfl
                  rcases q with _ | ⟨y, q⟩
                  · obtain rfl : n = 0 := s2.symm
                    obtain rfl : lo = [] := List.length_eq_zero_iff.1 s3
                    have CT := Lib.hid (take_none ρ ((i : Int) + 1 - P3) Ao co)
                    have S5 := Lib.hid s5
                    have S6 := Lib.hid s6
                    clear s1 s2 s3 s4 s5 s6 s9 s10 rl
                    go_upto_region 17 with fail
                    go_wp2_with fail
                    refine (CT.out _).mono ?_
                    rintro e w4 ⟨md, A4, c4, rfl, hmd, _, hown, hb⟩
                    have al4 := Below.alloc (Below.alloc (Below.refl w4.heap.size w4) (Nat.le_refl _) (.cells (msA md) 39)) (by simp) (.cells #[.int .i64 ρ, .slice A4 0 c4, .int .i64 ((i : Int) + 1 - P3)] 24)
                    have hba := hb.trans (al4.mono hb.size)
                    have G4 := G.call hba
                    have wt4 := wt.below hba
                    have bl4 := Gw.call bl hba
                    have P4 := Ob.new (w4.alloc (.cells (msA md) 39)) #[.int .i64 ρ, .slice A4 0 c4, .int .i64 ((i : Int) + 1 - P3)] 24
                    rw [World.size_alloc] at P4
                    have M4 := (Ob.new w4 (msA md) 39).alloc (.cells #[.int .i64 ρ, .slice A4 0 c4, .int .i64 ((i : Int) + 1 - P3)] 24)
                    have o4 := hown.below al4
                    have hgb := Lib.hid G.lt
                    clear hb hba al4 G wt bl hown g0 g1 g2
                    go_upto_region 18 with (first | (with_reducible refine stM_under md _ _ rfl _ _ rfl rfl rfl rfl ?_) | fail)
                    generalize (w4.alloc (.cells (msA md) 39)).alloc (.cells #[.int .i64 ρ, .slice A4 0 c4, .int .i64 ((i : Int) + 1 - P3)] 24) = w5 at *
                    generalize w4.heap.size = g4 at *

                    have HB : Hid (∀ W, Below w5.heap.size w5 W → (fun W : World => Ob W g7 #[.int .i64 ρ, .slice Ao 0 co, .int .i64 ((i : Int) + 1 - P3)] 24 ∧ Ob W (g4 + 1) #[.int .i64 ρ, .slice A4 0 c4, .int .i64 ((i : Int) + 1 - P3)] 24) W) := Lib.hid fun W hb => ⟨G4.call hb, P4.call hb⟩
                    have q0 : (#[.int .i64 ρ, .slice Ao 0 co, .int .i64 ((i : Int) + 1 - P3)] : Array Value).size = 3 := rfl
                    have q1 : (#[.int .i64 ρ, .slice A4 0 c4, .int .i64 ((i : Int) + 1 - P3)] : Array Value).size = 3 := rfl
                    have CB := Lib.hid (fun W => boxes_yes ⟨ρ, A4, [], c4, ((i : Int) + 1 - P3)⟩ ⟨ρ, Ao, [], co, ((i : Int) + 1 - P3)⟩ W OutR.none_ OutR.none_ rfl (fun d hd => by cases hd) (by simp))
                    have bq := Below.drew (Below.refl w5.heap.size w5)
                    refine wp_region_held_drew (S := fun W : World => Ob W g7 #[.int .i64 ρ, .slice Ao 0 co, .int .i64 ((i : Int) + 1 - P3)] 24 ∧ Ob W (g4 + 1) #[.int .i64 ρ, .slice A4 0 c4, .int .i64 ((i : Int) + 1 - P3)] 24) (by kernel_rfl) (HB.out _ bq) (fun hHeld => ?_)
                    refine take_d (i := 0) (oi := _) (v := ?_) (d := some 72) rfl (by kernel_rfl) (by as_aux_lemma => kernel_rfl) (by as_aux_lemma => kernel_rfl) (by as_aux_lemma => kernel_rfl) (fun _ _ _ h => h) (Or.inl ⟨by kernel_rfl, ?_⟩) hHeld ?_
                    rotate_left
                    · intro w hSw; (try dsimp only at hSw); go_simp; (try with_reducible rfl)
                    try simp only [Act.put, List.setIfInBounds_toArray, List.set_cons_zero, List.set_cons_succ]
                    refine take_d (i := 1) (oi := _) (v := ?_) (d := some 73) rfl (by kernel_rfl) (by as_aux_lemma => kernel_rfl) (by as_aux_lemma => kernel_rfl) (by as_aux_lemma => kernel_rfl) (fun _ _ _ h => h) (Or.inl ⟨by kernel_rfl, ?_⟩) hHeld ?_
                    rotate_left
                    · intro w hSw; (try dsimp only at hSw); go_simp; (try with_reducible rfl)
                    try simp only [Act.put, List.setIfInBounds_toArray, List.set_cons_zero, List.set_cons_succ]
                    refine take_d (i := 2) (oi := _) (v := ?_) (d := some 74) rfl (by kernel_rfl) (by as_aux_lemma => kernel_rfl) (by as_aux_lemma => kernel_rfl) (by as_aux_lemma => kernel_rfl) (fun _ _ _ h => h) (Or.inl ⟨by kernel_rfl, ?_⟩) hHeld ?_
                    rotate_left
                    · intro w hSw; (try dsimp only at hSw); go_simp; (try with_reducible rfl)
                    try simp only [Act.put, List.setIfInBounds_toArray, List.set_cons_zero, List.set_cons_succ]
                    refine take_d (i := 3) (oi := _) (v := .bool false) (d := some 75) rfl (by kernel_rfl) (by as_aux_lemma => kernel_rfl) (by as_aux_lemma => kernel_rfl) (by as_aux_lemma => kernel_rfl) (fun _ _ _ h => h) (Or.inl ⟨by kernel_rfl, ?_⟩) hHeld ?_
                    · intro W hSw
                      go_simp; first | done | simp
                    try simp only [Act.put, List.setIfInBounds_toArray, List.set_cons_zero, List.set_cons_succ]
                    refine take_d (i := 4) (oi := _) (v := .bool false) (d := some 76) rfl (by kernel_rfl) (by as_aux_lemma => kernel_rfl) (by as_aux_lemma => kernel_rfl) (by as_aux_lemma => kernel_rfl) (fun _ _ _ h => h) (Or.inl ⟨by kernel_rfl, ?_⟩) hHeld ?_
                    · intro W hSw
                      go_simp; first | done | simp
                    try simp only [Act.put, List.setIfInBounds_toArray, List.set_cons_zero, List.set_cons_succ]
                    refine take_d (i := 5) (oi := _) (v := ?_) (d := some 77) rfl (by kernel_rfl) (by as_aux_lemma => kernel_rfl) (by as_aux_lemma => kernel_rfl) (by as_aux_lemma => kernel_rfl) (fun _ _ _ h => h) (Or.inl ⟨by kernel_rfl, ?_⟩) hHeld ?_
                    rotate_left
                    · intro w hSw; (try dsimp only at hSw); go_simp; (try with_reducible rfl)
                    try simp only [Act.put, List.setIfInBounds_toArray, List.set_cons_zero, List.set_cons_succ]
                    refine take_d (i := 6) (oi := _) (v := ?_) (d := some 78) rfl (by kernel_rfl) (by as_aux_lemma => kernel_rfl) (by as_aux_lemma => kernel_rfl) (by as_aux_lemma => kernel_rfl) (fun _ _ _ h => h) (Or.inl ⟨by kernel_rfl, ?_⟩) hHeld ?_
                    rotate_left
                    · intro w hSw; (try dsimp only at hSw); go_simp; (try with_reducible rfl)
                    try simp only [Act.put, List.setIfInBounds_toArray, List.set_cons_zero, List.set_cons_succ]
                    refine take_d (i := 7) (oi := _) (v := ?_) (d := some 79) rfl (by kernel_rfl) (by as_aux_lemma => kernel_rfl) (by as_aux_lemma => kernel_rfl) (by as_aux_lemma => kernel_rfl) (fun _ _ _ h => h) (Or.inl ⟨by kernel_rfl, ?_⟩) hHeld ?_
                    rotate_left
                    · intro w hSw; (try dsimp only at hSw); go_simp; (try with_reducible rfl)
                    try simp only [Act.put, List.setIfInBounds_toArray, List.set_cons_zero, List.set_cons_succ]
                    refine take_d (i := 8) (oi := _) (v := undef) (d := some 80) rfl (by kernel_rfl) (by as_aux_lemma => kernel_rfl) (by as_aux_lemma => kernel_rfl) (by as_aux_lemma => kernel_rfl) (fun _ _ _ h => h) (Or.inr ⟨by kernel_rfl, rfl⟩) hHeld ?_
                    try simp only [Act.put, List.setIfInBounds_toArray, List.set_cons_zero, List.set_cons_succ]
                    refine take_d (i := 9) (oi := _) (v := undef) (d := some 81) rfl (by kernel_rfl) (by as_aux_lemma => kernel_rfl) (by as_aux_lemma => kernel_rfl) (by as_aux_lemma => kernel_rfl) (fun _ _ _ h => h) (Or.inr ⟨by kernel_rfl, rfl⟩) hHeld ?_
                    try simp only [Act.put, List.setIfInBounds_toArray, List.set_cons_zero, List.set_cons_succ]
                    refine take_d (i := 10) (oi := _) (v := undef) (d := some 82) rfl (by kernel_rfl) (by as_aux_lemma => kernel_rfl) (by as_aux_lemma => kernel_rfl) (by as_aux_lemma => kernel_rfl) (fun _ _ _ h => h) (Or.inr ⟨by kernel_rfl, rfl⟩) hHeld ?_
                    try simp only [Act.put, List.setIfInBounds_toArray, List.set_cons_zero, List.set_cons_succ]
                    refine take_d (i := 11) (oi := _) (v := undef) (d := some 83) rfl (by kernel_rfl) (by as_aux_lemma => kernel_rfl) (by as_aux_lemma => kernel_rfl) (by as_aux_lemma => kernel_rfl) (fun _ _ _ h => h) (Or.inr ⟨by kernel_rfl, rfl⟩) hHeld ?_
                    try simp only [Act.put, List.setIfInBounds_toArray, List.set_cons_zero, List.set_cons_succ]
                    refine take_d (i := 12) (oi := _) (v := undef) (d := some 84) rfl (by kernel_rfl) (by as_aux_lemma => kernel_rfl) (by as_aux_lemma => kernel_rfl) (by as_aux_lemma => kernel_rfl) (fun _ _ _ h => h) (Or.inr ⟨by kernel_rfl, rfl⟩) hHeld ?_
                    try simp only [Act.put, List.setIfInBounds_toArray, List.set_cons_zero, List.set_cons_succ]
                    refine take_d (i := 13) (oi := _) (v := undef) (d := some 85) rfl (by kernel_rfl) (by as_aux_lemma => kernel_rfl) (by as_aux_lemma => kernel_rfl) (by as_aux_lemma => kernel_rfl) (fun _ _ _ h => h) (Or.inr ⟨by kernel_rfl, rfl⟩) hHeld ?_
                    try simp only [Act.put, List.setIfInBounds_toArray, List.set_cons_zero, List.set_cons_succ]
                    refine take_d (i := 14) (oi := _) (v := ?_) (d := some 86) rfl (by kernel_rfl) (by as_aux_lemma => kernel_rfl) (by as_aux_lemma => kernel_rfl) (by as_aux_lemma => kernel_rfl) (fun _ _ _ h => h) (Or.inl ⟨by kernel_rfl, ?_⟩) hHeld ?_
                    rotate_left
                    · intro w hSw; (try dsimp only at hSw); go_simp; (try with_reducible rfl)
                    try simp only [Act.put, List.setIfInBounds_toArray, List.set_cons_zero, List.set_cons_succ]
                    refine take_d (i := 15) (oi := _) (v := ?_) (d := some 87) rfl (by kernel_rfl) (by as_aux_lemma => kernel_rfl) (by as_aux_lemma => kernel_rfl) (by as_aux_lemma => kernel_rfl) (fun _ _ _ h => h) (Or.inl ⟨by kernel_rfl, ?_⟩) hHeld ?_
                    rotate_left
                    · intro w hSw; (try dsimp only at hSw); go_simp; (try with_reducible rfl)
                    try simp only [Act.put, List.setIfInBounds_toArray, List.set_cons_zero, List.set_cons_succ]
                    refine take_d (i := 16) (oi := _) (v := ?_) (d := some 88) rfl (by kernel_rfl) (by as_aux_lemma => kernel_rfl) (by as_aux_lemma => kernel_rfl) (by as_aux_lemma => kernel_rfl) (fun _ _ _ h => h) (Or.inl ⟨by kernel_rfl, ?_⟩) hHeld ?_
                    rotate_left
                    · intro w hSw; (try dsimp only at hSw); go_simp; (try with_reducible rfl)
                    try simp only [Act.put, List.setIfInBounds_toArray, List.set_cons_zero, List.set_cons_succ]
                    refine take_d (i := 17) (oi := _) (v := ?_) (d := some 89) rfl (by kernel_rfl) (by as_aux_lemma => kernel_rfl) (by as_aux_lemma => kernel_rfl) (by as_aux_lemma => kernel_rfl) (fun _ _ _ h => h) (Or.inl ⟨by kernel_rfl, ?_⟩) hHeld ?_
                    rotate_left
                    · intro w hSw; (try dsimp only at hSw); go_simp; (try with_reducible rfl)
                    try simp only [Act.put, List.setIfInBounds_toArray, List.set_cons_zero, List.set_cons_succ]
                    refine take_d (i := 18) (oi := _) (v := ?_) (d := some 90) rfl (by kernel_rfl) (by as_aux_lemma => kernel_rfl) (by as_aux_lemma => kernel_rfl) (by as_aux_lemma => kernel_rfl) (fun _ _ _ h => h) (Or.inl ⟨by kernel_rfl, ?_⟩) hHeld ?_
                    rotate_left
                    · intro w hSw; (try dsimp only at hSw); go_simp; (try with_reducible rfl)
                    try simp only [Act.put, List.setIfInBounds_toArray, List.set_cons_zero, List.set_cons_succ]
                    refine take_d (i := 19) (oi := _) (v := ?_) (d := some 91) rfl (by kernel_rfl) (by as_aux_lemma => kernel_rfl) (by as_aux_lemma => kernel_rfl) (by as_aux_lemma => kernel_rfl) (fun _ _ _ h => h) (Or.inl ⟨by kernel_rfl, ?_⟩) hHeld ?_
                    rotate_left
                    · intro w hSw; (try dsimp only at hSw); go_simp; (try with_reducible rfl)
                    try simp only [Act.put, List.setIfInBounds_toArray, List.set_cons_zero, List.set_cons_succ]
                    refine take_d (i := 20) (oi := _) (v := (.agg #[.int .i64 ρ, .slice A4 0 c4, .int .i64 ((i : Int) + 1 - P3)])) (d := some 92) rfl (by kernel_rfl) (by as_aux_lemma => kernel_rfl) (by as_aux_lemma => kernel_rfl) (by as_aux_lemma => kernel_rfl) (fun _ _ _ h => h) (yl_B _ _ (fun W h => h.2) q1 (by kernel_rfl) _ rfl rfl) hHeld ?_
                    try simp only [Act.put, List.setIfInBounds_toArray, List.set_cons_zero, List.set_cons_succ]
                    refine take_d (i := 21) (oi := _) (v := (.agg #[.int .i64 ρ, .slice Ao 0 co, .int .i64 ((i : Int) + 1 - P3)])) (d := some 93) rfl (by kernel_rfl) (by as_aux_lemma => kernel_rfl) (by as_aux_lemma => kernel_rfl) (by as_aux_lemma => kernel_rfl) (fun _ _ _ h => h) (yl_B _ _ (fun W h => h.1) q0 (by kernel_rfl) _ rfl rfl) hHeld ?_
                    try simp only [Act.put, List.setIfInBounds_toArray, List.set_cons_zero, List.set_cons_succ]
                    refine wpAnyH_ready (rs := [22]) (by kernel_rfl) (by simp) ?_
                    refine AllReadyH.cons rfl (fun K hK => ?_) AllReadyH.nil
                    go_simp
                    refine (CB.out _).mono ?_
                    rintro e u1 ⟨rfl, hb⟩
                    replace bq := Gw.call bq hb
                    clear hb
                    dsimp only
                    refine hK.out _ _ (HB.out _ bq) (fun hHeld => ?_)
                    clear hK K
                    try simp only [Act.put, List.setIfInBounds_toArray, List.set_cons_zero, List.set_cons_succ]
                    refine take_d (i := 23) (oi := _) (v := ?_) (d := some 95) rfl (by kernel_rfl) (by as_aux_lemma => kernel_rfl) (by as_aux_lemma => kernel_rfl) (by as_aux_lemma => kernel_rfl) (fun _ _ _ h => h) (Or.inl ⟨by kernel_rfl, ?_⟩) hHeld ?_
                    rotate_left
                    · intro w hSw; (try dsimp only at hSw); go_simp; (try with_reducible rfl)
                    try simp only [Act.put, List.setIfInBounds_toArray, List.set_cons_zero, List.set_cons_succ]
                    refine take_d (i := 24) (oi := _) (v := ?_) (d := some 96) rfl (by kernel_rfl) (by as_aux_lemma => kernel_rfl) (by as_aux_lemma => kernel_rfl) (by as_aux_lemma => kernel_rfl) (fun _ _ _ h => h) (Or.inl ⟨by kernel_rfl, ?_⟩) hHeld ?_
                    rotate_left
                    · intro w hSw; (try dsimp only at hSw); go_simp; (try with_reducible rfl)
                    try simp only [Act.put, List.setIfInBounds_toArray, List.set_cons_zero, List.set_cons_succ]
                    refine take_d (i := 25) (oi := _) (v := ?_) (d := some 97) rfl (by kernel_rfl) (by as_aux_lemma => kernel_rfl) (by as_aux_lemma => kernel_rfl) (by as_aux_lemma => kernel_rfl) (fun _ _ _ h => h) (Or.inl ⟨by kernel_rfl, ?_⟩) hHeld ?_
                    rotate_left
                    · intro w hSw; (try dsimp only at hSw); go_simp; (try with_reducible rfl)
                    try simp only [Act.put, List.setIfInBounds_toArray, List.set_cons_zero, List.set_cons_succ]
                    refine wpAnyH_done (by kernel_rfl) ?_ _
                    clear HB hHeld
                    have G5 := G4.call bq
                    have P5 := P4.call bq
                    have wt5 := wt4.below bq
                    have bl5 := Gw.call bl4 bq
                    have o5 := o4.below bq
                    have hcap := Lib.hid o5.cap
                    clear G4 P4 M4 wt4 bl4 o4 bq
                    have k0 := G5.blk.2.1 0 _ rfl
                    have k1 := G5.blk.2.1 1 _ rfl
                    have k2 := G5.blk.2.1 2 _ rfl
                    have kf := G5.blk.2.2
                    have p0 := P5.blk.2.1 0 _ rfl
                    have p1 := P5.blk.2.1 1 _ rfl
                    have p2 := P5.blk.2.1 2 _ rfl
                    have G6 := ((G5.set 0 (.int .i64 ρ)).set 1 (.slice A4 0 c4)).set 2 (.int .i64 ((i : Int) + 1 - P3))
                    have HG := ((grown_set u1 ⟨g7, 0, none⟩ (.int .i64 ρ)).trans (grown_set _ ⟨g7, 1, none⟩ (.slice A4 0 c4))).trans (grown_set _ ⟨g7, 2, none⟩ (.int .i64 ((i : Int) + 1 - P3)))
                    have wt6 := wt5.hop HG (by show g7 < g7 + 1; omega)
                    have bl6 := Gw.hop bl5 HG (by show w.heap.size ≤ g7; omega)
                    clear HG wt5 bl5 G5 P5 o5 CB q0 q1
                    go_wp2_with fail
                    go_roundw
                    case rel => exact ⟨k + 1, K, 0, Aw, cw, hkd, by go_num, rfl, rfl, ⟨A4, c4, [], [], rfl, rfl, rfl, (fun z hz => by cases hz), S5.out, S6.out, G6, OutR.none_, hcap.out.2.1, hcap.out.2.2, wt6⟩, bl6⟩
                    case measure => simp [intOf]; omega
                  · rcases lo with _ | ⟨x1, t⟩
                    · simp at s1
                    obtain ⟨n', rfl⟩ : ∃ n', n = n' + 1 := ⟨q.length, by simp at s2; omega⟩
                    have hlf := abs_few s1 s4 HF.out
                    have ht' : t.length = n' := by simpa using s3
                    have CT := Lib.hid (fun W h => take_cons ρ ((i : Int) + 1 - P3) Ao x1 t n' co W h hlf ht' (by omega) s9 s10)
                    have S1 := Lib.hid s1
                    have S2 := Lib.hid s2
                    have S4 := Lib.hid s4
                    have S5 := Lib.hid s5
                    have S6 := Lib.hid s6
                    clear s1 s2 s3 s4 s5 s6 s9 s10 hlf ht'
                    go_upto_region 17 with fail
                    go_wp2_with fail
                    refine (CT.out _ rl).mono ?_
                    rintro e w4 ⟨md, A4, c4, t4, rfl, hmd, ht4, hmo, hown, hb⟩
                    have hmo2 := hmo
                    have al4 := Below.alloc (Below.alloc (Below.refl w4.heap.size w4) (Nat.le_refl _) (.cells (msA md) 39)) (by simp) (.cells #[.int .i64 ρ, .slice A4 n' c4, .int .i64 ((i : Int) + 1 - P3)] 24)
                    have hba := hb.trans (al4.mono hb.size)
                    have G4 := G.call hba
                    have wt4 := wt.below hba
                    have bl4 := Gw.call bl hba
                    have P4 := Ob.new (w4.alloc (.cells (msA md) 39)) #[.int .i64 ρ, .slice A4 n' c4, .int .i64 ((i : Int) + 1 - P3)] 24
                    rw [World.size_alloc] at P4
                    have M4 := (Ob.new w4 (msA md) 39).alloc (.cells #[.int .i64 ρ, .slice A4 n' c4, .int .i64 ((i : Int) + 1 - P3)] 24)
                    have o4 := hown.below al4
                    have mo4 := (hmo2.below al4).rd
                    have hgb := Lib.hid G.lt
                    clear hb hba al4 G wt bl hown g0 g1 g2
                    go_upto_region 18 with (first | (with_reducible refine stM_under md _ _ rfl _ _ rfl rfl rfl rfl ?_) | fail)
                    generalize (w4.alloc (.cells (msA md) 39)).alloc (.cells #[.int .i64 ρ, .slice A4 n' c4, .int .i64 ((i : Int) + 1 - P3)] 24) = w5 at *
                    generalize w4.heap.size = g4 at *

                    obtain ⟨b3, o3, hA3, hb3, hc3⟩ := wt4.rd.at_ (k := 0) (x := y) rfl
                    have hc0 : ∀ j v, (msc y)[j]? = some v → w5.cell? ⟨b3, o3 + j, none⟩ = some v := fun j v h => by have := hc3 j v h; rwa [show o3 + 0 * 17 + j = o3 + j by omega] at this
                    have HC0 := Lib.hid hc0
                    have HA3 := Lib.hid hA3
                    clear hc3 hc0
                    have hya : md.abs = y.abs := by
                      have h := S1.out
                      rw [List.map_cons, List.map_cons] at h
                      injection h with h1 _
                      exact hmd.trans h1
                    have hta : t4.map MsV.abs = q.map MsV.abs := by
                      have h := S1.out
                      rw [List.map_cons, List.map_cons] at h
                      injection h with _ h2
                      exact ht4.trans h2
                    have HTA := Lib.hid hta
                    have yl := S4.out y (by simp)
                    have hyrd := HRD.out y yl
                    have CS := Lib.hid (fun W h1 h2 => same_yes md y W h1 h2 hya (few_of_abs hya.symm (HF.out y yl)))
                    clear hya hta yl hmd ht4
                    rw [hA3]
                    clear hA3
                    have HB : Hid (∀ W, Below w5.heap.size w5 W → (fun W : World => Ob W g4 (msA md) 39 ∧ (∀ j v, (msc y)[j]? = some v → W.cell? ⟨b3, o3 + j, none⟩ = some v)) W) := Lib.hid fun W hb => ⟨M4.call hb, fun j v h => (hb.cell (p := ⟨b3, o3 + j, none⟩) hb3).trans (HC0.out j v h)⟩
                    have bq := Below.drew (Below.refl w5.heap.size w5)
                    refine wp_region_held_drew (S := fun W : World => Ob W g4 (msA md) 39 ∧ (∀ j v, (msc y)[j]? = some v → W.cell? ⟨b3, o3 + j, none⟩ = some v)) (by kernel_rfl) (HB.out _ bq) (fun hHeld => ?_)
                    refine take_d (i := 0) (oi := _) (v := ?_) (d := some 72) rfl (by kernel_rfl) (by as_aux_lemma => kernel_rfl) (by as_aux_lemma => kernel_rfl) (by as_aux_lemma => kernel_rfl) (fun _ _ _ h => h) (Or.inl ⟨by kernel_rfl, ?_⟩) hHeld ?_
                    rotate_left
                    · intro w hSw; (try dsimp only at hSw); go_simp; (try with_reducible rfl)
                    try simp only [Act.put, List.setIfInBounds_toArray, List.set_cons_zero, List.set_cons_succ]
                    refine take_d (i := 1) (oi := _) (v := ?_) (d := some 73) rfl (by kernel_rfl) (by as_aux_lemma => kernel_rfl) (by as_aux_lemma => kernel_rfl) (by as_aux_lemma => kernel_rfl) (fun _ _ _ h => h) (Or.inl ⟨by kernel_rfl, ?_⟩) hHeld ?_
                    rotate_left
                    · intro w hSw; (try dsimp only at hSw); go_simp; (try with_reducible rfl)
                    try simp only [Act.put, List.setIfInBounds_toArray, List.set_cons_zero, List.set_cons_succ]
                    refine take_d (i := 2) (oi := _) (v := ?_) (d := some 74) rfl (by kernel_rfl) (by as_aux_lemma => kernel_rfl) (by as_aux_lemma => kernel_rfl) (by as_aux_lemma => kernel_rfl) (fun _ _ _ h => h) (Or.inl ⟨by kernel_rfl, ?_⟩) hHeld ?_
                    rotate_left
                    · intro w hSw; (try dsimp only at hSw); go_simp; (try with_reducible rfl)
                    try simp only [Act.put, List.setIfInBounds_toArray, List.set_cons_zero, List.set_cons_succ]
                    refine take_d (i := 3) (oi := _) (v := .bool true) (d := some 75) rfl (by kernel_rfl) (by as_aux_lemma => kernel_rfl) (by as_aux_lemma => kernel_rfl) (by as_aux_lemma => kernel_rfl) (fun _ _ _ h => h) (Or.inl ⟨by kernel_rfl, ?_⟩) hHeld ?_
                    · intro W hSw
                      go_simp; first | done | (simp; done) | (simp; omega)
                    try simp only [Act.put, List.setIfInBounds_toArray, List.set_cons_zero, List.set_cons_succ]
                    refine take_d (i := 4) (oi := _) (v := .bool false) (d := some 76) rfl (by kernel_rfl) (by as_aux_lemma => kernel_rfl) (by as_aux_lemma => kernel_rfl) (by as_aux_lemma => kernel_rfl) (fun _ _ _ h => h) (Or.inl ⟨by kernel_rfl, ?_⟩) hHeld ?_
                    · intro W hSw
                      go_simp; first | done | simp
                    try simp only [Act.put, List.setIfInBounds_toArray, List.set_cons_zero, List.set_cons_succ]
                    refine take_d (i := 5) (oi := _) (v := ?_) (d := some 77) rfl (by kernel_rfl) (by as_aux_lemma => kernel_rfl) (by as_aux_lemma => kernel_rfl) (by as_aux_lemma => kernel_rfl) (fun _ _ _ h => h) (Or.inl ⟨by kernel_rfl, ?_⟩) hHeld ?_
                    rotate_left
                    · intro w hSw; (try dsimp only at hSw); go_simp; (try with_reducible rfl)
                    try simp only [Act.put, List.setIfInBounds_toArray, List.set_cons_zero, List.set_cons_succ]
                    refine take_d (i := 6) (oi := _) (v := ?_) (d := some 78) rfl (by kernel_rfl) (by as_aux_lemma => kernel_rfl) (by as_aux_lemma => kernel_rfl) (by as_aux_lemma => kernel_rfl) (fun _ _ _ h => h) (Or.inl ⟨by kernel_rfl, ?_⟩) hHeld ?_
                    rotate_left
                    · intro w hSw; (try dsimp only at hSw); go_simp; (try with_reducible rfl)
                    try simp only [Act.put, List.setIfInBounds_toArray, List.set_cons_zero, List.set_cons_succ]
                    refine take_d (i := 7) (oi := _) (v := ?_) (d := some 79) rfl (by kernel_rfl) (by as_aux_lemma => kernel_rfl) (by as_aux_lemma => kernel_rfl) (by as_aux_lemma => kernel_rfl) (fun _ _ _ h => h) (Or.inl ⟨by kernel_rfl, ?_⟩) hHeld ?_
                    rotate_left
                    · intro w hSw; (try dsimp only at hSw); go_simp; (try with_reducible rfl)
                    try simp only [Act.put, List.setIfInBounds_toArray, List.set_cons_zero, List.set_cons_succ]
                    refine take_d (i := 8) (oi := _) (v := (.agg (msA md))) (d := some 80) rfl (by kernel_rfl) (by as_aux_lemma => kernel_rfl) (by as_aux_lemma => kernel_rfl) (by as_aux_lemma => kernel_rfl) (fun _ _ _ h => h) (yl_M md _ 0 (fun W h => obM h.1) (by kernel_rfl) _ rfl rfl) hHeld ?_
                    try simp only [Act.put, List.setIfInBounds_toArray, List.set_cons_zero, List.set_cons_succ]
                    refine take_d (i := 9) (oi := _) (v := ?_) (d := some 81) rfl (by kernel_rfl) (by as_aux_lemma => kernel_rfl) (by as_aux_lemma => kernel_rfl) (by as_aux_lemma => kernel_rfl) (fun _ _ _ h => h) (Or.inl ⟨by kernel_rfl, ?_⟩) hHeld ?_
                    rotate_left
                    · intro w hSw; (try dsimp only at hSw); go_simp; (try with_reducible rfl)
                    try simp only [Act.put, List.setIfInBounds_toArray, List.set_cons_zero, List.set_cons_succ]
                    refine take_d (i := 10) (oi := _) (v := .pointer (some ⟨b3, o3, none⟩)) (d := some 82) rfl (by kernel_rfl) (by as_aux_lemma => kernel_rfl) (by as_aux_lemma => kernel_rfl) (by as_aux_lemma => kernel_rfl) (fun _ _ _ h => h) (Or.inl ⟨by kernel_rfl, ?_⟩) hHeld ?_
                    · intro W hSw
                      go_simp; first | done | (simp; done) | (rw [if_pos (by omega)])
                    try simp only [Act.put, List.setIfInBounds_toArray, List.set_cons_zero, List.set_cons_succ]
                    refine take_d (i := 11) (oi := _) (v := (.agg (msA y))) (d := some 83) rfl (by kernel_rfl) (by as_aux_lemma => kernel_rfl) (by as_aux_lemma => kernel_rfl) (by as_aux_lemma => kernel_rfl) (fun _ _ _ h => h) (yl_M y _ _ (fun W h => h.2) (by kernel_rfl) _ rfl rfl) hHeld ?_
                    try simp only [Act.put, List.setIfInBounds_toArray, List.set_cons_zero, List.set_cons_succ]
                    refine wpAnyH_ready (rs := [12]) (by kernel_rfl) (by simp) ?_
                    refine AllReadyH.cons rfl (fun K hK => ?_) AllReadyH.nil
                    go_simp
                    refine (CS.out _ (mo4.up bq) (hyrd.up (Gw.call bl4 bq))).mono ?_
                    rintro e u1 ⟨rfl, hb⟩
                    replace bq := Gw.call bq hb
                    clear hb
                    dsimp only
                    refine hK.out _ _ (HB.out _ bq) (fun hHeld => ?_)
                    clear hK K
                    try simp only [Act.put, List.setIfInBounds_toArray, List.set_cons_zero, List.set_cons_succ]
                    refine take_d (i := 13) (oi := _) (v := ?_) (d := some 85) rfl (by kernel_rfl) (by as_aux_lemma => kernel_rfl) (by as_aux_lemma => kernel_rfl) (by as_aux_lemma => kernel_rfl) (fun _ _ _ h => h) (Or.inl ⟨by kernel_rfl, ?_⟩) hHeld ?_
                    rotate_left
                    · intro w hSw; (try dsimp only at hSw); go_simp; (try with_reducible rfl)
                    try simp only [Act.put, List.setIfInBounds_toArray, List.set_cons_zero, List.set_cons_succ]
                    refine take_d (i := 14) (oi := _) (v := ?_) (d := some 86) rfl (by kernel_rfl) (by as_aux_lemma => kernel_rfl) (by as_aux_lemma => kernel_rfl) (by as_aux_lemma => kernel_rfl) (fun _ _ _ h => h) (Or.inl ⟨by kernel_rfl, ?_⟩) hHeld ?_
                    rotate_left
                    · intro w hSw; (try dsimp only at hSw); go_simp; (try with_reducible rfl)
                    try simp only [Act.put, List.setIfInBounds_toArray, List.set_cons_zero, List.set_cons_succ]
                    refine take_d (i := 15) (oi := _) (v := ?_) (d := some 87) rfl (by kernel_rfl) (by as_aux_lemma => kernel_rfl) (by as_aux_lemma => kernel_rfl) (by as_aux_lemma => kernel_rfl) (fun _ _ _ h => h) (Or.inl ⟨by kernel_rfl, ?_⟩) hHeld ?_
                    rotate_left
                    · intro w hSw; (try dsimp only at hSw); go_simp; (try with_reducible rfl)
                    try simp only [Act.put, List.setIfInBounds_toArray, List.set_cons_zero, List.set_cons_succ]
                    refine take_d (i := 16) (oi := _) (v := ?_) (d := some 88) rfl (by kernel_rfl) (by as_aux_lemma => kernel_rfl) (by as_aux_lemma => kernel_rfl) (by as_aux_lemma => kernel_rfl) (fun _ _ _ h => h) (Or.inl ⟨by kernel_rfl, ?_⟩) hHeld ?_
                    rotate_left
                    · intro w hSw; (try dsimp only at hSw); go_simp; (try with_reducible rfl)
                    try simp only [Act.put, List.setIfInBounds_toArray, List.set_cons_zero, List.set_cons_succ]
                    refine take_d (i := 17) (oi := _) (v := ?_) (d := some 89) rfl (by kernel_rfl) (by as_aux_lemma => kernel_rfl) (by as_aux_lemma => kernel_rfl) (by as_aux_lemma => kernel_rfl) (fun _ _ _ h => h) (Or.inl ⟨by kernel_rfl, ?_⟩) hHeld ?_
                    rotate_left
                    · intro w hSw; (try dsimp only at hSw); go_simp; (try with_reducible rfl)
                    try simp only [Act.put, List.setIfInBounds_toArray, List.set_cons_zero, List.set_cons_succ]
                    refine take_d (i := 18) (oi := _) (v := ?_) (d := some 90) rfl (by kernel_rfl) (by as_aux_lemma => kernel_rfl) (by as_aux_lemma => kernel_rfl) (by as_aux_lemma => kernel_rfl) (fun _ _ _ h => h) (Or.inl ⟨by kernel_rfl, ?_⟩) hHeld ?_
                    rotate_left
                    · intro w hSw; (try dsimp only at hSw); go_simp; (try with_reducible rfl)
                    try simp only [Act.put, List.setIfInBounds_toArray, List.set_cons_zero, List.set_cons_succ]
                    refine take_d (i := 19) (oi := _) (v := ?_) (d := some 91) rfl (by kernel_rfl) (by as_aux_lemma => kernel_rfl) (by as_aux_lemma => kernel_rfl) (by as_aux_lemma => kernel_rfl) (fun _ _ _ h => h) (Or.inl ⟨by kernel_rfl, ?_⟩) hHeld ?_
                    rotate_left
                    · intro w hSw; (try dsimp only at hSw); go_simp; (try with_reducible rfl)
                    try simp only [Act.put, List.setIfInBounds_toArray, List.set_cons_zero, List.set_cons_succ]
                    refine take_d (i := 20) (oi := _) (v := undef) (d := some 92) rfl (by kernel_rfl) (by as_aux_lemma => kernel_rfl) (by as_aux_lemma => kernel_rfl) (by as_aux_lemma => kernel_rfl) (fun _ _ _ h => h) (Or.inr ⟨by kernel_rfl, rfl⟩) hHeld ?_
                    try simp only [Act.put, List.setIfInBounds_toArray, List.set_cons_zero, List.set_cons_succ]
                    refine take_d (i := 21) (oi := _) (v := undef) (d := some 93) rfl (by kernel_rfl) (by as_aux_lemma => kernel_rfl) (by as_aux_lemma => kernel_rfl) (by as_aux_lemma => kernel_rfl) (fun _ _ _ h => h) (Or.inr ⟨by kernel_rfl, rfl⟩) hHeld ?_
                    try simp only [Act.put, List.setIfInBounds_toArray, List.set_cons_zero, List.set_cons_succ]
                    refine take_d (i := 22) (oi := _) (v := undef) (d := some 94) rfl (by kernel_rfl) (by as_aux_lemma => kernel_rfl) (by as_aux_lemma => kernel_rfl) (by as_aux_lemma => kernel_rfl) (fun _ _ _ h => h) (Or.inr ⟨by kernel_rfl, rfl⟩) hHeld ?_
                    try simp only [Act.put, List.setIfInBounds_toArray, List.set_cons_zero, List.set_cons_succ]
                    refine take_d (i := 23) (oi := _) (v := undef) (d := some 95) rfl (by kernel_rfl) (by as_aux_lemma => kernel_rfl) (by as_aux_lemma => kernel_rfl) (by as_aux_lemma => kernel_rfl) (fun _ _ _ h => h) (Or.inr ⟨by kernel_rfl, rfl⟩) hHeld ?_
                    try simp only [Act.put, List.setIfInBounds_toArray, List.set_cons_zero, List.set_cons_succ]
                    refine take_d (i := 24) (oi := _) (v := ?_) (d := some 96) rfl (by kernel_rfl) (by as_aux_lemma => kernel_rfl) (by as_aux_lemma => kernel_rfl) (by as_aux_lemma => kernel_rfl) (fun _ _ _ h => h) (Or.inl ⟨by kernel_rfl, ?_⟩) hHeld ?_
                    rotate_left
                    · intro w hSw; (try dsimp only at hSw); go_simp; (try with_reducible rfl)
                    try simp only [Act.put, List.setIfInBounds_toArray, List.set_cons_zero, List.set_cons_succ]
                    refine take_d (i := 25) (oi := _) (v := ?_) (d := some 97) rfl (by kernel_rfl) (by as_aux_lemma => kernel_rfl) (by as_aux_lemma => kernel_rfl) (by as_aux_lemma => kernel_rfl) (fun _ _ _ h => h) (Or.inl ⟨by kernel_rfl, ?_⟩) hHeld ?_
                    rotate_left
                    · intro w hSw; (try dsimp only at hSw); go_simp; (try with_reducible rfl)
                    try simp only [Act.put, List.setIfInBounds_toArray, List.set_cons_zero, List.set_cons_succ]
                    refine wpAnyH_done (by kernel_rfl) ?_ _
                    clear HB hHeld
                    have G5 := G4.call bq
                    have P5 := P4.call bq
                    have wt5 := wt4.below bq
                    have bl5 := Gw.call bl4 bq
                    have o5 := o4.below bq
                    have hcap := Lib.hid o5.cap
                    clear G4 P4 M4 wt4 bl4 o4 bq
                    have k0 := G5.blk.2.1 0 _ rfl
                    have k1 := G5.blk.2.1 1 _ rfl
                    have k2 := G5.blk.2.1 2 _ rfl
                    have kf := G5.blk.2.2
                    have p0 := P5.blk.2.1 0 _ rfl
                    have p1 := P5.blk.2.1 1 _ rfl
                    have p2 := P5.blk.2.1 2 _ rfl
                    have G6 := ((G5.set 0 (.int .i64 ρ)).set 1 (.slice A4 n' c4)).set 2 (.int .i64 ((i : Int) + 1 - P3))
                    have HG := ((grown_set u1 ⟨g7, 0, none⟩ (.int .i64 ρ)).trans (grown_set _ ⟨g7, 1, none⟩ (.slice A4 n' c4))).trans (grown_set _ ⟨g7, 2, none⟩ (.int .i64 ((i : Int) + 1 - P3)))
                    have wt6 := wt5.hop HG (by show g7 < g7 + 1; omega)
                    have bl6 := Gw.hop bl5 HG (by show w.heap.size ≤ g7; omega)
                    have o6 := (o5.hop HG hgb.out).rd
                    have wt7 := wt6.tail
                    have cw1 : 1 ≤ cw := by have := wt6.2.1; omega
                    have c1i : (1 : Int) ≤ (cw : Int) := by omega
                    obtain ⟨AX, hAX⟩ : ∃ AX, AX = (if cw = 1 then some (⟨b3, o3, none⟩ : Addr) else some ⟨b3, o3 + 17, none⟩) := ⟨_, rfl⟩
                    have hw8 : (if cw = 1 then Aw else Aw.map (·.add 17)) = AX := by rw [hAX, HA3.out]; simp [Addr.add]
                    rw [hw8, show n' + 1 - 1 = n' by omega] at wt7
                    have hAX2 : (if cw = 1 then some (⟨b3, o3, none⟩ : Addr) else some ⟨b3, o3 + 17, none⟩) = AX := hAX.symm
                    have hKb : K ≤ 1000 := by have := S5.out; omega
                    have hS5 : Hid (n' + (K + 1) = P3) := Lib.hid (by have := S5.out; omega)
                    have hS6 : Hid ((n' : Int) ≤ (if ρ < 0 then 0 else ρ)) := Lib.hid (by have := S6.out; omega)
                    clear HG wt5 bl5 G5 P5 o5 CS wt6 hAX hw8
                    go_wp2_with fail
                    go_roundw
                    case rel => exact ⟨k + 1, K + 1, n', AX, cw - 1, hkd, by go_num, rfl, by go_num, ⟨A4, c4, t4, q, HTA.out, by have := S2.out; simpa using this, hcap.out.1.symm, (fun z hz => S4.out z (by simp [hz])), hS5.out, hS6.out, G6, o6, hcap.out.2.1, hcap.out.2.2, wt7⟩, bl6⟩
                    case measure => simp [intOf]; omega
                · obtain rfl : k = dd := by omega
                  go_wp2_with fail
                  go_roundw
                  case rel => exact ⟨j + 1, K, n, Aw, cw, hjD, by go_num, rfl, rfl, ⟨Ao, co, lo, q, s1, s2, s3, s4, s5, s6, G, rl, s9, s10, wt⟩, bl⟩
                  case measure => simp [intOf]; omega
            · obtain rfl : j = D := by omega
              obtain ⟨Ao, co, lo, q, s1, s2, s3, s4, s5, s6, G, rl, s9, s10, wt⟩ := hSt
              have n12 : n ≤ 12 := by split at s6 <;> omega
              obtain ⟨mx, hmx⟩ : ∃ mx : Int, (if ρ < 0 then 0 else ρ) = mx := ⟨_, rfl⟩
              have HS := Lib.hid (show Sto l g7 ρ ((i : Int) + 1 - P3) P3 wr Aw cw n K Ao co lo q from ⟨s1, s2, s3, s4, s5, s6, G, rl, s9, s10, wt⟩)
              rw [hmx] at s6
              have u1 : ((n : Int) != (n : Int)) = false := by simp
              have u2 : (((i : Int) + 1 - (P3 : Int)) != ((i : Int) + 1 - (P3 : Int))) = false := by simp
              have u3 : decide (mx < (n : Int)) = false := by simp; omega
              have u4 : ((P3 : Int) != (P3 : Int)) = false := by simp
              have e5 : (n : Int) + (K : Int) = (P3 : Int) := by omega
              have u5 : ¬mx < (n : Int) := by omega
              have g0 := G.blk.2.1 0 _ rfl
              have g1 := G.blk.2.1 1 _ rfl
              have g2 := G.blk.2.1 2 _ rfl
              have bq := Below.refl wr.heap.size wr
              have LO := Lib.hid s3
              have QO := Lib.hid s2
              have S1 := Lib.hid s1
              have S4 := Lib.hid s4
              have S5 := Lib.hid s5
              clear s1 s2 s3 s4 s5 s9 s10
              go_wp2_with fail
              clear g0 g1 g2 u1 u2 u3 u4 e5 u5 hmx s6
              obtain ⟨W0, hW0⟩ : ∃ W0 : World, W0 = wr := ⟨wr, rfl⟩
              subst hW0
              go_loopw [141] (fun kv wr => ∃ k : Nat, k ≤ n ∧ kv = .int .i64 k ∧ Below W0.heap.size W0 wr) (fun kv _ => n - (intOf kv).toNat)
              case atStart => exact ⟨0, Nat.zero_le _, rfl, bq⟩
              case round =>
                clear bq
                obtain ⟨k, hk, rfl, bq⟩ := hrel
                by_cases hkn : k < n
                · obtain ⟨x1, hx1⟩ : ∃ x1, lo[k]? = some x1 := ⟨_, List.getElem?_eq_getElem (by rw [LO.out]; exact hkn)⟩
                  obtain ⟨y1, hy1⟩ : ∃ y1, q[k]? = some y1 := ⟨_, List.getElem?_eq_getElem (by rw [QO.out]; exact hkn)⟩
                  have hxy : x1.abs = y1.abs := by
                    have h := congrArg (fun l => l[k]?) S1.out
                    simp only [List.getElem?_map, hx1, hy1, Option.map_some] at h
                    injection h
                  have yl := S4.out y1 (List.mem_of_getElem? hy1)
                  have hyrd := HRD.out y1 yl
                  have hxrd := rl.row x1 (List.mem_of_getElem? hx1)
                  have CS := Lib.hid (fun W h1 h2 => same_yes x1 y1 W h1 h2 hxy (few_of_abs hxy.symm (HF.out y1 yl)))
                  obtain ⟨b1, o1, hA1, hb1, hc1⟩ := rl.out.at_ hx1
                  obtain ⟨b2, o2, hA2, hb2, hc2⟩ := wt.rd.at_ hy1
                  have G1 := G.call bq
                  rw [hA1] at G1
                  have HC1 := Lib.hid hc1
                  have HC2 := Lib.hid hc2
                  have kn : (k : Int) < (n : Int) := by omega
                  rw [hA2]
                  have HA1 := Lib.hid hA1
                  have HA2 := Lib.hid hA2
                  have g1 := G1.blk.2.1 1 _ rfl
                  clear hx1 hy1 hxy yl hA1 hA2 hc1 hc2
                  go_upto_region 31 with fail
                  have bp := Below.drew (Below.refl wr.heap.size wr)

                  have HB : Hid (∀ W, Below wr.heap.size wr W → (fun W : World => W.cell? ⟨g7, 1, none⟩ = some (.slice (some ⟨b1, o1, none⟩) n co) ∧ (∀ j v, (msc x1)[j]? = some v → W.cell? ⟨b1, o1 + k * 17 + j, none⟩ = some v) ∧ (∀ j v, (msc y1)[j]? = some v → W.cell? ⟨b2, o2 + k * 17 + j, none⟩ = some v)) W) := Lib.hid fun W hb => ⟨(G1.call hb).blk.2.1 1 _ rfl, fun j v h => ((Gw.call bq hb).cell (p := ⟨b1, o1 + k * 17 + j, none⟩) hb1).trans (HC1.out j v h), fun j v h => ((Gw.call bq hb).cell (p := ⟨b2, o2 + k * 17 + j, none⟩) hb2).trans (HC2.out j v h)⟩
                  refine wp_region_held_drew (S := fun W : World => W.cell? ⟨g7, 1, none⟩ = some (.slice (some ⟨b1, o1, none⟩) n co) ∧ (∀ j v, (msc x1)[j]? = some v → W.cell? ⟨b1, o1 + k * 17 + j, none⟩ = some v) ∧ (∀ j v, (msc y1)[j]? = some v → W.cell? ⟨b2, o2 + k * 17 + j, none⟩ = some v)) (by kernel_rfl) (HB.out _ bp) (fun hHeld => ?_)
                  refine take_d (i := 0) (oi := _) (v := ?_) (d := some 144) rfl (by kernel_rfl) (by as_aux_lemma => kernel_rfl) (by as_aux_lemma => kernel_rfl) (by as_aux_lemma => kernel_rfl) (fun _ _ _ h => h) (Or.inl ⟨by kernel_rfl, ?_⟩) hHeld ?_
                  rotate_left
                  · intro w hSw; (try dsimp only at hSw); go_simp; (try with_reducible rfl)
                  try simp only [Act.put, List.setIfInBounds_toArray, List.set_cons_zero, List.set_cons_succ]
                  refine take_d (i := 1) (oi := _) (v := ?_) (d := some 145) rfl (by kernel_rfl) (by as_aux_lemma => kernel_rfl) (by as_aux_lemma => kernel_rfl) (by as_aux_lemma => kernel_rfl) (fun _ _ _ h => h) (Or.inl ⟨by kernel_rfl, ?_⟩) hHeld ?_
                  rotate_left
                  · intro w hSw; (try dsimp only at hSw); go_simp; (try with_reducible rfl)
                  try simp only [Act.put, List.setIfInBounds_toArray, List.set_cons_zero, List.set_cons_succ]
                  refine take_d (i := 2) (oi := _) (v := ?_) (d := some 146) rfl (by kernel_rfl) (by as_aux_lemma => kernel_rfl) (by as_aux_lemma => kernel_rfl) (by as_aux_lemma => kernel_rfl) (fun _ _ _ h => h) (Or.inl ⟨by kernel_rfl, ?_⟩) hHeld ?_
                  rotate_left
                  · intro w hSw; (try dsimp only at hSw); go_simp; (try with_reducible rfl)
                  try simp only [Act.put, List.setIfInBounds_toArray, List.set_cons_zero, List.set_cons_succ]
                  refine take_d (i := 3) (oi := _) (v := ?_) (d := some 147) rfl (by kernel_rfl) (by as_aux_lemma => kernel_rfl) (by as_aux_lemma => kernel_rfl) (by as_aux_lemma => kernel_rfl) (fun _ _ _ h => h) (Or.inl ⟨by kernel_rfl, ?_⟩) hHeld ?_
                  rotate_left
                  · intro w hSw; (try dsimp only at hSw); go_simp; (try with_reducible rfl)
                  try simp only [Act.put, List.setIfInBounds_toArray, List.set_cons_zero, List.set_cons_succ]
                  refine take_d (i := 4) (oi := _) (v := (.agg (msA x1))) (d := some 148) rfl (by kernel_rfl) (by as_aux_lemma => kernel_rfl) (by as_aux_lemma => kernel_rfl) (by as_aux_lemma => kernel_rfl) (fun _ _ _ h => h) (yl_M x1 _ _ (fun W h => h.2.1) (by kernel_rfl) _ rfl rfl) hHeld ?_
                  try simp only [Act.put, List.setIfInBounds_toArray, List.set_cons_zero, List.set_cons_succ]
                  refine take_d (i := 5) (oi := _) (v := ?_) (d := some 149) rfl (by kernel_rfl) (by as_aux_lemma => kernel_rfl) (by as_aux_lemma => kernel_rfl) (by as_aux_lemma => kernel_rfl) (fun _ _ _ h => h) (Or.inl ⟨by kernel_rfl, ?_⟩) hHeld ?_
                  rotate_left
                  · intro w hSw; (try dsimp only at hSw); go_simp; (try with_reducible rfl)
                  try simp only [Act.put, List.setIfInBounds_toArray, List.set_cons_zero, List.set_cons_succ]
                  refine take_d (i := 6) (oi := _) (v := ?_) (d := some 150) rfl (by kernel_rfl) (by as_aux_lemma => kernel_rfl) (by as_aux_lemma => kernel_rfl) (by as_aux_lemma => kernel_rfl) (fun _ _ _ h => h) (Or.inl ⟨by kernel_rfl, ?_⟩) hHeld ?_
                  rotate_left
                  · intro w hSw; (try dsimp only at hSw); go_simp; (try with_reducible rfl)
                  try simp only [Act.put, List.setIfInBounds_toArray, List.set_cons_zero, List.set_cons_succ]
                  refine take_d (i := 7) (oi := _) (v := ?_) (d := some 151) rfl (by kernel_rfl) (by as_aux_lemma => kernel_rfl) (by as_aux_lemma => kernel_rfl) (by as_aux_lemma => kernel_rfl) (fun _ _ _ h => h) (Or.inl ⟨by kernel_rfl, ?_⟩) hHeld ?_
                  rotate_left
                  · intro w hSw; (try dsimp only at hSw); go_simp; (try with_reducible rfl)
                  try simp only [Act.put, List.setIfInBounds_toArray, List.set_cons_zero, List.set_cons_succ]
                  refine take_d (i := 8) (oi := _) (v := (.agg (msA y1))) (d := some 152) rfl (by kernel_rfl) (by as_aux_lemma => kernel_rfl) (by as_aux_lemma => kernel_rfl) (by as_aux_lemma => kernel_rfl) (fun _ _ _ h => h) (yl_M y1 _ _ (fun W h => h.2.2) (by kernel_rfl) _ rfl rfl) hHeld ?_
                  try simp only [Act.put, List.setIfInBounds_toArray, List.set_cons_zero, List.set_cons_succ]
                  refine wpAnyH_ready (rs := [9]) (by kernel_rfl) (by simp) ?_
                  refine AllReadyH.cons rfl (fun K hK => ?_) AllReadyH.nil
                  go_simp
                  refine (CS.out _ (hxrd.up (Gw.call bq bp)) (hyrd.up (Gw.call bl (Gw.call bq bp)))).mono ?_
                  rintro e u1 ⟨rfl, hb⟩
                  replace bp := Gw.call bp hb
                  clear hb
                  dsimp only
                  refine hK.out _ _ (HB.out _ bp) (fun hHeld => ?_)
                  clear hK K
                  try simp only [Act.put, List.setIfInBounds_toArray, List.set_cons_zero, List.set_cons_succ]
                  refine take_d (i := 10) (oi := _) (v := ?_) (d := some 154) rfl (by kernel_rfl) (by as_aux_lemma => kernel_rfl) (by as_aux_lemma => kernel_rfl) (by as_aux_lemma => kernel_rfl) (fun _ _ _ h => h) (Or.inl ⟨by kernel_rfl, ?_⟩) hHeld ?_
                  rotate_left
                  · intro w hSw; (try dsimp only at hSw); go_simp; (try with_reducible rfl)
                  try simp only [Act.put, List.setIfInBounds_toArray, List.set_cons_zero, List.set_cons_succ]
                  refine wpAnyH_done (by kernel_rfl) ?_ _
                  clear HB hHeld CS g1 G1
                  go_wp2_with fail
                  go_roundw
                  case rel => exact ⟨k + 1, hkn, by go_num, Gw.call bq bp⟩
                  case measure => simp [intOf]; omega
                · obtain rfl : k = n := by omega
                  have hP3' : P3 ≤ i + 1 := hP3
                  obtain ⟨s1, s2, s3, s4, s5, s6, G, rl, s9, s10, wt⟩ := HS.out
                  clear HS
                  go_wp2_with fail
                  go_roundw
                  case rel => exact ⟨i + 1, P3, K, k, Aw, cw, hil, hP3', by go_num, rfl, rfl, rfl, ⟨Ao, co, lo, q, s1, s2, s3, s4, s5, s6, by rw [show ((i + 1 : Nat) : Int) - (P3 : Int) = (i : Int) + 1 - P3 by omega]; exact G.call bq, rl.up bq, s9, s10, wt.below bq⟩, Gw.call bl bq⟩
                  case measure => simp [intOf]; omega
    · obtain rfl : i = l.length := by omega
      go_wp2_with fail
      refine (awake_any _).mono ?_
      rintro e w9 ⟨rfl, hb⟩
      go_wp2_with fail
      go_ret
      exact ⟨rfl, Gw.call bl hb⟩
end Go.Proofs.Ytbengmgfddnkhaa
