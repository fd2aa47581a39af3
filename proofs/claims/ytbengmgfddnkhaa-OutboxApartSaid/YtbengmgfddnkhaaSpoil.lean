/-
  OutboxApart's spoil: the contract (21).
-/
import Derived.Test.YtbengmgfddnkhaaShape
namespace Go.Proofs.Ytbengmgfddnkhaa
open Go.RowKit
section
variable {α : Type} {enc : α → List Value} {sz base lo hi : Nat} {E : TypeId} {w w' : World} {A : Option Addr} {l : List α} {n c : Nat}
/-- an own row's element k, its cells and marks -/
theorem Own.spot (hs : ∀ x, (enc x).length = sz) (h : Own enc sz E base w (.slice A n c) l) {k : Nat} {x : α} (hx : l[k]? = some x) :
    ∃ g, A = some ⟨g, 0, none⟩ ∧ base ≤ g ∧ g < w.heap.size ∧ (∀ j v, (enc x)[j]? = some v → w.cell? ⟨g, k * sz + j, none⟩ = some v) ∧ ∀ o, w.frozen? ⟨g, o, none⟩ = false := by
  have hk : k < l.length := (List.getElem?_eq_some_iff.1 hx).1
  obtain ⟨b, o, hA, hb, hc⟩ := (h.rd hs) (by omega)
  rcases h.2 with ⟨_, h0⟩ | ⟨g, cap, cur, hv, hg, hh, _⟩
  · omega
  · injection hv with hA' _ _
    rw [hA] at hA'
    injection hA' with e
    injection e with e1 e2 e3
    subst e1; subst e2
    exact ⟨b, hA, hg, hb, fun j v hj => by simpa using hc k x hx j v hj, fun o => by simp [World.frozen?, hh]⟩
end
theorem Ob.cell_far {W : World} {g : Nat} {cs : Array Value} {T : TypeId} (h : Ob W g cs T) {p : Addr} (hne : p.block ≠ g) (u : Value) : Ob (W.setCell p u) g cs T := (Below.heap_setCell _ _ _ _ (Ne.symm hne)).trans h
set_option maxRecDepth 100000 in
set_option maxHeartbeats 4000000 in
theorem spoil_any (x : MsV) (lo hi : Nat) (w : World) (ho : x.own lo w) (hr : x.rd hi w) (hf : x.few) (hh : hi ≤ w.heap.size) :
    Calls Try.prog 16 #[msv x] w fun e w' => e = .returned (.tuple #[]) ∧ Shape lo hi w w' := by
  obtain ⟨f1, f2, f3, f4, f5, f6, f7⟩ := id hf
  have b0 := Gw.al (Below.refl w.heap.size w) (.cells (msA x) 39)
  have G := Ob.new w (msA x) 39
  have g4 : (w.alloc (.cells (msA x) 39)).cell? ⟨w.heap.size, 4, none⟩ = some (.slice x.LA x.L.length x.Lc) := G.blk.2.1 4 _ rfl
  have s0 : Shape lo hi w (w.alloc (.cells (msA x) 39)) := Shape.ofBelow b0 hh
  go_enter Try.func16, Try.ntmps16
  go_wp2_with fail
  generalize w.alloc (.cells (msA x) 39) = w1 at *
  clear g4
  go_loopw [12] (fun i wr => ∃ k : Nat, k ≤ x.L.length ∧ i = .int .i64 k ∧ Shape lo hi w wr ∧ Ob wr w.heap.size (msA x) 39) (fun i _ => x.L.length - (intOf i).toNat)
  case atStart => exact ⟨0, Nat.zero_le _, rfl, s0, G⟩
  case round =>
    obtain ⟨k, hk, rfl, sw, G1⟩ := hrel
    clear G s0 b0
    by_cases hlt : k < x.L.length
    · obtain ⟨d, hd⟩ : ∃ d, x.L[k]? = some d := ⟨_, List.getElem?_eq_getElem hlt⟩
      obtain ⟨g, hA, hgl, hgw, hcs, hfz⟩ := Own.spot dsc_len ho.L hd
      have hgh : g < hi := by
        obtain ⟨b, o, hA', hb, _⟩ := hr.L (by omega)
        rw [hA] at hA'; injection hA' with e; injection e with e1; omega
      obtain ⟨z, hz⟩ := sw.int hgl hgh (p := ⟨g, k * 4 + 2, none⟩) (hcs 2 _ rfl)
      have hfl := sw.keep hgl hgh (p := ⟨g, k * 4 + 3, none⟩) (hcs 3 _ rfl)
      have hf2 := (sw.frz ⟨g, k * 4 + 2, none⟩ hgw).trans (hfz _)
      have g4 : wr.cell? ⟨w.heap.size, 4, none⟩ = some (.slice (some ⟨g, 0, none⟩) x.L.length x.Lc) := by rw [← hA]; exact G1.blk.2.1 4 _ rfl
      have ki : (k : Int) < (x.L.length : Int) := by omega
      have HC := Lib.hid (show w.cell? ⟨g, k * 4 + 3, none⟩ = some (.slice d.A d.l.length d.c) from hcs 3 _ rfl)
      have HA := Lib.hid hA
      clear hcs hfz hA
      have dF := ho.F d (List.mem_of_getElem? hd)
      have dR := hr.F d (List.mem_of_getElem? hd)
      have dl := f2 d (List.mem_of_getElem? hd)
      clear hd
      go_wp2_with fail
      have sw2 := sw.store (z' := (z + 1) % 256) hgl hgh hz
      have G2 := Ob.cell_far G1 (p := ⟨g, k * 4 + 2, none⟩) (by show g ≠ _; omega) (.int .u8 ((z + 1) % 256))
      have sf : Shape lo hi w (wr.setCell ⟨g, k * 4 + 2, none⟩ (.int .u8 ((z + 1) % 256))) ∧ Ob (wr.setCell ⟨g, k * 4 + 2, none⟩ (.int .u8 ((z + 1) % 256))) w.heap.size (msA x) 39 ∧ (wr.setCell ⟨g, k * 4 + 2, none⟩ (.int .u8 ((z + 1) % 256))).cell? ⟨g, k * 4 + 3, none⟩ = some (.slice d.A d.l.length d.c) := ⟨sw2, G2, (World.cell?_setCell_other _ _ _ _ (by simp)).trans hfl⟩
      clear sw2 G2 sw G1 hz hfl hf2 g4
      generalize wr.setCell ⟨g, k * 4 + 2, none⟩ (.int .u8 ((z + 1) % 256)) = w2 at *
      go_loopw [31] (fun i wr => ∃ j : Nat, j ≤ d.l.length ∧ i = .int .i64 j ∧ Shape lo hi w wr ∧ Ob wr w.heap.size (msA x) 39) (fun i _ => d.l.length - (intOf i).toNat)
      case atStart => exact ⟨0, Nat.zero_le _, rfl, sf.1, sf.2.1⟩
      case round =>
        obtain ⟨j, hj, rfl, sw, G1⟩ := hrel
        clear sf
        have g4 : wr.cell? ⟨w.heap.size, 4, none⟩ = some (.slice (some ⟨g, 0, none⟩) x.L.length x.Lc) := by rw [← HA.out]; exact G1.blk.2.1 4 _ rfl
        by_cases hlj : j < d.l.length
        · obtain ⟨y, hy⟩ : ∃ y, d.l[j]? = some y := ⟨_, List.getElem?_eq_getElem hlj⟩
          obtain ⟨p, hAp, hpl, hpw, hcp, hfp⟩ := Own.spot spc_len dF hy
          have hph : p < hi := by
            obtain ⟨b, o, hA', hb, _⟩ := dR (by omega)
            rw [hAp] at hA'; injection hA' with e; injection e with e1; omega
          have hfl := sw.keep hgl hgh (p := ⟨g, k * 4 + 3, none⟩) HC.out
          rw [hAp] at hfl
          obtain ⟨z2, hz2⟩ := sw.int hpl hph (p := ⟨p, j * 2 + 1, none⟩) (hcp 1 _ rfl)
          have hfp2 := (sw.frz ⟨p, j * 2 + 1, none⟩ hpw).trans (hfp _)
          have kj : (j : Int) < (d.l.length : Int) := by omega
          clear hcp hfp hy hAp dF dR
          go_wp2_with fail
          have sw3 := sw.store (z' := wrap32 (z2 + 1)) hpl hph hz2
          have G3 := Ob.cell_far G1 (p := ⟨p, j * 2 + 1, none⟩) (by show p ≠ _; omega) (.int .i32 (wrap32 (z2 + 1)))
          go_roundw
          case rel => exact ⟨j + 1, hlj, by go_num, sw3, G3⟩
          case measure => simp [intOf]; omega
        · have hj2 : j = d.l.length := by omega
          subst hj2
          go_wp2_with fail
          go_roundw
          case rel => exact ⟨k + 1, hlt, by go_num, sw, G1⟩
          case measure => simp [intOf]; omega
    · have hk2 : k = x.L.length := by omega
      subst hk2
      clear hk hlt
      have g : wr.cell? ⟨w.heap.size, 5, none⟩ = some (.slice x.TA x.T.length x.Tc) := G1.blk.2.1 5 _ rfl
      go_wp2_with fail
      have sx := sw
      have Gx := G1
      clear sw G1 g
      generalize wr = wp at *
      go_loopw [52] (fun i wr => ∃ j : Nat, j ≤ x.T.length ∧ i = .int .i64 j ∧ Shape lo hi w wr ∧ Ob wr w.heap.size (msA x) 39) (fun i _ => x.T.length - (intOf i).toNat)
      case atStart => exact ⟨0, Nat.zero_le _, rfl, sx, Gx⟩
      case round =>
        obtain ⟨j, hj, rfl, sw, G1⟩ := hrel
        clear sx Gx
        by_cases hlj : j < x.T.length
        · obtain ⟨y, hy⟩ : ∃ y, x.T[j]? = some y := ⟨_, List.getElem?_eq_getElem hlj⟩
          obtain ⟨p, hAp, hpl, hpw, hcp, hfp⟩ := Own.spot memc_len ho.T hy
          have hph : p < hi := by
            obtain ⟨b, o, hA', hb, _⟩ := hr.T (by omega)
            rw [hAp] at hA'; injection hA' with e; injection e with e1; omega
          have g : wr.cell? ⟨w.heap.size, 5, none⟩ = some (.slice (some ⟨p, 0, none⟩) x.T.length x.Tc) := by rw [← hAp]; exact G1.blk.2.1 5 _ rfl
          obtain ⟨z, hz⟩ := sw.int hpl hph (p := ⟨p, j * 3, none⟩) (by simpa using hcp 0 _ rfl)
          have hfp2 := (sw.frz ⟨p, j * 3, none⟩ hpw).trans (hfp _)
          have kj : (j : Int) < (x.T.length : Int) := by omega
          clear hcp hfp hy hAp
          go_wp2_with fail
          have sw3 := sw.store (z' := ((z + 1) % 65536)) hpl hph hz
          have G3 := Ob.cell_far G1 (p := ⟨p, j * 3, none⟩) (by show p ≠ _; omega) (.int .u16 ((z + 1) % 65536))
          go_roundw
          case rel => exact ⟨j + 1, hlj, by go_num, sw3, G3⟩
          case measure => simp [intOf]; omega
        · have hj2 : j = x.T.length := by omega
          subst hj2
          clear hj hlj
          have g : wr.cell? ⟨w.heap.size, 15, none⟩ = some (.slice x.MA x.M.length x.Mc) := G1.blk.2.1 15 _ rfl
          go_wp2_with fail
          have sx := sw
          have Gx := G1
          clear sw G1 g
          generalize wr = wp at *
          go_loopw [68] (fun i wr => ∃ j : Nat, j ≤ x.M.length ∧ i = .int .i64 j ∧ Shape lo hi w wr ∧ Ob wr w.heap.size (msA x) 39) (fun i _ => x.M.length - (intOf i).toNat)
          case atStart => exact ⟨0, Nat.zero_le _, rfl, sx, Gx⟩
          case round =>
            obtain ⟨j, hj, rfl, sw, G1⟩ := hrel
            clear sx Gx
            by_cases hlj : j < x.M.length
            · obtain ⟨y, hy⟩ : ∃ y, x.M[j]? = some y := ⟨_, List.getElem?_eq_getElem hlj⟩
              obtain ⟨p, hAp, hpl, hpw, hcp, hfp⟩ := Own.spot idc_len ho.M hy
              have hph : p < hi := by
                obtain ⟨b, o, hA', hb, _⟩ := hr.M (by omega)
                rw [hAp] at hA'; injection hA' with e; injection e with e1; omega
              have g : wr.cell? ⟨w.heap.size, 15, none⟩ = some (.slice (some ⟨p, 0, none⟩) x.M.length x.Mc) := by rw [← hAp]; exact G1.blk.2.1 15 _ rfl
              obtain ⟨z, hz⟩ := sw.int hpl hph (p := ⟨p, j * 3 + 1, none⟩) (by simpa using hcp 1 _ rfl)
              have hfp2 := (sw.frz ⟨p, j * 3 + 1, none⟩ hpw).trans (hfp _)
              have kj : (j : Int) < (x.M.length : Int) := by omega
              clear hcp hfp hy hAp
              go_wp2_with fail
              have sw3 := sw.store (z' := ((z + 1) % 65536)) hpl hph hz
              have G3 := Ob.cell_far G1 (p := ⟨p, j * 3 + 1, none⟩) (by show p ≠ _; omega) (.int .u16 ((z + 1) % 65536))
              go_roundw
              case rel => exact ⟨j + 1, hlj, by go_num, sw3, G3⟩
              case measure => simp [intOf]; omega
            · have hj2 : j = x.M.length := by omega
              subst hj2
              clear hj hlj
              have g : wr.cell? ⟨w.heap.size, 16, none⟩ = some (.slice x.IA x.I.length x.Ic) := G1.blk.2.1 16 _ rfl
              go_wp2_with fail
              have sx := sw
              have Gx := G1
              clear sw G1 g
              generalize wr = wp at *
              go_loopw [84] (fun i wr => ∃ j : Nat, j ≤ x.I.length ∧ i = .int .i64 j ∧ Shape lo hi w wr ∧ Ob wr w.heap.size (msA x) 39) (fun i _ => x.I.length - (intOf i).toNat)
              case atStart => exact ⟨0, Nat.zero_le _, rfl, sx, Gx⟩
              case round =>
                obtain ⟨j, hj, rfl, sw, G1⟩ := hrel
                clear sx Gx
                by_cases hlj : j < x.I.length
                · obtain ⟨y, hy⟩ : ∃ y, x.I[j]? = some y := ⟨_, List.getElem?_eq_getElem hlj⟩
                  obtain ⟨p, hAp, hpl, hpw, hcp, hfp⟩ := Own.spot idc_len ho.I hy
                  have hph : p < hi := by
                    obtain ⟨b, o, hA', hb, _⟩ := hr.I (by omega)
                    rw [hAp] at hA'; injection hA' with e; injection e with e1; omega
                  have g : wr.cell? ⟨w.heap.size, 16, none⟩ = some (.slice (some ⟨p, 0, none⟩) x.I.length x.Ic) := by rw [← hAp]; exact G1.blk.2.1 16 _ rfl
                  obtain ⟨z, hz⟩ := sw.int hpl hph (p := ⟨p, j * 3 + 1, none⟩) (by simpa using hcp 1 _ rfl)
                  have hfp2 := (sw.frz ⟨p, j * 3 + 1, none⟩ hpw).trans (hfp _)
                  have kj : (j : Int) < (x.I.length : Int) := by omega
                  clear hcp hfp hy hAp
                  go_wp2_with fail
                  have sw3 := sw.store (z' := ((z + 1) % 65536)) hpl hph hz
                  have G3 := Ob.cell_far G1 (p := ⟨p, j * 3 + 1, none⟩) (by show p ≠ _; omega) (.int .u16 ((z + 1) % 65536))
                  go_roundw
                  case rel => exact ⟨j + 1, hlj, by go_num, sw3, G3⟩
                  case measure => simp [intOf]; omega
                · have hj2 : j = x.I.length := by omega
                  subst hj2
                  clear hj hlj
                  have g : wr.cell? ⟨w.heap.size, 9, none⟩ = some (.slice x.VA x.V.length x.Vc) := G1.blk.2.1 9 _ rfl
                  go_wp2_with fail
                  have sx := sw
                  have Gx := G1
                  clear sw G1 g
                  generalize wr = wp at *
                  go_loopw [101] (fun i wr => ∃ j : Nat, j ≤ x.V.length ∧ i = .int .i64 j ∧ Shape lo hi w wr ∧ Ob wr w.heap.size (msA x) 39) (fun i _ => x.V.length - (intOf i).toNat)
                  case atStart => exact ⟨0, Nat.zero_le _, rfl, sx, Gx⟩
                  case round =>
                    obtain ⟨j, hj, rfl, sw, G1⟩ := hrel
                    clear sx Gx
                    by_cases hlj : j < x.V.length
                    · obtain ⟨y, hy⟩ : ∃ y, x.V[j]? = some y := ⟨_, List.getElem?_eq_getElem hlj⟩
                      obtain ⟨p, hAp, hpl, hpw, hcp, hfp⟩ := Own.spot (int_len .i32) ho.V hy
                      have hph : p < hi := by
                        obtain ⟨b, o, hA', hb, _⟩ := hr.V (by omega)
                        rw [hAp] at hA'; injection hA' with e; injection e with e1; omega
                      have g : wr.cell? ⟨w.heap.size, 9, none⟩ = some (.slice (some ⟨p, 0, none⟩) x.V.length x.Vc) := by rw [← hAp]; exact G1.blk.2.1 9 _ rfl
                      obtain ⟨z, hz⟩ := sw.int hpl hph (p := ⟨p, j, none⟩) (by simpa using hcp 0 _ rfl)
                      have hfp2 := (sw.frz ⟨p, j, none⟩ hpw).trans (hfp _)
                      have kj : (j : Int) < (x.V.length : Int) := by omega
                      clear hcp hfp hy hAp
                      go_wp2_with fail
                      have sw3 := sw.store (z' := (wrap32 (z + 1))) hpl hph hz
                      have G3 := Ob.cell_far G1 (p := ⟨p, j, none⟩) (by show p ≠ _; omega) (.int .i32 (wrap32 (z + 1)))
                      go_roundw
                      case rel => exact ⟨j + 1, hlj, by go_num, sw3, G3⟩
                      case measure => simp [intOf]; omega
                    · have hj2 : j = x.V.length := by omega
                      subst hj2
                      clear hj hlj
                      have g : wr.cell? ⟨w.heap.size, 10, none⟩ = some (.slice x.DA x.D.length x.Dc) := G1.blk.2.1 10 _ rfl
                      go_wp2_with fail
                      have sx := sw
                      have Gx := G1
                      clear sw G1 g
                      generalize wr = wp at *
                      go_loopw [117] (fun i wr => ∃ j : Nat, j ≤ x.D.length ∧ i = .int .i64 j ∧ Shape lo hi w wr ∧ Ob wr w.heap.size (msA x) 39) (fun i _ => x.D.length - (intOf i).toNat)
                      case atStart => exact ⟨0, Nat.zero_le _, rfl, sx, Gx⟩
                      case round =>
                        obtain ⟨j, hj, rfl, sw, G1⟩ := hrel
                        clear sx Gx
                        by_cases hlj : j < x.D.length
                        · obtain ⟨y, hy⟩ : ∃ y, x.D[j]? = some y := ⟨_, List.getElem?_eq_getElem hlj⟩
                          obtain ⟨p, hAp, hpl, hpw, hcp, hfp⟩ := Own.spot (int_len .u8) ho.D hy
                          have hph : p < hi := by
                            obtain ⟨b, o, hA', hb, _⟩ := hr.D (by omega)
                            rw [hAp] at hA'; injection hA' with e; injection e with e1; omega
                          have g : wr.cell? ⟨w.heap.size, 10, none⟩ = some (.slice (some ⟨p, 0, none⟩) x.D.length x.Dc) := by rw [← hAp]; exact G1.blk.2.1 10 _ rfl
                          obtain ⟨z, hz⟩ := sw.int hpl hph (p := ⟨p, j, none⟩) (by simpa using hcp 0 _ rfl)
                          have hfp2 := (sw.frz ⟨p, j, none⟩ hpw).trans (hfp _)
                          have kj : (j : Int) < (x.D.length : Int) := by omega
                          clear hcp hfp hy hAp
                          go_wp2_with fail
                          have sw3 := sw.store (z' := ((z + 1) % 256)) hpl hph hz
                          have G3 := Ob.cell_far G1 (p := ⟨p, j, none⟩) (by show p ≠ _; omega) (.int .u8 ((z + 1) % 256))
                          go_roundw
                          case rel => exact ⟨j + 1, hlj, by go_num, sw3, G3⟩
                          case measure => simp [intOf]; omega
                        · have hj2 : j = x.D.length := by omega
                          subst hj2
                          clear hj hlj
                          go_wp2_with fail
                          refine bodyPost_end (results_none rfl _ _ _) rfl ?_
                          exact ⟨rfl, sw⟩
end Go.Proofs.Ytbengmgfddnkhaa
