/-
  PushOnce: the walk.
-/
import Derived.Test.YtbkmfmemcooagaaAwake16
import Derived.Test.YtbkmfmemcooagaaLaw16B
import Derived.Test.YtbkmfmemcooagaaCounted
import Derived.Deep.DeepCutAuto
namespace Go.Proofs.Ytbkmfmemcooagaa
open Go.RowKit
/-- a row of bytes of the call's own, whatever it holds -/
def Wr8 (W : World) (A : Option Addr) (n c base : Nat) : Prop := ∃ acc : List Int, acc.length = n ∧ Own (fun z : Int => [Value.int .u8 z]) 1 5 base W (.slice A n c) acc
theorem Wr8.at_ {W : World} {A : Option Addr} {n c base k : Nat} (h : Wr8 W A n c base) (hk : k < n) : ∃ g, A = some ⟨g, 0, none⟩ ∧ base ≤ g ∧ ∃ x, W.cell? ⟨g, k, none⟩ = some (.int .u8 x) ∧ (∀ j, W.frozen? ⟨g, j, none⟩ = false) ∧ ∀ y, Wr8 (W.setCell ⟨g, k, none⟩ (.int .u8 y)) A n c base := by
  obtain ⟨acc, hn, ho⟩ := h
  subst hn
  rcases id ho with ⟨_, ⟨_, h0⟩ | ⟨g, cap, cur, hv, hb, _⟩⟩
  · omega
  · injection hv with hA _ hc
    subst hA hc
    have ho' : W.ownsRow base 5 1 (.slice (some ⟨g, 0, none⟩) acc.length c) acc.length (acc.map (Value.int .u8)) := by
      rw [List.map_eq_flatMap]; exact ho
    obtain ⟨x, hx⟩ : ∃ x, acc[k]? = some x := ⟨_, List.getElem?_eq_getElem hk⟩
    refine ⟨g, rfl, hb, x, ?_, fun j => World.ownsRow.frozenAt ho' j, fun y => ⟨acc.set k y, List.length_set, ?_⟩⟩
    · rw [World.ownsRow.cellAt ho' k (by omega), List.getElem?_map, hx]; rfl
    · have := (World.ownsRow.stored ho' k (.int .u8 y)).1
      rw [← List.map_set, List.map_eq_flatMap] at this
      show World.ownsRow _ _ _ _ _ _ _
      rw [List.length_set]
      exact this
set_option maxRecDepth 100000 in
set_option maxHeartbeats 4000000 in
theorem once_yes (l ds : List Int) (s t S G : Int) (A D : Option Addr) (cap dcap : Nat) (w : World) (hr : Rd (fun z : Int => [Value.int .u8 z]) 1 w.heap.size w A l) (rd : Rd (fun z : Int => [Value.int .u32 z]) 1 w.heap.size w D ds)
    (hl : u8L l) (hds : ∀ x ∈ ds, 0 ≤ x ∧ x ≤ 4294967295) (hS : (if t < s then t else s) = S) (hG : (if s < t then t else s) = G) (hSG : S ≤ G) (hG2 : G ≤ 9223372036854775807) (hS2 : -9223372036854775808 ≤ S) (hlc : l.length ≤ cap) (hcm : cap ≤ maxLen) (hdc : ds.length ≤ dcap) (hdm : dcap ≤ maxLen) (h1 : l.length ≤ 100) (h2 : ds.length ≤ 200) :
    Calls Try.prog 4 #[.slice A l.length cap, .int .i64 s, .int .i64 t, .slice D ds.length dcap] w fun e w' => e = .returned (.bool true) ∧ Below w.heap.size w w' := by
    unfold maxLen at hcm hdm
    obtain ⟨i0, hi0, hz0, hz1, hz2⟩ := info_parts Try.infoU8d
    have t1 : decide ((100 : Int) < (l.length : Int)) = false := decide_eq_false (by omega)
    have t2 : decide ((200 : Int) < (ds.length : Int)) = false := decide_eq_false (by omega)
    obtain ⟨PA, hPA⟩ : ∃ L, pickL S.toNat l ds = L := ⟨_, rfl⟩
    obtain ⟨PB, hPB⟩ : ∃ L, pickL G.toNat l ds = L := ⟨_, rfl⟩
    have nA : PA.length = min S.toNat l.length := by rw [← hPA, pickL_len]
    have nB : PB.length = min G.toNat l.length := by rw [← hPB, pickL_len]
    have hAB : PB.take PA.length = PA := by
      have h3 := pickL_take S.toNat G.toNat l ds (by omega)
      rw [hPA, hPB] at h3
      rw [nA]
      conv => rhs; rw [h3]
      by_cases h4 : S.toNat ≤ l.length
      · rw [Nat.min_eq_left h4]
      · rw [List.take_of_length_le (by rw [nB]; omega), List.take_of_length_le (by rw [nB]; omega)]
    have hcnt : ∀ x : Int, PB.count x ≤ l.count x := fun x => by rw [← hPB]; exact pickL_count _ _ _ _
    have uA : u8L PA := by rw [← hPA]; exact pickL_mem hl
    have uB : u8L PB := by rw [← hPB]; exact pickL_mem hl
    have PK1 : Hid (∀ W A D, Rd (fun z : Int => [Value.int .u8 z]) 1 W.heap.size W A l → Rd (fun z : Int => [Value.int .u32 z]) 1 W.heap.size W D ds → Calls Try.prog 12 #[.slice A l.length cap, .int .i64 S, .slice D ds.length dcap] W fun e w' => ∃ A' c', e = .returned (.slice A' PA.length c') ∧ Own (fun z : Int => [Value.int .u8 z]) 1 5 W.heap.size w' (.slice A' PA.length c') PA ∧ Below W.heap.size W w') := Lib.hid (fun W A D h3 h4 => by
      have := pick_any l ds S A D cap dcap W h3 h4 (by omega) (by omega) (by omega) hds
      rwa [hPA] at this)
    have PK2 : Hid (∀ W A D, Rd (fun z : Int => [Value.int .u8 z]) 1 W.heap.size W A l → Rd (fun z : Int => [Value.int .u32 z]) 1 W.heap.size W D ds → Calls Try.prog 12 #[.slice A l.length cap, .int .i64 G, .slice D ds.length dcap] W fun e w' => ∃ A' c', e = .returned (.slice A' PB.length c') ∧ Own (fun z : Int => [Value.int .u8 z]) 1 5 W.heap.size w' (.slice A' PB.length c') PB ∧ Below W.heap.size W w') := Lib.hid (fun W A D h3 h4 => by
      have := pick_any l ds G A D cap dcap W h3 h4 (by omega) (by omega) (by omega) hds
      rwa [hPB] at this)
    obtain ⟨xA, hxA⟩ : ∃ x, (if (l.length : Int) < S then (l.length : Int) else S) = x := ⟨_, rfl⟩
    obtain ⟨xB, hxB⟩ : ∃ x, (if (l.length : Int) < G then (l.length : Int) else G) = x := ⟨_, rfl⟩
    have hyA : (if xA < 0 then 0 else xA) = (PA.length : Int) := by rw [← hxA, nA]; split <;> split at * <;> omega
    have hyB : (if xB < 0 then 0 else xB) = (PB.length : Int) := by rw [← hxB, nB]; split <;> split at * <;> omega
    have hABl : PA.length ≤ PB.length := by rw [nA, nB]; omega
    have NA := Lib.hid nA
    have NB := Lib.hid nB
    have HAB := Lib.hid hAB
    have HC := Lib.hid hcnt
    have UA := Lib.hid uA
    have UB := Lib.hid uB
    have UL := Lib.hid hl
    have HR0 := Lib.hid hr
    clear hPA hPB nA nB hAB hcnt uA uB hl hds
    go_enter Try.func4, Try.ntmps4
    go_wp2_with (first | (at_builtin; refine wpList_app _ rfl (.tmp 31) (.tmp 32) _ rfl w.heap.size 5 i0 _ 1 Try.underlying22 hi0 hz0 hz1 hz2 rfl (by omega) (int_len .u8) (int_one .u8) (.slice (some ⟨w.heap.size, 0, none⟩) 0 0) ([] : List Int) rfl (Own.lit (enc := fun z : Int => [Value.int .u8 z]) (sz := 1) (E := 5) (l := []) w #[] 0 (Nat.le_refl _) (Nat.zero_le _) rfl rfl rfl) 0 rfl _ _ _ _ l rfl rfl (hr.up (Gw.al (Below.refl _ _) _)) (by omega) (by omega) (by simp only [World.size_alloc]; omega) ?_; intro A0 c0 w0 o0 hg0; rw [Nat.zero_add, List.nil_append] at o0; have h0 : Below w.heap.size w w0 := Gw.gr (Gw.al (Below.refl _ _) (.cells #[] 5)) hg0 (by intro k hk; have := own_blk hk; simp at this ⊢; omega)) | fail)
    have bb := (Below.refl w.heap.size w)
    have hb := h0
    clear h0 hg0
    have b1 := Gw.call bb hb
    replace hr := Rd.up hr hb
    clear hb bb
    replace rd := Rd.up rd b1
    skip
    have bb := b1
    refine (PK1.out _ _ _ hr rd).mono ?_
    rintro e w2 ⟨A1, k1, rfl, o1, hb⟩
    have b2 := Gw.call bb hb
    replace o0 := Own.below o0 hb
    replace hr := Rd.up hr hb
    replace rd := Rd.up rd hb
    clear hb bb b1
    have LO := Lib.hid (fun j (hj : (Value.slice A0 l.length c0).ownBlock = some j) => Own.hi o0 j hj)
    have z9 := Gw.sub b2
    go_wp2_with fail
    have bb := b2
    refine (PK2.out _ _ _ hr rd).mono ?_
    rintro e w3 ⟨A2, k2, rfl, o2, hb⟩
    have b3 := Gw.call bb hb
    replace o0 := Own.below o0 hb
    replace o1 := Own.below o1 hb
    replace hr := Rd.up hr hb
    replace rd := Rd.up rd hb
    clear hb bb b2
    have hk2 : PB.length ≤ k2 := by obtain ⟨_, _, h9, h8⟩ := Own.len o2; injection h9 with _ _ h7; omega
    have hk3 : (PA.length : Int) ≤ (k2 : Int) := by omega
    go_wp2_with fail
    refine (same01_any (PB.take PA.length) PA A2 A1 PA.length PA.length k2 k1 _ (Rd.take (o2.rd (int_len .u8)) PA.length) (o1.rd (int_len .u8)) (by simp; omega) rfl (by rw [HAB.out]; exact UA.out) UA.out).mono ?_
    rintro e w9 ⟨rfl, rfl⟩
    rw [decide_eq_true HAB.out]
    go_wp2_with fail
    refine (same01_any l l A A0 l.length l.length cap c0 _ hr (o0.rd (int_len .u8)) rfl rfl UL.out UL.out).mono ?_
    rintro e w9 ⟨rfl, rfl⟩
    rw [decide_eq_true rfl]
    go_wp2_with fail
    have bb := b3
    refine (counted_any PB A2 k2 _ (o2.rd (int_len .u8)) UB.out (by have := NB.out; omega)).mono ?_
    rintro e w4 ⟨rfl, hb⟩
    have b4 := Gw.call bb hb
    replace o0 := Own.below o0 hb
    replace o1 := Own.below o1 hb
    replace o2 := Own.below o2 hb
    replace hr := Rd.up hr hb
    replace rd := Rd.up rd hb
    clear hb bb b3
    go_wp2_with fail
    have bb := b4
    refine (counted_any l A cap _ hr UL.out (by omega)).mono ?_
    rintro e w5 ⟨rfl, hb⟩
    have b5 := Gw.call bb hb
    replace o0 := Own.below o0 hb
    replace o1 := Own.below o1 hb
    replace o2 := Own.below o2 hb
    replace hr := Rd.up hr hb
    replace rd := Rd.up rd hb
    clear hb bb b4
    have lo0 : ∀ j, (Value.slice A0 l.length c0).ownBlock = some j → j < w2.heap.size := LO.out
    obtain ⟨hz, hsz⟩ := zero_of_info Try.info256
    rw [← cntA_nil] at hz
    obtain ⟨Z, hZ⟩ : ∃ Z, Z = cntA [] := ⟨_, rfl⟩
    rw [← hZ] at hz
    have HZ := Lib.hid hZ
    clear hZ hsz
    have V1 := (Ob.new w5 Z 30).alloc (.cells Z 30)
    have V2 := Ob.new (w5.alloc (.cells Z 30)) Z 30
    rw [World.size_alloc] at V2
    have X1 := Ob.setRow_far (Ob.setRow V1 (cntA PB)) (show w5.heap.size ≠ w5.heap.size + 1 by omega) (cntA l)
    have X2 := Ob.setRow (Ob.setRow_far V2 (show w5.heap.size + 1 ≠ w5.heap.size by omega) (cntA PB)) (cntA l)
    have hst1 := store256 PB V1 HZ.out
    have hst2 := store256 l (Ob.setRow_far V2 (show w5.heap.size + 1 ≠ w5.heap.size by omega) (cntA PB)) HZ.out
    have hp := Below.setRow (Below.setRow (Gw.al (Gw.al (Below.refl w5.heap.size w5) (.cells Z 30)) (.cells Z 30)) (Nat.le_refl _) (cntA PB)) (Nat.le_succ _) (cntA l)
    clear V1 V2
    go_wp2_with fail
    have b6 := Gw.call b5 hp
    replace o0 := Own.below o0 hp
    replace o2 := Own.below o2 hp
    clear hst1 hst2 hz hp b5
    obtain ⟨B5, hB5⟩ : ∃ n, n = w5.heap.size := ⟨_, rfl⟩
    have hB5w := Gw.sub b6
    simp only [setRow_size, World.size_alloc] at hB5w
    rw [← hB5] at X1 X2 b6 o0 o2 ⊢
    generalize (((w5.alloc (.cells Z 30)).alloc (.cells Z 30)).setRow B5 (cntA PB)).setRow (B5 + 1) (cntA l) = wz at X1 X2 b6 o0 o2 ⊢
    clear hB5 HZ
    go_loopw [79] (fun i wr => ∃ k : Nat, k ≤ 256 ∧ i = .int .i64 k ∧ Below w.heap.size w wr ∧ Ob wr B5 (cntA PB) 30 ∧ Ob wr (B5 + 1) (cntA l) 30 ∧ Own (fun z : Int => [Value.int .u8 z]) 1 5 w.heap.size wr (.slice A0 l.length c0) l ∧ Own (fun z : Int => [Value.int .u8 z]) 1 5 w2.heap.size wr (.slice A2 PB.length k2) PB) (fun i _ => 256 - (intOf i).toNat)
    case atStart => exact ⟨0, Nat.zero_le _, rfl, b6, X1, X2, o0, o2⟩
    case round =>
      clear X1 X2 b6 o0 o2 hr o1
      obtain ⟨k, hk, rfl, hw, X1, X2, o0, o2⟩ := hrel
      by_cases hlt : k < 256
      · have e1 : wr.cell? ⟨B5, k, none⟩ = some (.int .i64 (PB.count (k : Int))) := Ob.blk X1 |>.2.1 k _ (by rw [Array.getElem?_toList, cntA_at _ hlt])
        have e2 : wr.cell? ⟨B5 + 1, k, none⟩ = some (.int .i64 (l.count (k : Int))) := Ob.blk X2 |>.2.1 k _ (by rw [Array.getElem?_toList, cntA_at _ hlt])
        have hle := HC.out (k : Int)
        obtain ⟨cB, hcB⟩ : ∃ c, PB.count (k : Int) = c := ⟨_, rfl⟩
        obtain ⟨cL, hcL⟩ : ∃ c, l.count (k : Int) = c := ⟨_, rfl⟩
        rw [hcB] at e1 hle
        rw [hcL] at e2 hle
        clear hcB hcL
        have hd : decide ((cL : Int) < (cB : Int)) = false := decide_eq_false (by omega)
        have hd2 : decide (cL < cB) = false := decide_eq_false (by omega)
        have hlt2 : (k : Int) < 256 := by omega
        go_wp2_with fail
        go_quiet (fail)
        go_wp2
        go_roundw
        case rel => exact ⟨k + 1, by omega, by go_num, Gw.drewN hw _, X1, X2, o0, o2⟩
        case measure => simp [intOf]; omega
      · obtain rfl : k = 256 := by omega
        clear X1 X2
        go_wp2_with fail
        go_loopw [92] (fun i wr => ∃ k : Nat, k ≤ PB.length ∧ i = .int .i64 k ∧ Below w.heap.size w wr ∧ Own (fun z : Int => [Value.int .u8 z]) 1 5 w.heap.size wr (.slice A0 l.length c0) l ∧ Wr8 wr A2 PB.length k2 w2.heap.size) (fun i _ => PB.length - (intOf i).toNat)
        case atStart => exact ⟨0, Nat.zero_le _, rfl, hw, o0, PB, rfl, o2⟩
        case round =>
          clear hw o0 o2
          obtain ⟨k, hk, rfl, hw, o0, o2⟩ := hrel
          by_cases hlt : k < PB.length
          · obtain ⟨gB, rfl, hgB, x, ex, fx, wx⟩ := o2.at_ hlt
            have WX := Lib.hid wx
            clear wx o2
            go_wp2_with fail
            go_roundw
            case rel => exact ⟨k + 1, by omega, by go_num, Gw.st hw (p := ⟨gB, k, none⟩) (by show w.heap.size ≤ gB; omega) _, Own.far (p := ⟨gB, k, none⟩) o0 (fun j hj => by have := lo0 j hj; show j ≠ gB; omega) _, WX.out _⟩
            case measure => simp [intOf]; omega
          · obtain rfl : k = PB.length := by omega
            go_wp2_with fail
            refine (same01_any l l A A0 l.length l.length cap c0 _ (HR0.out.up hw) (o0.rd (int_len .u8)) rfl rfl UL.out UL.out).mono ?_
            rintro e w9 ⟨rfl, rfl⟩
            rw [decide_eq_true rfl]
            go_wp2_with fail
            refine (awake_any _).mono ?_
            rintro e w10 ⟨rfl, hb⟩
            have b10 := Gw.call hw hb
            clear hb
            go_wp2_with fail
            go_ret
            exact ⟨rfl, b10⟩
set_option maxHeartbeats 1000000 in
theorem once_any (l ds : List Int) (s t : Int) (A D : Option Addr) (cap dcap : Nat) (w : World) (hr : Rd (fun z : Int => [Value.int .u8 z]) 1 w.heap.size w A l) (rd : Rd (fun z : Int => [Value.int .u32 z]) 1 w.heap.size w D ds)
    (hl : u8L l) (hds : ∀ x ∈ ds, 0 ≤ x ∧ x ≤ 4294967295) (hs : -9223372036854775808 ≤ s ∧ s ≤ 9223372036854775807) (ht : -9223372036854775808 ≤ t ∧ t ≤ 9223372036854775807) (hlc : l.length ≤ cap) (hcm : cap ≤ maxLen) (hdc : ds.length ≤ dcap) (hdm : dcap ≤ maxLen) :
    Calls Try.prog 4 #[.slice A l.length cap, .int .i64 s, .int .i64 t, .slice D ds.length dcap] w fun e w' => e = .returned (.bool true) ∧ Below w.heap.size w w' := by
  by_cases h1 : 100 < l.length
  · have t1 : decide ((100 : Int) < (l.length : Int)) = true := decide_eq_true (by omega)
    go_enter Try.func4, Try.ntmps4
    go_wp2_with fail
    refine (awake_any _).mono ?_
    rintro e w1 ⟨rfl, hb⟩
    go_wp2_with fail
    go_ret
    exact ⟨rfl, hb⟩
  · by_cases h2 : 200 < ds.length
    · have t1 : decide ((100 : Int) < (l.length : Int)) = false := decide_eq_false (by omega)
      have t2 : decide ((200 : Int) < (ds.length : Int)) = true := decide_eq_true (by omega)
      go_enter Try.func4, Try.ntmps4
      go_wp2_with fail
      refine (awake_any _).mono ?_
      rintro e w1 ⟨rfl, hb⟩
      go_wp2_with fail
      go_ret
      exact ⟨rfl, hb⟩
    · by_cases hst : t < s
      · have e2 : (if s < t then t else s) = s := if_neg (by omega)
        exact once_yes l ds s t t s A D cap dcap w hr rd hl hds (if_pos hst) e2 (by omega) (by omega) (by omega) hlc hcm hdc hdm (by omega) (by omega)
      · by_cases hst2 : s < t
        · exact once_yes l ds s t s t A D cap dcap w hr rd hl hds (if_neg hst) (if_pos hst2) (by omega) (by omega) (by omega) hlc hcm hdc hdm (by omega) (by omega)
        · obtain rfl : s = t := by omega
          exact once_yes l ds s s s s A D cap dcap w hr rd hl hds (if_neg hst) (if_neg hst) (by omega) (by omega) (by omega) hlc hcm hdc hdm (by omega) (by omega)
end Go.Proofs.Ytbkmfmemcooagaa
