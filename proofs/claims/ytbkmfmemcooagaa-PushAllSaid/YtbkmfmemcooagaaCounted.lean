/-
  grapevinelaw16.counted: how often each number stands in a list.
-/
import Derived.Test.YtbkmfmemcooagaaObj
import Derived.Test.YtbkmfmemcooagaaBytes
import Derived.Deep.QuietTactic
import Derived.BigQuiet
import Derived.Deep.WholeRow
namespace Go.Proofs.Ytbkmfmemcooagaa
open Go.RowKit
def cntA (l : List Int) : Array Value := ((List.range 256).map fun x : Nat => Value.int .i64 (l.count (x : Int) : Nat)).toArray
theorem cntA_size (l : List Int) : (cntA l).size = 256 := by simp [cntA]
theorem cntA_at (l : List Int) {j : Nat} (h : j < 256) : (cntA l)[j]? = some (.int .i64 (l.count (j : Int))) := by simp [cntA, h]
theorem cntA_nil : cntA [] = Array.replicate 256 (.int .i64 0) := by
  apply Array.ext_getElem?
  intro j
  by_cases h : j < 256
  · rw [cntA_at _ h]; simp [h]
  · rw [Array.getElem?_eq_none (by rw [cntA_size]; omega), Array.getElem?_eq_none (by simp; omega)]
theorem cntA_snoc (l : List Int) {x : Nat} (hx : x < 256) : (cntA l).setIfInBounds x (.int .i64 ((l.count (x : Int) : Int) + 1)) = cntA (l ++ [(x : Int)]) := by
  apply Array.ext_getElem?
  intro j
  by_cases h : j < 256
  · rw [cntA_at _ h, Array.getElem?_setIfInBounds, List.count_append]
    split
    · rename_i e; subst e; rw [if_pos (by rw [cntA_size]; exact hx)]; simp
    · rename_i e
      rw [cntA_at _ h, List.count_singleton, if_neg (by simp; omega)]; rfl
  · rw [Array.getElem?_eq_none (by simp [cntA_size]; omega), Array.getElem?_eq_none (by rw [cntA_size]; omega)]
theorem cntA_one (l : List Int) : (cntA l).all (·.oneCell') = true := by
  rw [Array.all_eq_true]
  intro i hi
  simp [cntA, Value.oneCell']
theorem Try.info256 : (Try.prog.info? 30).map (fun i => (i.zero, i.size)) = some (some (.agg (Array.replicate 256 (.int .i64 0))), 256) := by kernel_rfl
theorem store256 {W : World} {g : Nat} {Z : Array Value} (l : List Int) (h : Ob W g Z 30) (hZ : Z = cntA []) : (storeCells ⟨g, 0, none⟩ (cntA l).toList 0).run Try.prog W = .ok () (W.setRow g (cntA l)) := by
  have := run_storeCells_from (P := Try.prog) g 30 (cntA l).toList 0 Z W h (by rw [hZ]; simp [cntA_size]) (fun v hv => by
    have h1 := cntA_one l
    rw [Array.all_eq_true'] at h1
    exact h1 v (by simpa using hv))
  simpa using this
theorem Ob.setRow {W : World} {g : Nat} {cs : Array Value} {T : TypeId} (h : Ob W g cs T) (ds : Array Value) : Ob (W.setRow g ds) g ds T := setRow_heap _ _ _ _ _ _ h
theorem Ob.setRow_far {W : World} {g k : Nat} {cs : Array Value} {T : TypeId} (h : Ob W k cs T) (hne : k ≠ g) (ds : Array Value) : Ob (W.setRow g ds) k cs T := (setRow_other _ _ _ _ hne).trans h
theorem Below.setRow {B : Nat} {a w : World} (h : Below B a w) {g : Nat} (hp : B ≤ g) (cs : Array Value) : Below B a (w.setRow g cs) :=
  h.trans ⟨rfl, rfl, rfl, by simp, fun k hk => setRow_other _ _ _ _ (by omega)⟩
set_option maxRecDepth 100000 in
set_option maxHeartbeats 1000000 in
theorem counted_any (l : List Int) (A : Option Addr) (cap : Nat) (w : World) (hr : Rd (fun z : Int => [Value.int .u8 z]) 1 w.heap.size w A l) (hl : u8L l) (hlen : l.length ≤ 1000000) :
    Calls Try.prog 14 #[.slice A l.length cap] w fun e w' => e = .returned (.agg (cntA l)) ∧ Below w.heap.size w w' := by
  obtain ⟨hz, hsz⟩ := zero_of_info Try.info256
  rw [← cntA_nil] at hz
  obtain ⟨Z, hZ⟩ : ∃ Z, Z = cntA [] := ⟨_, rfl⟩
  rw [← hZ] at hz
  have HZ := Lib.hid hZ
  have HS := Lib.hid hsz
  have HU := Lib.hid hl
  have O1 := (Ob.new w Z 30).alloc (.cells Z 30)
  have O2 := Ob.new (w.alloc (.cells Z 30)) Z 30
  rw [World.size_alloc] at O2
  clear hZ hsz hl
  go_enter Try.func14, Try.ntmps14
  go_wp2_with fail
  go_loopw [8] (fun i wr => ∃ k : Nat, k ≤ l.length ∧ i = .int .i64 k ∧ Below w.heap.size w wr ∧ Ob wr w.heap.size Z 30 ∧ Ob wr (w.heap.size + 1) (cntA (l.take k)) 30) (fun i _ => l.length - (intOf i).toNat)
  case atStart => exact ⟨0, Nat.zero_le _, rfl, Gw.al (Gw.al (Below.refl _ _) _) _, O1, by rw [List.take_zero, ← HZ.out]; exact O2⟩
  case round =>
    clear O1 O2
    obtain ⟨k, hk, rfl, hw, O1, O2⟩ := hrel
    by_cases hlt : k < l.length
    · obtain ⟨x, hx⟩ : ∃ x, l[k]? = some x := ⟨_, List.getElem?_eq_getElem hlt⟩
      have hxu := HU.out x (List.mem_of_getElem? hx)
      obtain ⟨n, rfl⟩ : ∃ n : Nat, x = n := ⟨x.toNat, by omega⟩
      have hn : n < 256 := by omega
      obtain ⟨b, o, rfl, _, e0⟩ := (hr.below hw).int1 hx
      obtain ⟨c, hc⟩ : ∃ c, (l.take k).count (n : Int) = c := ⟨_, rfl⟩
      have hc1 : c ≤ 1000000 := by rw [← hc]; have := List.count_le_length (a := (n : Int)) (l := l.take k); simp at this; omega
      have e1 : wr.cell? ⟨w.heap.size + 1, n, none⟩ = some (.int .i64 c) := by
        have := O2.blk.2.1 n _ (by rw [Array.getElem?_toList, cntA_at _ hn])
        rw [this, hc]
      have f1 := O2.blk.2.2
      have HN : Hid (l.take (k + 1) = l.take k ++ [(n : Int)]) := Lib.hid (by rw [List.take_add_one, hx]; rfl)
      have HC := Lib.hid hc
      clear hx hr hc
      go_wp2_with fail
      go_roundw
      case rel =>
        refine ⟨k + 1, by omega, by go_num, Gw.st hw (p := ⟨w.heap.size + 1, n, none⟩) (by show w.heap.size ≤ w.heap.size + 1; omega) _, Ob.far O1 (by omega) _, ?_⟩
        rw [HN.out, ← cntA_snoc _ hn, HC.out]
        exact Ob.set O2 n _
      case measure => simp [intOf]; omega
    · obtain rfl : k = l.length := by omega
      rw [List.take_length] at O2
      go_wp2_with fail
      refine wp_load_row 30 (.tmp 3) rfl (w.heap.size + 1) rfl 30 (cntA l) (0, 0) _ O2 Try.underlying30 rfl (by rw [cntA_size]; exact HS.out) ?_
      go_wp2_with fail
      have hst : (storeCells ⟨w.heap.size, 0, none⟩ (cntA l).toList 0).run Try.prog wr = .ok () (wr.setRow w.heap.size (cntA l)) := by
        have := run_storeCells_from (P := Try.prog) w.heap.size 30 (cntA l).toList 0 Z wr O1 (by rw [HZ.out]; simp [cntA_size]) (fun v hv => by
          have h1 := cntA_one l
          rw [Array.all_eq_true'] at h1
          exact h1 v (by simpa using hv))
        simpa using this
      rw [hst]
      go_wp2_with fail
      (try simp only [Exit.inBlock, Exit.then])
      refine bodyPost_ret (v := .agg (cntA l)) (results_cell_row rfl _ _ w.heap.size 30 (cntA l) (0, 0) _ rfl (setRow_heap _ _ Z (cntA l) _ _ O1) Try.underlying30 rfl (by rw [cntA_size]; exact HS.out)) rfl ⟨rfl, Below.setRow hw (Nat.le_refl _) _⟩
end Go.Proofs.Ytbkmfmemcooagaa
