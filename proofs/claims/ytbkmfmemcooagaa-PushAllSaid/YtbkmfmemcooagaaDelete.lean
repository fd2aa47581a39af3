/-
  slices.Delete of one element, in place.
-/
import Derived.Test.YtbkmfmemcooagaaTouch
import Derived.Deep.RegionLaw
import Derived.Lib.SliceRun
namespace Go.Proofs.Ytbkmfmemcooagaa
open Go.RowKit

theorem Try.infoU8d : (Try.prog.info? 5).map (fun i => (i.zero, i.size, i.bytes)) = some (some (.int .u8 0), 1, 1) := by kernel_rfl
set_option maxHeartbeats 2000000 in
theorem del_any (l : List Int) (g off cap i : Nat) (w : World) (h : Lf .u8 w g off l) (hi : i < l.length) (hc : l.length ≤ cap) (hm : cap ≤ 9223372036854775807) :
    Calls Try.prog 17 #[.slice (some ⟨g, off, none⟩) l.length cap, .int .i64 i, .int .i64 ((i : Int) + 1)] w fun e w' => e = .returned (.slice (some ⟨g, off, none⟩) (l.length - 1) cap) ∧ Lf .u8 w' g off (l.eraseIdx i) ∧ Touch w w' g g := by
  obtain ⟨i0, hi0, hz0, hz1, hz2⟩ := info_parts Try.infoU8d
  obtain ⟨news, hn⟩ : ∃ news, news = (l.drop (i + 1)).map (Value.int .u8) := ⟨_, rfl⟩
  have hlen : news.length = l.length - (i + 1) := by rw [hn]; simp
  obtain ⟨A, hA, hsrc⟩ : ∃ A : Addr, (if cap = i + 1 then some (⟨g, off, none⟩ : Addr) else some ⟨g, off + (i + 1), none⟩) = some A ∧ Hid (∀ t u, news[t]? = some u → w.drew.cell? (A.add t) = some u) := by
    by_cases hcap : cap = i + 1
    · refine ⟨⟨g, off, none⟩, by simp [hcap], fun t u hu => ?_⟩
      have h0 : news.length = 0 := by rw [hlen]; omega
      rw [List.length_eq_zero_iff.1 h0] at hu
      simp at hu
    · refine ⟨⟨g, off + (i + 1), none⟩, by simp [hcap], fun t u hu => ?_⟩
      rw [hn, List.getElem?_map, List.getElem?_drop] at hu
      rcases hx : l[i + 1 + t]? with _ | x
      · rw [hx] at hu; cases hu
      · rw [hx] at hu
        injection hu with hu
        subst hu
        rw [Addr.add_lit, show off + (i + 1) + t = off + (i + 1 + t) by omega]
        exact (h _ x hx).1
  have s1 : Hid (news.length = (l.length - (i + 1)) * 1) := by rw [Nat.mul_one]; exact hlen
  have s2 : Hid (∀ u ∈ news, u.oneCell' = true) := by
    intro u hu
    rw [hn] at hu
    obtain ⟨x, _, rfl⟩ := List.mem_map.1 hu
    rfl
  have hat : ∀ t, t < l.length → (w.cell? ⟨g, off + t, none⟩).isSome = true ∧ w.frozen? ⟨g, off + t, none⟩ = false := fun t ht => by
    obtain ⟨h1, h2⟩ := h t l[t] (List.getElem?_eq_getElem ht)
    rw [h1]; exact ⟨rfl, h2⟩
  have s3 : Hid (∀ t, t < news.length → (w.drew.cell? ⟨g, off + i * 1 + t, none⟩).isSome = true ∧ w.drew.frozen? ⟨g, off + i * 1 + t, none⟩ = false) := by
    intro t ht
    rw [hlen] at ht
    rw [Nat.mul_one, Nat.add_assoc]
    exact hat (i + t) (by omega)
  obtain ⟨W1, hW1⟩ : ∃ W1, W1 = w.drew.setCells g (off + i * 1) news := ⟨_, rfl⟩
  have hcl : ∀ ty, (Builtin.clear_ #[22] ty #[.slice (some ⟨g, off + (i + (l.length - (i + 1))), none⟩) (l.length - (i + (l.length - (i + 1)))) (cap - (i + (l.length - (i + 1))))]).run Try.prog W1 = .ok (.tuple #[]) (W1.setCells g (off + (i + (l.length - (i + 1)))) (List.replicate (l.length - (i + (l.length - (i + 1)))) (.int .u8 0))) :=
    fun ty => Lib.run_clear_slice W1 _ 5 ty (.int .u8 0) Try.underlying22 (fun w => by kernel_rfl) rfl rfl g _ _ _ (by omega)
      (fun t ht => by rw [hW1]; exact World.isSome_setCells g _ _ _ _ (by rw [show off + (i + (l.length - (i + 1))) + t = off + (i + (l.length - (i + 1)) + t) by omega]; exact (hat _ (by omega)).1))
      (fun t ht => by rw [hW1, World.frozen?_setCells, show off + (i + (l.length - (i + 1))) + t = off + (i + (l.length - (i + 1)) + t) by omega]; exact (hat _ (by omega)).2)
  have hW : Hid (W1 = w.drew.setCells g (off + i * 1) news) := hW1
  have hic : i ≤ cap := by omega
  have hic2 : (i : Int) + 1 ≤ cap := by omega
  have hic3 : (i : Int) + 1 ≤ l.length := by omega
  have hic4 : 0 ≤ (i : Int) + 1 := by omega
  have H := Lib.hid h
  have HN := Lib.hid hn
  have HL := Lib.hid hlen
  clear hW1 h hat hn hlen
  go_enter Try.func17, Try.ntmps17
  go_wp2_with fail
  go_region_law (refine step_append_room rfl (.tmp 22) (.tmp 25) 22 rfl 5 i0 1 Try.underlying22 hi0 hz1 g off i cap (by simp [Act.eval, Act.put]) A (l.length - (i + 1)) (cap - (i + 1)) news (by simp [Act.eval, Act.put]) s1.out hsrc.out s2.out (by omega) s3.out ?_; rw [← hW.out])
  go_wp2
  go_ret
  have e : i + (l.length - (i + 1)) = l.length - 1 := by omega
  rw [e, show l.length - (l.length - 1) = 1 by omega]
  refine ⟨rfl, ?_, ?_⟩
  · rw [hW.out, HN.out, Nat.mul_one]
    exact Lf.delete (w := w.drew) H.out hi _ rfl
  · rw [hW.out]
    exact ((Touch.of_below (Below.drew (Below.refl _ w)) g g).trans (Touch.setCells _ g g g (.inl rfl) _ _)).trans (Touch.setCells _ g g g (.inl rfl) _ _)
end Go.Proofs.Ytbkmfmemcooagaa
