/-
  DigestFills returns true for any rows, ids and window, and leaves all as it was. No condition.
-/
import Derived.Test.YthockpallaoelaaLaw17E
import Derived.Test.YthockpallaoelaaFlatRow
namespace Go.Proofs.Ythockpallaoelaa.lawDigestFills
open Go.RowKit Go.ChangeShapes Go.WideShapes Go.ChangeAt Go.Deep
set_option linter.unusedVariables false

theorem contract (H : Type) (enc : TypeId × Value → H) (W : World) (base : Nat) (args : Array Value) (ds gs : List (DataW H)) (before : List MemPlace)
    (hval : ∀ (j : Nat) t v, Try.f3.params[j]? = some t → args[j]? = some v → Value.okWide Try.prog W .any base t v)
    (hW : DataW.Whole enc Try.prog Try.f3.params.toList Rows.digestFillsSpec.vars false W args.toList ds gs before) :
    Calls Try.prog 3 args W fun e W' => ∃ v, e = .returned v ∧ Rows.digestFillsSpec.post enc Try.prog Try.f3 false true false false W args v W' := by
  have hW' := hW
  obtain ⟨p, q, hA0, hV, rfl, hfz, hnd⟩ := hW
  have hA : DataW.TrodAll enc Try.prog W 0 (fun _ => true) true Try.f3.params.toList args.toList ds p := hA0
  rw [Try.params3] at hA hval
  obtain ⟨v0, vs0, d0, ds0, p0, q0, hargs, rfl, rfl, h0, r0⟩ := trodAll_cons hA
  obtain ⟨v1, vs1, d1, ds1, p1, q1, rfl, rfl, rfl, h1, r1⟩ := trodAll_cons r0
  obtain ⟨v2, vs2, d2, ds2, p2, q2, rfl, rfl, rfl, h2, r2⟩ := trodAll_cons r1
  obtain ⟨rfl, rfl, rfl⟩ := trodAll_nil r2
  obtain rfl : args = #[v0, v1, v2] := by cases args; simp_all
  obtain ⟨rfl, rfl⟩ := trodVars_none hV
  obtain ⟨Arows, rows, crows, rfl, hcrows, hmrows, rrows, okrows⟩ := open_flats flat_row (c := 3) (by omega) rowc_len Try.underlying22 Try.underlying34 (by kernel_rfl) (by kernel_rfl) rfl (by kernel_rfl) (hval 0 _ _ rfl rfl) h0
  obtain ⟨Aids, ids, cids, rfl, hcids, hmids, rids, okids⟩ := open_flats flat_id (c := 3) (by omega) idc_len Try.underlying23 Try.underlying30 (by kernel_rfl) (by kernel_rfl) rfl (by kernel_rfl) (hval 1 _ _ rfl rfl) h1
  obtain ⟨m, rfl, rfl, rfl, wfm⟩ := open_int Try.underlying3 (hval 2 _ _ rfl rfl) h2
  have okm := wf_i64 wfm
  clear hA0
  refine (dfills_any rows ids m Arows Aids crows cids W rrows rids okrows okids (by unfold maxLen at hmrows; omega) (by unfold maxLen at hmids; omega)).mono fun e W' ⟨he, hb⟩ => ?_
  subst he
  exact ⟨_, rfl, law_post (P := Try.prog) Try.laidOut hW' rfl (by kernel_rfl) rfl Try.underlying4 rfl hb⟩

set_option maxRecDepth 100000 in
theorem lifted (os : Os) (started : os.Started) (H : Type) (enc : TypeId × Value → H) :
    ReturnsInHanded {} Try.checked os 3 .any (Rows.digestFillsSpec.pre6 enc Try.prog Try.f3 Rows.digestFillsRow.domain false) (Rows.digestFillsSpec.post enc Try.prog Try.f3 false true false false) := by
  refine returnsInHanded_of_change (C := Try.checked) Try.own started (by kernel_rfl) Try.func3
    (ChangeSpec.witness6 (enc := enc) (C := Try.checked) false ⟨#[], #[.slice none 0 0, .slice none 0 0, .int .i64 0], []⟩ 8 (by kernel_rfl) (by kernel_rfl) (by kernel_rfl) (by kernel_rfl)) ?_
  intro W base args ds gs before hval hW _ _
  exact contract H enc W base args ds gs before hval hW

theorem proved : Rows.DigestFillsSaid :=
  OpenClaim.holds_of_wide 3 Try.f3 rfl rfl rfl rfl rfl rfl rfl ⟨rfl, rfl, rfl, rfl, rfl⟩ rfl rfl rfl rfl rfl (by kernel_rfl) Try.func3 (by kernel_rfl)
    (of_decide_eq_true (by kernel_rfl)) (by unfold Func.isWrapper; first | (rw [if_pos (by decide +kernel)]; kernel_rfl) | (rw [if_neg (by decide +kernel)]; exact ⟨rfl, rfl⟩))
    (fun os started H enc _ => lifted os started H enc)
end Go.Proofs.Ythockpallaoelaa.lawDigestFills
