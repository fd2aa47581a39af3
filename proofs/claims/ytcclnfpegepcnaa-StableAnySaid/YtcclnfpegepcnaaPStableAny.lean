/-
  StableAny returns true for any number of nodes, anything told and any turn, and leaves all as it was. No condition.
-/
import Derived.Test.YtcclnfpegepcnaaLaw19E
import Derived.Test.YtcclnfpegepcnaaOpenTold1
import Derived.Test.YtcclnfpegepcnaaFlatId
namespace Go.Proofs.Ytcclnfpegepcnaa.lawStableAny
open Go.RowKit Go.ChangeShapes Go.WideShapes Go.ChangeAt Go.Deep
set_option linter.unusedVariables false

theorem contract (H : Type) (enc : TypeId × Value → H) (W : World) (base : Nat) (args : Array Value) (ds gs : List (DataW H)) (before : List MemPlace)
    (hval : ∀ (j : Nat) t v, Try.f4.params[j]? = some t → args[j]? = some v → Value.okWide Try.prog W .any base t v)
    (hW : DataW.Whole enc Try.prog Try.f4.params.toList Rows.stableAnySpec.vars false W args.toList ds gs before) :
    Calls Try.prog 4 args W fun e W' => ∃ v, e = .returned v ∧ Rows.stableAnySpec.post enc Try.prog Try.f4 false true false false W args v W' := by
  have hW' := hW
  obtain ⟨p, q, hA0, hV, rfl, hfz, hnd⟩ := hW
  have hA : DataW.TrodAll enc Try.prog W 0 (fun _ => true) true Try.f4.params.toList args.toList ds p := hA0
  rw [Try.params4] at hA hval
  obtain ⟨v0, vs0, d0, ds0, p0, q0, hargs, rfl, rfl, h0, r0⟩ := trodAll_cons hA
  obtain ⟨v1, vs1, d1, ds1, p1, q1, rfl, rfl, rfl, h1, r1⟩ := trodAll_cons r0
  obtain ⟨v2, vs2, d2, ds2, p2, q2, rfl, rfl, rfl, h2, r2⟩ := trodAll_cons r1
  obtain ⟨rfl, rfl, rfl⟩ := trodAll_nil r2
  obtain rfl : args = #[v0, v1, v2] := by cases args; simp_all
  obtain ⟨rfl, rfl⟩ := trodVars_none hV
  obtain ⟨nodes, rfl, rfl, rfl, wfnodes⟩ := open_int Try.underlying5 (hval 0 _ _ rfl rfl) h0
  have oknodes := wf_u8 wfnodes
  obtain ⟨Al, l, cl, rfl, hcl, hml, rl, okl⟩ := open_sl (encf := tdc) (ok := TdV.ok W) (c := 3) (by omega) tdc_len Try.underlying22 (by kernel_rfl) (fun ht' => trod_told Try.underlying31 (by kernel_rfl) (by kernel_rfl) rfl Try.underlying5 Try.underlying29 Try.underlying4 rfl Try.underlying40 (by kernel_rfl) (by kernel_rfl) rfl (by kernel_rfl) ht') (hval 1 _ _ rfl rfl) h1
  obtain ⟨turn, rfl, rfl, rfl, wfturn⟩ := open_int Try.underlying5 (hval 2 _ _ rfl rfl) h2
  have okturn := wf_u8 wfturn
  clear hA0
  refine (sany_any nodes turn l Al cl W oknodes okturn rl okl hcl (by unfold maxLen at hml; omega)).mono fun e W' ⟨he, hb⟩ => ?_
  subst he
  exact ⟨_, rfl, law_post (P := Try.prog) Try.laidOut hW' rfl (by kernel_rfl) rfl Try.underlying4 rfl hb⟩

set_option maxRecDepth 100000 in
theorem lifted (os : Os) (started : os.Started) (H : Type) (enc : TypeId × Value → H) :
    ReturnsInHanded {} Try.checked os 4 .any (Rows.stableAnySpec.pre6 enc Try.prog Try.f4 Rows.stableAnyRow.domain false) (Rows.stableAnySpec.post enc Try.prog Try.f4 false true false false) := by
  refine returnsInHanded_of_change (C := Try.checked) Try.own started (by kernel_rfl) Try.func4
    (ChangeSpec.witness6 (enc := enc) (C := Try.checked) false ⟨#[], #[.int .u8 0, .slice none 0 0, .int .u8 0], []⟩ 8 (by kernel_rfl) (by kernel_rfl) (by kernel_rfl) (by kernel_rfl)) ?_
  intro W base args ds gs before hval hW _ _
  exact contract H enc W base args ds gs before hval hW

theorem proved : Rows.StableAnySaid :=
  OpenClaim.holds_of_wide 4 Try.f4 rfl rfl rfl rfl rfl rfl rfl ⟨rfl, rfl, rfl, rfl, rfl⟩ rfl rfl rfl rfl rfl (by kernel_rfl) Try.func4 (by kernel_rfl)
    (of_decide_eq_true (by kernel_rfl)) (by unfold Func.isWrapper; first | (rw [if_pos (by decide +kernel)]; kernel_rfl) | (rw [if_neg (by decide +kernel)]; exact ⟨rfl, rfl⟩))
    (fun os started H enc _ => lifted os started H enc)
end Go.Proofs.Ytcclnfpegepcnaa.lawStableAny
