/-
  PulseTells returns true for any table, any ops, any self and any two members, and leaves all as it was. No condition.
-/
import Derived.Test.YtgkdljfhmflmjaaLaw14E
namespace Go.Proofs.Ytgkdljfhmflmjaa.lawPulseTells
open Go.RowKit Go.ChangeShapes Go.WideShapes Go.ChangeAt Go.Deep
set_option linter.unusedVariables false

theorem contract (H : Type) (enc : TypeId × Value → H) (W : World) (base : Nat) (args : Array Value) (ds gs : List (DataW H)) (before : List MemPlace)
    (hval : ∀ (j : Nat) t v, Try.f5.params[j]? = some t → args[j]? = some v → Value.okWide Try.prog W .any base t v)
    (hW : DataW.Whole enc Try.prog Try.f5.params.toList Rows.pulseTellsSpec.vars false W args.toList ds gs before) :
    Calls Try.prog 5 args W fun e W' => ∃ v, e = .returned v ∧ Rows.pulseTellsSpec.post enc Try.prog Try.f5 false true false false W args v W' := by
  have hW' := hW
  obtain ⟨p, q, hA0, hV, rfl, hfz, hnd⟩ := hW
  have hA : DataW.TrodAll enc Try.prog W 0 (fun _ => true) true Try.f5.params.toList args.toList ds p := hA0
  rw [Try.params5] at hA hval
  obtain ⟨v0, vs0, d0, ds0, p0, q0, hargs, rfl, rfl, h0, r0⟩ := trodAll_cons hA
  obtain ⟨v1, vs1, d1, ds1, p1, q1, rfl, rfl, rfl, h1, r1⟩ := trodAll_cons r0
  obtain ⟨v2, vs2, d2, ds2, p2, q2, rfl, rfl, rfl, h2, r2⟩ := trodAll_cons r1
  obtain ⟨v3, vs3, d3, ds3, p3, q3, rfl, rfl, rfl, h3, r3⟩ := trodAll_cons r2
  obtain ⟨v4, vs4, d4, ds4, p4, q4, rfl, rfl, rfl, h4, r4⟩ := trodAll_cons r3
  obtain ⟨rfl, rfl, rfl⟩ := trodAll_nil r4
  obtain rfl : args = #[v0, v1, v2, v3, v4] := by cases args; simp_all
  obtain ⟨rfl, rfl⟩ := trodVars_none hV
  obtain ⟨Al, l, cl, rfl, hcl, hml, rl, okl⟩ := open_flats flat_mem (c := 3) (by omega) memc_len Try.underlying23 Try.underlying27 (by kernel_rfl) (by kernel_rfl) rfl (by kernel_rfl) (hval 0 _ _ rfl rfl) h0
  obtain ⟨Aops, ops, cops, rfl, hcops, hmops, rops, okops⟩ := open_sl (encf := opc) (ok := OpV.ok W) (c := 5) (by omega) opc_len Try.underlying37 (by kernel_rfl) (fun ht' => trod_op Try.underlying40 (by kernel_rfl) (by kernel_rfl) rfl Try.underlying5 Try.underlying5 Try.underlying22 Try.underlying3 Try.underlying23 rfl Try.underlying27 (by kernel_rfl) (by kernel_rfl) rfl (by kernel_rfl) ht') (hval 1 _ _ rfl rfl) h1
  obtain ⟨self, rfl, rfl, rfl, wfself⟩ := open_int Try.underlying5 (hval 2 _ _ rfl rfl) h2
  have okself := wf_u8 wfself
  obtain ⟨a, rfl, oka⟩ := open_flat flat_mem Try.underlying27 (by kernel_rfl) (by kernel_rfl) (by kernel_rfl) (hval 3 _ _ rfl rfl) h3
  obtain ⟨b, rfl, okb⟩ := open_flat flat_mem Try.underlying27 (by kernel_rfl) (by kernel_rfl) (by kernel_rfl) (hval 4 _ _ rfl rfl) h4
  clear hA0
  refine (ptells_any l Al cl ops Aops cops self a b W rl hcl hml okl rops hcops hmops okops okself oka).mono fun e W' ⟨he, hb⟩ => ?_
  subst he
  exact ⟨_, rfl, law_post (P := Try.prog) Try.laidOut hW' rfl (by kernel_rfl) rfl Try.underlying4 rfl hb⟩

set_option maxRecDepth 100000 in
theorem lifted (os : Os) (started : os.Started) (H : Type) (enc : TypeId × Value → H) :
    ReturnsInHanded {} Try.checked os 5 .any (Rows.pulseTellsSpec.pre6 enc Try.prog Try.f5 Rows.pulseTellsRow.domain false) (Rows.pulseTellsSpec.post enc Try.prog Try.f5 false true false false) := by
  refine returnsInHanded_of_change (C := Try.checked) Try.own started (by kernel_rfl) Try.func5
    (ChangeSpec.witness6 (enc := enc) (C := Try.checked) false ⟨#[], #[.slice none 0 0, .slice none 0 0, .int .u8 0, .agg #[.int .u16 0, .int .u8 0, .int .u8 0], .agg #[.int .u16 0, .int .u8 0, .int .u8 0]], []⟩ 8 (by kernel_rfl) (by kernel_rfl) (by kernel_rfl) (by kernel_rfl)) ?_
  intro W base args ds gs before hval hW _ _
  exact contract H enc W base args ds gs before hval hW

theorem proved : Rows.PulseTellsSaid :=
  OpenClaim.holds_of_wide 5 Try.f5 rfl rfl rfl rfl rfl rfl rfl ⟨rfl, rfl, rfl, rfl, rfl⟩ rfl rfl rfl rfl rfl (by kernel_rfl) Try.func5 (by kernel_rfl)
    (of_decide_eq_true (by kernel_rfl)) (by unfold Func.isWrapper; first | (rw [if_pos (by decide +kernel)]; kernel_rfl) | (rw [if_neg (by decide +kernel)]; exact ⟨rfl, rfl⟩))
    (fun os started H enc _ => lifted os started H enc)
end Go.Proofs.Ytgkdljfhmflmjaa.lawPulseTells
