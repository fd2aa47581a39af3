/-
  StableTells returns true for any number of nodes, anything told, any members, self, rows, id, member and node, and leaves all as it was. No condition.
-/
import Derived.Test.YtcclnfpegepcnaaTellsId
import Derived.Test.YtcclnfpegepcnaaOpenTold1
import Derived.Test.YtcclnfpegepcnaaFlatId
import Derived.Test.YtcclnfpegepcnaaFlatRow
namespace Go.Proofs.Ytcclnfpegepcnaa.lawStableTells
open Go.RowKit Go.ChangeShapes Go.WideShapes Go.ChangeAt Go.Deep
set_option linter.unusedVariables false

theorem contract (H : Type) (enc : TypeId × Value → H) (W : World) (base : Nat) (args : Array Value) (ds gs : List (DataW H)) (before : List MemPlace)
    (hval : ∀ (j : Nat) t v, Try.f7.params[j]? = some t → args[j]? = some v → Value.okWide Try.prog W .any base t v)
    (hW : DataW.Whole enc Try.prog Try.f7.params.toList Rows.stableTellsSpec.vars false W args.toList ds gs before) :
    Calls Try.prog 7 args W fun e W' => ∃ v, e = .returned v ∧ Rows.stableTellsSpec.post enc Try.prog Try.f7 false true false false W args v W' := by
  have hW' := hW
  obtain ⟨p, q, hA0, hV, rfl, hfz, hnd⟩ := hW
  have hA : DataW.TrodAll enc Try.prog W 0 (fun _ => true) true Try.f7.params.toList args.toList ds p := hA0
  rw [Try.params7] at hA hval
  obtain ⟨v0, vs0, d0, ds0, p0, q0, hargs, rfl, rfl, h0, r0⟩ := trodAll_cons hA
  obtain ⟨v1, vs1, d1, ds1, p1, q1, rfl, rfl, rfl, h1, r1⟩ := trodAll_cons r0
  obtain ⟨v2, vs2, d2, ds2, p2, q2, rfl, rfl, rfl, h2, r2⟩ := trodAll_cons r1
  obtain ⟨v3, vs3, d3, ds3, p3, q3, rfl, rfl, rfl, h3, r3⟩ := trodAll_cons r2
  obtain ⟨v4, vs4, d4, ds4, p4, q4, rfl, rfl, rfl, h4, r4⟩ := trodAll_cons r3
  obtain ⟨v5, vs5, d5, ds5, p5, q5, rfl, rfl, rfl, h5, r5⟩ := trodAll_cons r4
  obtain ⟨v6, vs6, d6, ds6, p6, q6, rfl, rfl, rfl, h6, r6⟩ := trodAll_cons r5
  obtain ⟨v7, vs7, d7, ds7, p7, q7, rfl, rfl, rfl, h7, r7⟩ := trodAll_cons r6
  obtain ⟨rfl, rfl, rfl⟩ := trodAll_nil r7
  obtain rfl : args = #[v0, v1, v2, v3, v4, v5, v6, v7] := by cases args; simp_all
  obtain ⟨rfl, rfl⟩ := trodVars_none hV
  obtain ⟨nodes, rfl, rfl, rfl, wfnodes⟩ := open_int Try.underlying3 (hval 0 _ _ rfl rfl) h0
  have oknodes := wf_i64 wfnodes
  obtain ⟨Al, l, cl, rfl, hcl, hml, rl, okl⟩ := open_sl (encf := tdc) (ok := TdV.ok W) (c := 3) (by omega) tdc_len Try.underlying22 (by kernel_rfl) (fun ht' => trod_told Try.underlying31 (by kernel_rfl) (by kernel_rfl) rfl Try.underlying5 Try.underlying29 Try.underlying4 rfl Try.underlying40 (by kernel_rfl) (by kernel_rfl) rfl (by kernel_rfl) ht') (hval 1 _ _ rfl rfl) h1
  obtain ⟨AM, M, cM, rfl, hcM, hmM, rM, okM⟩ := open_flats flat_mem (c := 3) (by omega) memc_len Try.underlying23 Try.underlying39 (by kernel_rfl) (by kernel_rfl) rfl (by kernel_rfl) (hval 2 _ _ rfl rfl) h2
  obtain ⟨self, rfl, rfl, rfl, wfself⟩ := open_int Try.underlying5 (hval 3 _ _ rfl rfl) h3
  have okself := wf_u8 wfself
  obtain ⟨AR, R, cR, rfl, hcR, hmR, rR, okR⟩ := open_flats flat_row (c := 3) (by omega) rowc_len Try.underlying24 Try.underlying44 (by kernel_rfl) (by kernel_rfl) rfl (by kernel_rfl) (hval 4 _ _ rfl rfl) h4
  obtain ⟨x, rfl, okx⟩ := open_flat flat_id Try.underlying28 (by kernel_rfl) (by kernel_rfl) (by kernel_rfl) (hval 5 _ _ rfl rfl) h5
  obtain ⟨member, rfl, rfl, rfl, wfmember⟩ := open_int Try.underlying5 (hval 6 _ _ rfl rfl) h6
  have okmember := wf_u8 wfmember
  obtain ⟨node, rfl, rfl, rfl, wfnode⟩ := open_int Try.underlying5 (hval 7 _ _ rfl rfl) h7
  have oknode := wf_u8 wfnode
  clear hA0
  refine (stells_id nodes l M self R x member node Al AM AR cl cM cR W oknodes.1 rl okl (by unfold maxLen at hml; omega) rM (by unfold maxLen at hmM; omega) okself rR (by unfold maxLen at hmR; omega) okx okmember oknode).mono fun e W' ⟨he, hb⟩ => ?_
  subst he
  exact ⟨_, rfl, law_post (P := Try.prog) Try.laidOut hW' rfl (by kernel_rfl) rfl Try.underlying4 rfl hb⟩

set_option maxRecDepth 100000 in
theorem lifted (os : Os) (started : os.Started) (H : Type) (enc : TypeId × Value → H) :
    ReturnsInHanded {} Try.checked os 7 .any (Rows.stableTellsSpec.pre6 enc Try.prog Try.f7 Rows.stableTellsRow.domain false) (Rows.stableTellsSpec.post enc Try.prog Try.f7 false true false false) := by
  refine returnsInHanded_of_change (C := Try.checked) Try.own started (by kernel_rfl) Try.func7
    (ChangeSpec.witness6 (enc := enc) (C := Try.checked) false ⟨#[], #[.int .i64 0, .slice none 0 0, .slice none 0 0, .int .u8 0, .slice none 0 0, .agg #[.int .u8 0, .int .u16 0, .int .u32 0], .int .u8 0, .int .u8 0], []⟩ 8 (by kernel_rfl) (by kernel_rfl) (by kernel_rfl) (by kernel_rfl)) ?_
  intro W base args ds gs before hval hW _ _
  exact contract H enc W base args ds gs before hval hW

theorem proved : Rows.StableTellsSaid :=
  OpenClaim.holds_of_wide 7 Try.f7 rfl rfl rfl rfl rfl rfl rfl ⟨rfl, rfl, rfl, rfl, rfl⟩ rfl rfl rfl rfl rfl (by kernel_rfl) Try.func7 (by kernel_rfl)
    (of_decide_eq_true (by kernel_rfl)) (by unfold Func.isWrapper; first | (rw [if_pos (by decide +kernel)]; kernel_rfl) | (rw [if_neg (by decide +kernel)]; exact ⟨rfl, rfl⟩))
    (fun os started H enc _ => lifted os started H enc)
end Go.Proofs.Ytcclnfpegepcnaa.lawStableTells
