/-
  OutboxOrder returns true for any room, any messages, any numbers of takes, and leaves all as it was. No condition.
-/
import Derived.Test.YtbengmgfddnkhaaLaw21O
import Derived.Test.YtbengmgfddnkhaaOpenMs
namespace Go.Proofs.Ytbengmgfddnkhaa.lawOutboxOrder
open Go.RowKit Go.ChangeShapes Go.WideShapes Go.ChangeAt Go.Deep
set_option linter.unusedVariables false

theorem contract (H : Type) (enc : TypeId × Value → H) (W : World) (base : Nat) (args : Array Value) (ds gs : List (DataW H)) (before : List MemPlace)
    (hval : ∀ (j : Nat) t v, Try.f4.params[j]? = some t → args[j]? = some v → Value.okWide Try.prog W .any base t v)
    (hW : DataW.Whole enc Try.prog Try.f4.params.toList Rows.outboxOrderSpec.vars false W args.toList ds gs before) :
    Calls Try.prog 4 args W fun e W' => ∃ v, e = .returned v ∧ Rows.outboxOrderSpec.post enc Try.prog Try.f4 false true false false W args v W' := by
  have hW' := hW
  obtain ⟨p, q, hA0, hV, rfl, hfz, hnd⟩ := hW
  have hA : DataW.TrodAll enc Try.prog W 0 (fun _ => true) true Try.f4.params.toList args.toList ds p := hA0
  rw [Try.params4] at hA hval
  obtain ⟨v0, vs0, d0, ds0, p0, q0, hargs, rfl, rfl, h0, r0⟩ := trodAll_cons hA
  obtain ⟨v1, vs1, d1, ds1, p1, q1, rfl, rfl, rfl, h1, r1⟩ := trodAll_cons r0
  obtain ⟨v2, vs2, d2, ds2, p2, q2, rfl, rfl, rfl, h2, r2⟩ := trodAll_cons r1
  obtain ⟨rfl, rfl, rfl⟩ := trodAll_nil r2
  obtain rfl : args = #[v0, v1, v2] := by cases args; simp_all
  obtain ⟨rfl, rfl⟩ := trodVars_none hV
  obtain ⟨room, rfl, rfl, rfl, wfroom⟩ := open_int Try.underlying5 (hval 0 _ _ rfl rfl) h0
  have okroom := wf_u8 wfroom
  obtain ⟨Al, l, cl, rfl, hcl, hml, rl, okl⟩ := open_sl (encf := msc) (ok := MsV.ok W) (c := 17) (by omega) msc_len Try.underlying22 (by kernel_rfl) (fun ht' => trod_ms ht') (hval 1 _ _ rfl rfl) h1
  obtain ⟨Atakes, takes, ctakes, rfl, hctakes, hmtakes, rtakes, wftakes⟩ := open_ints1 Try.underlying32 Try.underlying5 (by kernel_rfl) (hval 2 _ _ rfl rfl) h2
  clear hA0
  refine (oorder_any room l Al cl takes Atakes ctakes W okroom ⟨rl, fun m hm => (okl m hm).rd⟩ okl (by unfold maxLen at *; omega) rtakes (fun z hz => wf_u8 (wftakes z hz)) (by unfold maxLen at *; omega)).mono fun e W' ⟨he, hb⟩ => ?_
  subst he
  exact ⟨_, rfl, law_post (P := Try.prog) Try.laidOut hW' rfl (by kernel_rfl) rfl Try.underlying4 rfl hb⟩

set_option maxRecDepth 100000 in
theorem lifted (os : Os) (started : os.Started) (H : Type) (enc : TypeId × Value → H) :
    ReturnsInHanded {} Try.checked os 4 .any (Rows.outboxOrderSpec.pre6 enc Try.prog Try.f4 Rows.outboxOrderRow.domain false) (Rows.outboxOrderSpec.post enc Try.prog Try.f4 false true false false) := by
  refine returnsInHanded_of_change (C := Try.checked) Try.own started (by kernel_rfl) Try.func4
    (ChangeSpec.witness6 (enc := enc) (C := Try.checked) false ⟨#[], #[.int .u8 0, .slice none 0 0, .slice none 0 0], []⟩ 8 (by kernel_rfl) (by kernel_rfl) (by kernel_rfl) (by kernel_rfl)) ?_
  intro W base args ds gs before hval hW _ _
  exact contract H enc W base args ds gs before hval hW

theorem proved : Rows.OutboxOrderSaid :=
  OpenClaim.holds_of_wide 4 Try.f4 rfl rfl rfl rfl rfl rfl rfl ⟨rfl, rfl, rfl, rfl, rfl⟩ rfl rfl rfl rfl rfl (by kernel_rfl) Try.func4 (by kernel_rfl)
    (of_decide_eq_true (by kernel_rfl)) (by unfold Func.isWrapper; first | (rw [if_pos (by decide +kernel)]; kernel_rfl) | (rw [if_neg (by decide +kernel)]; exact ⟨rfl, rfl⟩))
    (fun os started H enc _ => lifted os started H enc)
end Go.Proofs.Ytbengmgfddnkhaa.lawOutboxOrder
