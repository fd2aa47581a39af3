/-
  No cell of these rows narrows 'for every input' (looked for: loops, veiled, ifaces, maps, wideKeys, modest, calm, conditions, laid).
  DERIVED. THE GIVEN ROWS OF THIS SEAT. 5 by the template 'for every input the law returns true; each argument reads behind the call as it read before'; 0 by the template 'total and deterministic' (their statements: YtfdppebbpcjhjaaTotals.lean).
  GIVEN WITH THE SEED: the statements are not yours to turn. If you find one false, say at which input.
  Laid BY PROGRAM, IN A SANDBOX (cutbox-rows.mjs): the forced cells as the released guide's own fill.sh prints them over the translation a82fb8f7fcf8097b… (all of the seat's roots in one cut). By AI agents, Wed Nov 11 2026. No macro, syntax, notation, axiom, sorry.
-/
import Derived.Test.YtfdppebbpcjhjaaChecked
import GoSem.Claim
import GoSem.ClaimJoined
import GoSem.ClaimMapViews
import Derived.JoinedTies
import Derived.KernelRfl
namespace Go.Proofs.Ytfdppebbpcjhjaa
/- THE CELL 'sum', in the pinned program and in every row, IS THE sha256 OF THE DUMP (.gsa) THAT YtfdppebbpcjhjaaProg.lean LOADS. Nothing in Lean hashes anything: it is a label: what it is worth is what the hold of that sum in a sandbox is worth. -/
noncomputable def Try.pinned : Pinned := { name := "ytfdppebbpcjhjaa", sum := "a82fb8f7fcf8097bb02a6cef87ede1214918fe118a4e118d4777c06a2ccfd20a", checked := Try.checked }
namespace Rows
def none {H : Type} : Left H := { results := [], args := [] }

/-- 'grapevinelaw08.SeenAny': WHATEVER THE INPUT: true; the input reads as it did. -/
def seenAnySpec : ChangeSpec := { name := "seenAny", fn := fun _ => fun
  | [d1, d2, d3, d4] => { results := [.lit (.bool true)], args := [d1, d2, d3, d4] }
  | _ => none }
def seenAnyRow : OpenClaim := { program := "ytfdppebbpcjhjaa", sum := "a82fb8f7fcf8097bb02a6cef87ede1214918fe118a4e118d4777c06a2ccfd20a", func := "grapevine/grapevinelaw08.SeenAny", spec := "seenAny", unfollowed := true, recurses := true, plainKeys := false, apart := false }
def SeenAnySaid : Prop := seenAnyRow.holds Try.pinned (OpenSpec.ofChange seenAnySpec)

/-- ITS FALSE NEIGHBOUR: 'it returns false'. Refute it at one input. -/
def seenAnyWrong : ChangeSpec := { name := "seenAny", fn := fun _ => fun
  | [d1, d2, d3, d4] => { results := [.lit (.bool false)], args := [d1, d2, d3, d4] }
  | _ => none }
def SeenAnyWrongFalsely : Prop := seenAnyRow.holds Try.pinned (OpenSpec.ofChange seenAnyWrong)

/-- 'grapevinelaw08.SeenTells': WHATEVER THE INPUT: true; the input reads as it did. -/
def seenTellsSpec : ChangeSpec := { name := "seenTells", fn := fun _ => fun
  | [d1, d2, d3, d4] => { results := [.lit (.bool true)], args := [d1, d2, d3, d4] }
  | _ => none }
def seenTellsRow : OpenClaim := { program := "ytfdppebbpcjhjaa", sum := "a82fb8f7fcf8097bb02a6cef87ede1214918fe118a4e118d4777c06a2ccfd20a", func := "grapevine/grapevinelaw08.SeenTells", spec := "seenTells", unfollowed := true, recurses := true, plainKeys := false, apart := false }
def SeenTellsSaid : Prop := seenTellsRow.holds Try.pinned (OpenSpec.ofChange seenTellsSpec)

/-- ITS FALSE NEIGHBOUR: 'it returns false'. Refute it at one input. -/
def seenTellsWrong : ChangeSpec := { name := "seenTells", fn := fun _ => fun
  | [d1, d2, d3, d4] => { results := [.lit (.bool false)], args := [d1, d2, d3, d4] }
  | _ => none }
def SeenTellsWrongFalsely : Prop := seenTellsRow.holds Try.pinned (OpenSpec.ofChange seenTellsWrong)

/-- 'grapevinelaw08.SeenOnce': WHATEVER THE INPUT: true; the input reads as it did. -/
def seenOnceSpec : ChangeSpec := { name := "seenOnce", fn := fun _ => fun
  | [d1, d2] => { results := [.lit (.bool true)], args := [d1, d2] }
  | _ => none }
def seenOnceRow : OpenClaim := { program := "ytfdppebbpcjhjaa", sum := "a82fb8f7fcf8097bb02a6cef87ede1214918fe118a4e118d4777c06a2ccfd20a", func := "grapevine/grapevinelaw08.SeenOnce", spec := "seenOnce", unfollowed := true, recurses := true, plainKeys := false, apart := false }
def SeenOnceSaid : Prop := seenOnceRow.holds Try.pinned (OpenSpec.ofChange seenOnceSpec)

/-- ITS FALSE NEIGHBOUR: 'it returns false'. Refute it at one input. -/
def seenOnceWrong : ChangeSpec := { name := "seenOnce", fn := fun _ => fun
  | [d1, d2] => { results := [.lit (.bool false)], args := [d1, d2] }
  | _ => none }
def SeenOnceWrongFalsely : Prop := seenOnceRow.holds Try.pinned (OpenSpec.ofChange seenOnceWrong)

/-- 'grapevinelaw08.SeenWindow': WHATEVER THE INPUT: true; the input reads as it did. -/
def seenWindowSpec : ChangeSpec := { name := "seenWindow", fn := fun _ => fun
  | [d1, d2, d3, d4] => { results := [.lit (.bool true)], args := [d1, d2, d3, d4] }
  | _ => none }
def seenWindowRow : OpenClaim := { program := "ytfdppebbpcjhjaa", sum := "a82fb8f7fcf8097bb02a6cef87ede1214918fe118a4e118d4777c06a2ccfd20a", func := "grapevine/grapevinelaw08.SeenWindow", spec := "seenWindow", unfollowed := true, recurses := true, plainKeys := false, apart := false }
def SeenWindowSaid : Prop := seenWindowRow.holds Try.pinned (OpenSpec.ofChange seenWindowSpec)

/-- ITS FALSE NEIGHBOUR: 'it returns false'. Refute it at one input. -/
def seenWindowWrong : ChangeSpec := { name := "seenWindow", fn := fun _ => fun
  | [d1, d2, d3, d4] => { results := [.lit (.bool false)], args := [d1, d2, d3, d4] }
  | _ => none }
def SeenWindowWrongFalsely : Prop := seenWindowRow.holds Try.pinned (OpenSpec.ofChange seenWindowWrong)

/-- 'grapevinelaw08.SeenLives': WHATEVER THE INPUT: true; the input reads as it did. -/
def seenLivesSpec : ChangeSpec := { name := "seenLives", fn := fun _ => fun
  | [d1, d2, d3] => { results := [.lit (.bool true)], args := [d1, d2, d3] }
  | _ => none }
def seenLivesRow : OpenClaim := { program := "ytfdppebbpcjhjaa", sum := "a82fb8f7fcf8097bb02a6cef87ede1214918fe118a4e118d4777c06a2ccfd20a", func := "grapevine/grapevinelaw08.SeenLives", spec := "seenLives", unfollowed := true, recurses := true, plainKeys := false, apart := false }
def SeenLivesSaid : Prop := seenLivesRow.holds Try.pinned (OpenSpec.ofChange seenLivesSpec)

/-- ITS FALSE NEIGHBOUR: 'it returns false'. Refute it at one input. -/
def seenLivesWrong : ChangeSpec := { name := "seenLives", fn := fun _ => fun
  | [d1, d2, d3] => { results := [.lit (.bool false)], args := [d1, d2, d3] }
  | _ => none }
def SeenLivesWrongFalsely : Prop := seenLivesRow.holds Try.pinned (OpenSpec.ofChange seenLivesWrong)

/- THE SECOND FORM. 'bulk': how many values and letters a reading holds, each counted each time it is reached (what is shared counts as often as it is met; a slice's spare places count too). A statement '..UptoSaid' is the law's where the arguments, and the package variables that the reading takes, are together of bulk at most 1048576: NARROWER than '..Said'. Prove '..Said' where nothing that the law and all that it calls make is longer than what came in: it says more and counts as full. Else prove '..UptoSaid'. A law counts once. -/
mutual
def uptoBulk {H : Type} : DataW H → Nat
  | .lit (.string bytes) => bytes.length + 1
  | .lit _ => 1
  | .nil => 1
  | .ptr d => uptoBulk d + 1
  | .slice elems spare => uptoBulkAll elems + uptoBulkAll spare + 1
  | .agg parts => uptoBulkAll parts + 1
  | .iface _ d => uptoBulk d + 1
  | .map entries => uptoBulkEntries entries + 1
  | .held _ => 1
def uptoBulkAll {H : Type} : List (DataW H) → Nat
  | [] => 0
  | d :: r => uptoBulk d + uptoBulkAll r
def uptoBulkEntries {H : Type} : List (Lit × DataW H) → Nat
  | [] => 0
  | x :: r => uptoBulkEntry x + uptoBulkEntries r
def uptoBulkEntry {H : Type} : Lit × DataW H → Nat
  | (.string bytes, d) => bytes.length + uptoBulk d + 1
  | (_, d) => uptoBulk d + 1
 end
def uptoSmall : (H : Type) → List (DataW H) → Bool := fun _ ds => decide (uptoBulkAll ds ≤ 1048576)
def OpenSpec.upto (s : _root_.Go.ChangeSpec) : _root_.Go.OpenSpec := { _root_.Go.OpenSpec.ofChange s with cond := some uptoSmall }

/-- 'grapevinelaw08.SeenAny', WHERE WHAT IT READS IS OF BULK AT MOST 1048576: true; the input reads as it did. -/
def seenAnyUptoRow : OpenClaim := { program := "ytfdppebbpcjhjaa", sum := "a82fb8f7fcf8097bb02a6cef87ede1214918fe118a4e118d4777c06a2ccfd20a", func := "grapevine/grapevinelaw08.SeenAny", spec := "seenAny", unfollowed := true, recurses := true, plainKeys := false, apart := false, narrowed := true }
def SeenAnyUptoSaid : Prop := seenAnyUptoRow.holds Try.pinned (OpenSpec.upto seenAnySpec)

/-- 'grapevinelaw08.SeenTells', WHERE WHAT IT READS IS OF BULK AT MOST 1048576: true; the input reads as it did. -/
def seenTellsUptoRow : OpenClaim := { program := "ytfdppebbpcjhjaa", sum := "a82fb8f7fcf8097bb02a6cef87ede1214918fe118a4e118d4777c06a2ccfd20a", func := "grapevine/grapevinelaw08.SeenTells", spec := "seenTells", unfollowed := true, recurses := true, plainKeys := false, apart := false, narrowed := true }
def SeenTellsUptoSaid : Prop := seenTellsUptoRow.holds Try.pinned (OpenSpec.upto seenTellsSpec)

/-- 'grapevinelaw08.SeenOnce', WHERE WHAT IT READS IS OF BULK AT MOST 1048576: true; the input reads as it did. -/
def seenOnceUptoRow : OpenClaim := { program := "ytfdppebbpcjhjaa", sum := "a82fb8f7fcf8097bb02a6cef87ede1214918fe118a4e118d4777c06a2ccfd20a", func := "grapevine/grapevinelaw08.SeenOnce", spec := "seenOnce", unfollowed := true, recurses := true, plainKeys := false, apart := false, narrowed := true }
def SeenOnceUptoSaid : Prop := seenOnceUptoRow.holds Try.pinned (OpenSpec.upto seenOnceSpec)

/-- 'grapevinelaw08.SeenWindow', WHERE WHAT IT READS IS OF BULK AT MOST 1048576: true; the input reads as it did. -/
def seenWindowUptoRow : OpenClaim := { program := "ytfdppebbpcjhjaa", sum := "a82fb8f7fcf8097bb02a6cef87ede1214918fe118a4e118d4777c06a2ccfd20a", func := "grapevine/grapevinelaw08.SeenWindow", spec := "seenWindow", unfollowed := true, recurses := true, plainKeys := false, apart := false, narrowed := true }
def SeenWindowUptoSaid : Prop := seenWindowUptoRow.holds Try.pinned (OpenSpec.upto seenWindowSpec)

/-- 'grapevinelaw08.SeenLives', WHERE WHAT IT READS IS OF BULK AT MOST 1048576: true; the input reads as it did. -/
def seenLivesUptoRow : OpenClaim := { program := "ytfdppebbpcjhjaa", sum := "a82fb8f7fcf8097bb02a6cef87ede1214918fe118a4e118d4777c06a2ccfd20a", func := "grapevine/grapevinelaw08.SeenLives", spec := "seenLives", unfollowed := true, recurses := true, plainKeys := false, apart := false, narrowed := true }
def SeenLivesUptoSaid : Prop := seenLivesUptoRow.holds Try.pinned (OpenSpec.upto seenLivesSpec)

end Rows
end Go.Proofs.Ytfdppebbpcjhjaa
