/-
  No cell of these rows narrows 'for every input' (looked for: loops, veiled, ifaces, maps, wideKeys, modest, calm, conditions, laid).
  DERIVED. THE GIVEN ROWS OF THIS SEAT. 5 by the template 'for every input the law returns true; each argument reads behind the call as it read before'; 0 by the template 'total and deterministic' (their statements: YthockpallaoelaaTotals.lean).
  GIVEN WITH THE SEED: the statements are not yours to turn. If you find one false, say at which input.
  Laid BY PROGRAM, IN A SANDBOX (cutbox-rows.mjs): the forced cells as the released guide's own fill.sh prints them over the translation 9e077e0ae46222d9… (all of the seat's roots in one cut). By AI agents, Wed Nov 11 2026. No macro, syntax, notation, axiom, sorry.
-/
import Derived.Test.YthockpallaoelaaChecked
import GoSem.Claim
import GoSem.ClaimJoined
import GoSem.ClaimMapViews
import Derived.JoinedTies
import Derived.KernelRfl
namespace Go.Proofs.Ythockpallaoelaa
/- THE CELL 'sum', in the pinned program and in every row, IS THE sha256 OF THE DUMP (.gsa) THAT YthockpallaoelaaProg.lean LOADS. Nothing in Lean hashes anything: it is a label: what it is worth is what the hold of that sum in a sandbox is worth. -/
noncomputable def Try.pinned : Pinned := { name := "ythockpallaoelaa", sum := "9e077e0ae46222d91d5e00bd0a40ec00fefaa15cb22f992a06fcb6dcfc80d10c", checked := Try.checked }
namespace Rows
def none {H : Type} : Left H := { results := [], args := [] }

/-- 'grapevinelaw17.DigestFills': WHATEVER THE INPUT: true; the input reads as it did. -/
def digestFillsSpec : ChangeSpec := { name := "digestFills", fn := fun _ => fun
  | [d1, d2, d3] => { results := [.lit (.bool true)], args := [d1, d2, d3] }
  | _ => none }
def digestFillsRow : OpenClaim := { program := "ythockpallaoelaa", sum := "9e077e0ae46222d91d5e00bd0a40ec00fefaa15cb22f992a06fcb6dcfc80d10c", func := "grapevine/grapevinelaw17.DigestFills", spec := "digestFills", unfollowed := true, recurses := true, plainKeys := false, apart := false }
def DigestFillsSaid : Prop := digestFillsRow.holds Try.pinned (OpenSpec.ofChange digestFillsSpec)

/-- ITS FALSE NEIGHBOUR: 'it returns false'. Refute it at one input. -/
def digestFillsWrong : ChangeSpec := { name := "digestFills", fn := fun _ => fun
  | [d1, d2, d3] => { results := [.lit (.bool false)], args := [d1, d2, d3] }
  | _ => none }
def DigestFillsWrongFalsely : Prop := digestFillsRow.holds Try.pinned (OpenSpec.ofChange digestFillsWrong)

/-- 'grapevinelaw17.DigestAlike': WHATEVER THE INPUT: true; the input reads as it did. -/
def digestAlikeSpec : ChangeSpec := { name := "digestAlike", fn := fun _ => fun
  | [d1, d2, d3, d4] => { results := [.lit (.bool true)], args := [d1, d2, d3, d4] }
  | _ => none }
def digestAlikeRow : OpenClaim := { program := "ythockpallaoelaa", sum := "9e077e0ae46222d91d5e00bd0a40ec00fefaa15cb22f992a06fcb6dcfc80d10c", func := "grapevine/grapevinelaw17.DigestAlike", spec := "digestAlike", unfollowed := true, recurses := true, plainKeys := false, apart := false }
def DigestAlikeSaid : Prop := digestAlikeRow.holds Try.pinned (OpenSpec.ofChange digestAlikeSpec)

/-- ITS FALSE NEIGHBOUR: 'it returns false'. Refute it at one input. -/
def digestAlikeWrong : ChangeSpec := { name := "digestAlike", fn := fun _ => fun
  | [d1, d2, d3, d4] => { results := [.lit (.bool false)], args := [d1, d2, d3, d4] }
  | _ => none }
def DigestAlikeWrongFalsely : Prop := digestAlikeRow.holds Try.pinned (OpenSpec.ofChange digestAlikeWrong)

/-- 'grapevinelaw17.DigestTells': WHATEVER THE INPUT: true; the input reads as it did. -/
def digestTellsSpec : ChangeSpec := { name := "digestTells", fn := fun _ => fun
  | [d1, d2, d3, d4, d5] => { results := [.lit (.bool true)], args := [d1, d2, d3, d4, d5] }
  | _ => none }
def digestTellsRow : OpenClaim := { program := "ythockpallaoelaa", sum := "9e077e0ae46222d91d5e00bd0a40ec00fefaa15cb22f992a06fcb6dcfc80d10c", func := "grapevine/grapevinelaw17.DigestTells", spec := "digestTells", unfollowed := true, recurses := true, plainKeys := false, apart := false }
def DigestTellsSaid : Prop := digestTellsRow.holds Try.pinned (OpenSpec.ofChange digestTellsSpec)

/-- ITS FALSE NEIGHBOUR: 'it returns false'. Refute it at one input. -/
def digestTellsWrong : ChangeSpec := { name := "digestTells", fn := fun _ => fun
  | [d1, d2, d3, d4, d5] => { results := [.lit (.bool false)], args := [d1, d2, d3, d4, d5] }
  | _ => none }
def DigestTellsWrongFalsely : Prop := digestTellsRow.holds Try.pinned (OpenSpec.ofChange digestTellsWrong)

/-- 'grapevinelaw17.DigestNewer': WHATEVER THE INPUT: true; the input reads as it did. -/
def digestNewerSpec : ChangeSpec := { name := "digestNewer", fn := fun _ => fun
  | [d1, d2, d3] => { results := [.lit (.bool true)], args := [d1, d2, d3] }
  | _ => none }
def digestNewerRow : OpenClaim := { program := "ythockpallaoelaa", sum := "9e077e0ae46222d91d5e00bd0a40ec00fefaa15cb22f992a06fcb6dcfc80d10c", func := "grapevine/grapevinelaw17.DigestNewer", spec := "digestNewer", unfollowed := true, recurses := true, plainKeys := false, apart := false }
def DigestNewerSaid : Prop := digestNewerRow.holds Try.pinned (OpenSpec.ofChange digestNewerSpec)

/-- ITS FALSE NEIGHBOUR: 'it returns false'. Refute it at one input. -/
def digestNewerWrong : ChangeSpec := { name := "digestNewer", fn := fun _ => fun
  | [d1, d2, d3] => { results := [.lit (.bool false)], args := [d1, d2, d3] }
  | _ => none }
def DigestNewerWrongFalsely : Prop := digestNewerRow.holds Try.pinned (OpenSpec.ofChange digestNewerWrong)

/-- 'grapevinelaw17.DigestMarks': WHATEVER THE INPUT: true; the input reads as it did. -/
def digestMarksSpec : ChangeSpec := { name := "digestMarks", fn := fun _ => fun
  | [d1, d2, d3] => { results := [.lit (.bool true)], args := [d1, d2, d3] }
  | _ => none }
def digestMarksRow : OpenClaim := { program := "ythockpallaoelaa", sum := "9e077e0ae46222d91d5e00bd0a40ec00fefaa15cb22f992a06fcb6dcfc80d10c", func := "grapevine/grapevinelaw17.DigestMarks", spec := "digestMarks", unfollowed := true, recurses := true, plainKeys := false, apart := false }
def DigestMarksSaid : Prop := digestMarksRow.holds Try.pinned (OpenSpec.ofChange digestMarksSpec)

/-- ITS FALSE NEIGHBOUR: 'it returns false'. Refute it at one input. -/
def digestMarksWrong : ChangeSpec := { name := "digestMarks", fn := fun _ => fun
  | [d1, d2, d3] => { results := [.lit (.bool false)], args := [d1, d2, d3] }
  | _ => none }
def DigestMarksWrongFalsely : Prop := digestMarksRow.holds Try.pinned (OpenSpec.ofChange digestMarksWrong)

/- THE SECOND FORM. 'bulk': how many values and letters a reading holds, each counted each time it is reached (what is shared counts as often as it is met; a slice's spare places count too). A statement '..UptoSaid' is the law's where the arguments, and the package variables that the reading takes, are together of bulk at most 1048576: NARROWER than '..Said'. Prove '..Said' where nothing that the law and all that it calls make is longer than what came in: it says more and counts as full. Else prove '..UptoSaid'. A law counts once. -/
mutual
def uptoBulk {H : Type} : DataW H → Nat
  | .lit (.string bytes) => bytes.length + 1
  | .lit _ => 1
  | .nil => 1
  | .ptr d => uptoBulk d + 1
  | .slice elems spare => uptoBulkAll elems + uptoBulkAll spare + 1
  | .agg parts => uptoBulkAll parts + 1
  | .iface _ d => uptoBulk d + 1
  | .map entries => uptoBulkEntries entries + 1
  | .held _ => 1
def uptoBulkAll {H : Type} : List (DataW H) → Nat
  | [] => 0
  | d :: r => uptoBulk d + uptoBulkAll r
def uptoBulkEntries {H : Type} : List (Lit × DataW H) → Nat
  | [] => 0
  | x :: r => uptoBulkEntry x + uptoBulkEntries r
def uptoBulkEntry {H : Type} : Lit × DataW H → Nat
  | (.string bytes, d) => bytes.length + uptoBulk d + 1
  | (_, d) => uptoBulk d + 1
 end
def uptoSmall : (H : Type) → List (DataW H) → Bool := fun _ ds => decide (uptoBulkAll ds ≤ 1048576)
def OpenSpec.upto (s : _root_.Go.ChangeSpec) : _root_.Go.OpenSpec := { _root_.Go.OpenSpec.ofChange s with cond := some uptoSmall }

/-- 'grapevinelaw17.DigestFills', WHERE WHAT IT READS IS OF BULK AT MOST 1048576: true; the input reads as it did. -/
def digestFillsUptoRow : OpenClaim := { program := "ythockpallaoelaa", sum := "9e077e0ae46222d91d5e00bd0a40ec00fefaa15cb22f992a06fcb6dcfc80d10c", func := "grapevine/grapevinelaw17.DigestFills", spec := "digestFills", unfollowed := true, recurses := true, plainKeys := false, apart := false, narrowed := true }
def DigestFillsUptoSaid : Prop := digestFillsUptoRow.holds Try.pinned (OpenSpec.upto digestFillsSpec)

/-- 'grapevinelaw17.DigestAlike', WHERE WHAT IT READS IS OF BULK AT MOST 1048576: true; the input reads as it did. -/
def digestAlikeUptoRow : OpenClaim := { program := "ythockpallaoelaa", sum := "9e077e0ae46222d91d5e00bd0a40ec00fefaa15cb22f992a06fcb6dcfc80d10c", func := "grapevine/grapevinelaw17.DigestAlike", spec := "digestAlike", unfollowed := true, recurses := true, plainKeys := false, apart := false, narrowed := true }
def DigestAlikeUptoSaid : Prop := digestAlikeUptoRow.holds Try.pinned (OpenSpec.upto digestAlikeSpec)

/-- 'grapevinelaw17.DigestTells', WHERE WHAT IT READS IS OF BULK AT MOST 1048576: true; the input reads as it did. -/
def digestTellsUptoRow : OpenClaim := { program := "ythockpallaoelaa", sum := "9e077e0ae46222d91d5e00bd0a40ec00fefaa15cb22f992a06fcb6dcfc80d10c", func := "grapevine/grapevinelaw17.DigestTells", spec := "digestTells", unfollowed := true, recurses := true, plainKeys := false, apart := false, narrowed := true }
def DigestTellsUptoSaid : Prop := digestTellsUptoRow.holds Try.pinned (OpenSpec.upto digestTellsSpec)

/-- 'grapevinelaw17.DigestNewer', WHERE WHAT IT READS IS OF BULK AT MOST 1048576: true; the input reads as it did. -/
def digestNewerUptoRow : OpenClaim := { program := "ythockpallaoelaa", sum := "9e077e0ae46222d91d5e00bd0a40ec00fefaa15cb22f992a06fcb6dcfc80d10c", func := "grapevine/grapevinelaw17.DigestNewer", spec := "digestNewer", unfollowed := true, recurses := true, plainKeys := false, apart := false, narrowed := true }
def DigestNewerUptoSaid : Prop := digestNewerUptoRow.holds Try.pinned (OpenSpec.upto digestNewerSpec)

/-- 'grapevinelaw17.DigestMarks', WHERE WHAT IT READS IS OF BULK AT MOST 1048576: true; the input reads as it did. -/
def digestMarksUptoRow : OpenClaim := { program := "ythockpallaoelaa", sum := "9e077e0ae46222d91d5e00bd0a40ec00fefaa15cb22f992a06fcb6dcfc80d10c", func := "grapevine/grapevinelaw17.DigestMarks", spec := "digestMarks", unfollowed := true, recurses := true, plainKeys := false, apart := false, narrowed := true }
def DigestMarksUptoSaid : Prop := digestMarksUptoRow.holds Try.pinned (OpenSpec.upto digestMarksSpec)

end Rows
end Go.Proofs.Ythockpallaoelaa
