/-
  No cell of these rows narrows 'for every input' (looked for: loops, veiled, ifaces, maps, wideKeys, modest, calm, conditions, laid).
  DERIVED. THE GIVEN ROWS OF THIS SEAT. 6 by the template 'for every input the law returns true; each argument reads behind the call as it read before'; 0 by the template 'total and deterministic' (their statements: YtcclnfpegepcnaaTotals.lean).
  GIVEN WITH THE SEED: the statements are not yours to turn. If you find one false, say at which input.
  Laid BY PROGRAM, IN A SANDBOX (cutbox-rows.mjs): the forced cells as the released guide's own fill.sh prints them over the translation 74816665df58ea21… (all of the seat's roots in one cut). By AI agents, Wed Nov 11 2026. No macro, syntax, notation, axiom, sorry.
-/
import Derived.Test.YtcclnfpegepcnaaChecked
import GoSem.Claim
import GoSem.ClaimJoined
import GoSem.ClaimMapViews
import Derived.JoinedTies
import Derived.KernelRfl
namespace Go.Proofs.Ytcclnfpegepcnaa
/- THE CELL 'sum', in the pinned program and in every row, IS THE sha256 OF THE DUMP (.gsa) THAT YtcclnfpegepcnaaProg.lean LOADS. Nothing in Lean hashes anything: it is a label: what it is worth is what the hold of that sum in a sandbox is worth. -/
noncomputable def Try.pinned : Pinned := { name := "ytcclnfpegepcnaa", sum := "74816665df58ea2122056da020ad1920b3da70fba7ee10871b86bae4143148b1", checked := Try.checked }
namespace Rows
def none {H : Type} : Left H := { results := [], args := [] }

/-- 'grapevinelaw19.StableOnce': WHATEVER THE INPUT: true; the input reads as it did. -/
def stableOnceSpec : ChangeSpec := { name := "stableOnce", fn := fun _ => fun
  | [d1, d2, d3, d4, d5, d6, d7] => { results := [.lit (.bool true)], args := [d1, d2, d3, d4, d5, d6, d7] }
  | _ => none }
def stableOnceRow : OpenClaim := { program := "ytcclnfpegepcnaa", sum := "74816665df58ea2122056da020ad1920b3da70fba7ee10871b86bae4143148b1", func := "grapevine/grapevinelaw19.StableOnce", spec := "stableOnce", unfollowed := true, recurses := true, apart := false }
def StableOnceSaid : Prop := stableOnceRow.holds Try.pinned (OpenSpec.ofChange stableOnceSpec)

/-- ITS FALSE NEIGHBOUR: 'it returns false'. Refute it at one input. -/
def stableOnceWrong : ChangeSpec := { name := "stableOnce", fn := fun _ => fun
  | [d1, d2, d3, d4, d5, d6, d7] => { results := [.lit (.bool false)], args := [d1, d2, d3, d4, d5, d6, d7] }
  | _ => none }
def StableOnceWrongFalsely : Prop := stableOnceRow.holds Try.pinned (OpenSpec.ofChange stableOnceWrong)

/-- 'grapevinelaw19.StableAny': WHATEVER THE INPUT: true; the input reads as it did. -/
def stableAnySpec : ChangeSpec := { name := "stableAny", fn := fun _ => fun
  | [d1, d2, d3] => { results := [.lit (.bool true)], args := [d1, d2, d3] }
  | _ => none }
def stableAnyRow : OpenClaim := { program := "ytcclnfpegepcnaa", sum := "74816665df58ea2122056da020ad1920b3da70fba7ee10871b86bae4143148b1", func := "grapevine/grapevinelaw19.StableAny", spec := "stableAny", unfollowed := true, recurses := true, apart := false }
def StableAnySaid : Prop := stableAnyRow.holds Try.pinned (OpenSpec.ofChange stableAnySpec)

/-- ITS FALSE NEIGHBOUR: 'it returns false'. Refute it at one input. -/
def stableAnyWrong : ChangeSpec := { name := "stableAny", fn := fun _ => fun
  | [d1, d2, d3] => { results := [.lit (.bool false)], args := [d1, d2, d3] }
  | _ => none }
def StableAnyWrongFalsely : Prop := stableAnyRow.holds Try.pinned (OpenSpec.ofChange stableAnyWrong)

/-- 'grapevinelaw19.StableOwn': WHATEVER THE INPUT: true; the input reads as it did. -/
def stableOwnSpec : ChangeSpec := { name := "stableOwn", fn := fun _ => fun
  | [d1, d2, d3, d4, d5] => { results := [.lit (.bool true)], args := [d1, d2, d3, d4, d5] }
  | _ => none }
def stableOwnRow : OpenClaim := { program := "ytcclnfpegepcnaa", sum := "74816665df58ea2122056da020ad1920b3da70fba7ee10871b86bae4143148b1", func := "grapevine/grapevinelaw19.StableOwn", spec := "stableOwn", unfollowed := true, recurses := true, apart := false }
def StableOwnSaid : Prop := stableOwnRow.holds Try.pinned (OpenSpec.ofChange stableOwnSpec)

/-- ITS FALSE NEIGHBOUR: 'it returns false'. Refute it at one input. -/
def stableOwnWrong : ChangeSpec := { name := "stableOwn", fn := fun _ => fun
  | [d1, d2, d3, d4, d5] => { results := [.lit (.bool false)], args := [d1, d2, d3, d4, d5] }
  | _ => none }
def StableOwnWrongFalsely : Prop := stableOwnRow.holds Try.pinned (OpenSpec.ofChange stableOwnWrong)

/-- 'grapevinelaw19.StableApart': WHATEVER THE INPUT: true; the input reads as it did. -/
def stableApartSpec : ChangeSpec := { name := "stableApart", fn := fun _ => fun
  | [d1, d2, d3] => { results := [.lit (.bool true)], args := [d1, d2, d3] }
  | _ => none }
def stableApartRow : OpenClaim := { program := "ytcclnfpegepcnaa", sum := "74816665df58ea2122056da020ad1920b3da70fba7ee10871b86bae4143148b1", func := "grapevine/grapevinelaw19.StableApart", spec := "stableApart", unfollowed := true, recurses := true, apart := false }
def StableApartSaid : Prop := stableApartRow.holds Try.pinned (OpenSpec.ofChange stableApartSpec)

/-- ITS FALSE NEIGHBOUR: 'it returns false'. Refute it at one input. -/
def stableApartWrong : ChangeSpec := { name := "stableApart", fn := fun _ => fun
  | [d1, d2, d3] => { results := [.lit (.bool false)], args := [d1, d2, d3] }
  | _ => none }
def StableApartWrongFalsely : Prop := stableApartRow.holds Try.pinned (OpenSpec.ofChange stableApartWrong)

/-- 'grapevinelaw19.StableTells': WHATEVER THE INPUT: true; the input reads as it did. -/
def stableTellsSpec : ChangeSpec := { name := "stableTells", fn := fun _ => fun
  | [d1, d2, d3, d4, d5, d6, d7, d8] => { results := [.lit (.bool true)], args := [d1, d2, d3, d4, d5, d6, d7, d8] }
  | _ => none }
def stableTellsRow : OpenClaim := { program := "ytcclnfpegepcnaa", sum := "74816665df58ea2122056da020ad1920b3da70fba7ee10871b86bae4143148b1", func := "grapevine/grapevinelaw19.StableTells", spec := "stableTells", unfollowed := true, recurses := true, apart := false }
def StableTellsSaid : Prop := stableTellsRow.holds Try.pinned (OpenSpec.ofChange stableTellsSpec)

/-- ITS FALSE NEIGHBOUR: 'it returns false'. Refute it at one input. -/
def stableTellsWrong : ChangeSpec := { name := "stableTells", fn := fun _ => fun
  | [d1, d2, d3, d4, d5, d6, d7, d8] => { results := [.lit (.bool false)], args := [d1, d2, d3, d4, d5, d6, d7, d8] }
  | _ => none }
def StableTellsWrongFalsely : Prop := stableTellsRow.holds Try.pinned (OpenSpec.ofChange stableTellsWrong)

/-- 'grapevinelaw19.StableForgets': WHATEVER THE INPUT: true; the input reads as it did. -/
def stableForgetsSpec : ChangeSpec := { name := "stableForgets", fn := fun _ => fun
  | [d1, d2, d3, d4, d5] => { results := [.lit (.bool true)], args := [d1, d2, d3, d4, d5] }
  | _ => none }
def stableForgetsRow : OpenClaim := { program := "ytcclnfpegepcnaa", sum := "74816665df58ea2122056da020ad1920b3da70fba7ee10871b86bae4143148b1", func := "grapevine/grapevinelaw19.StableForgets", spec := "stableForgets", unfollowed := true, recurses := true, apart := false }
def StableForgetsSaid : Prop := stableForgetsRow.holds Try.pinned (OpenSpec.ofChange stableForgetsSpec)

/-- ITS FALSE NEIGHBOUR: 'it returns false'. Refute it at one input. -/
def stableForgetsWrong : ChangeSpec := { name := "stableForgets", fn := fun _ => fun
  | [d1, d2, d3, d4, d5] => { results := [.lit (.bool false)], args := [d1, d2, d3, d4, d5] }
  | _ => none }
def StableForgetsWrongFalsely : Prop := stableForgetsRow.holds Try.pinned (OpenSpec.ofChange stableForgetsWrong)

/- THE SECOND FORM. 'bulk': how many values and letters a reading holds, each counted each time it is reached (what is shared counts as often as it is met; a slice's spare places count too). A statement '..UptoSaid' is the law's where the arguments, and the package variables that the reading takes, are together of bulk at most 1048576: NARROWER than '..Said'. Prove '..Said' where nothing that the law and all that it calls make is longer than what came in: it says more and counts as full. Else prove '..UptoSaid'. A law counts once. -/
mutual
def uptoBulk {H : Type} : DataW H → Nat
  | .lit (.string bytes) => bytes.length + 1
  | .lit _ => 1
  | .nil => 1
  | .ptr d => uptoBulk d + 1
  | .slice elems spare => uptoBulkAll elems + uptoBulkAll spare + 1
  | .agg parts => uptoBulkAll parts + 1
  | .iface _ d => uptoBulk d + 1
  | .map entries => uptoBulkEntries entries + 1
  | .held _ => 1
def uptoBulkAll {H : Type} : List (DataW H) → Nat
  | [] => 0
  | d :: r => uptoBulk d + uptoBulkAll r
def uptoBulkEntries {H : Type} : List (Lit × DataW H) → Nat
  | [] => 0
  | x :: r => uptoBulkEntry x + uptoBulkEntries r
def uptoBulkEntry {H : Type} : Lit × DataW H → Nat
  | (.string bytes, d) => bytes.length + uptoBulk d + 1
  | (_, d) => uptoBulk d + 1
 end
def uptoSmall : (H : Type) → List (DataW H) → Bool := fun _ ds => decide (uptoBulkAll ds ≤ 1048576)
def OpenSpec.upto (s : _root_.Go.ChangeSpec) : _root_.Go.OpenSpec := { _root_.Go.OpenSpec.ofChange s with cond := some uptoSmall }

/-- 'grapevinelaw19.StableOnce', WHERE WHAT IT READS IS OF BULK AT MOST 1048576: true; the input reads as it did. -/
def stableOnceUptoRow : OpenClaim := { program := "ytcclnfpegepcnaa", sum := "74816665df58ea2122056da020ad1920b3da70fba7ee10871b86bae4143148b1", func := "grapevine/grapevinelaw19.StableOnce", spec := "stableOnce", unfollowed := true, recurses := true, apart := false, narrowed := true }
def StableOnceUptoSaid : Prop := stableOnceUptoRow.holds Try.pinned (OpenSpec.upto stableOnceSpec)

/-- 'grapevinelaw19.StableAny', WHERE WHAT IT READS IS OF BULK AT MOST 1048576: true; the input reads as it did. -/
def stableAnyUptoRow : OpenClaim := { program := "ytcclnfpegepcnaa", sum := "74816665df58ea2122056da020ad1920b3da70fba7ee10871b86bae4143148b1", func := "grapevine/grapevinelaw19.StableAny", spec := "stableAny", unfollowed := true, recurses := true, apart := false, narrowed := true }
def StableAnyUptoSaid : Prop := stableAnyUptoRow.holds Try.pinned (OpenSpec.upto stableAnySpec)

/-- 'grapevinelaw19.StableOwn', WHERE WHAT IT READS IS OF BULK AT MOST 1048576: true; the input reads as it did. -/
def stableOwnUptoRow : OpenClaim := { program := "ytcclnfpegepcnaa", sum := "74816665df58ea2122056da020ad1920b3da70fba7ee10871b86bae4143148b1", func := "grapevine/grapevinelaw19.StableOwn", spec := "stableOwn", unfollowed := true, recurses := true, apart := false, narrowed := true }
def StableOwnUptoSaid : Prop := stableOwnUptoRow.holds Try.pinned (OpenSpec.upto stableOwnSpec)

/-- 'grapevinelaw19.StableApart', WHERE WHAT IT READS IS OF BULK AT MOST 1048576: true; the input reads as it did. -/
def stableApartUptoRow : OpenClaim := { program := "ytcclnfpegepcnaa", sum := "74816665df58ea2122056da020ad1920b3da70fba7ee10871b86bae4143148b1", func := "grapevine/grapevinelaw19.StableApart", spec := "stableApart", unfollowed := true, recurses := true, apart := false, narrowed := true }
def StableApartUptoSaid : Prop := stableApartUptoRow.holds Try.pinned (OpenSpec.upto stableApartSpec)

/-- 'grapevinelaw19.StableTells', WHERE WHAT IT READS IS OF BULK AT MOST 1048576: true; the input reads as it did. -/
def stableTellsUptoRow : OpenClaim := { program := "ytcclnfpegepcnaa", sum := "74816665df58ea2122056da020ad1920b3da70fba7ee10871b86bae4143148b1", func := "grapevine/grapevinelaw19.StableTells", spec := "stableTells", unfollowed := true, recurses := true, apart := false, narrowed := true }
def StableTellsUptoSaid : Prop := stableTellsUptoRow.holds Try.pinned (OpenSpec.upto stableTellsSpec)

/-- 'grapevinelaw19.StableForgets', WHERE WHAT IT READS IS OF BULK AT MOST 1048576: true; the input reads as it did. -/
def stableForgetsUptoRow : OpenClaim := { program := "ytcclnfpegepcnaa", sum := "74816665df58ea2122056da020ad1920b3da70fba7ee10871b86bae4143148b1", func := "grapevine/grapevinelaw19.StableForgets", spec := "stableForgets", unfollowed := true, recurses := true, apart := false, narrowed := true }
def StableForgetsUptoSaid : Prop := stableForgetsUptoRow.holds Try.pinned (OpenSpec.upto stableForgetsSpec)

end Rows
end Go.Proofs.Ytcclnfpegepcnaa
