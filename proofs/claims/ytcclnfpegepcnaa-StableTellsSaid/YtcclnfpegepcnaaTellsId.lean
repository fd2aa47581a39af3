/-
  StableTells' walk, for an id, a member, a node and a self as they come (19).
-/
import Derived.Test.YtcclnfpegepcnaaLaw19F
namespace Go.Proofs.Ytcclnfpegepcnaa
open Go.RowKit

theorem stells_id (nodes : Int) (l : List TdV) (M : List Mb) (self : Int) (R : List Rw) (x : Id) (member node : Int) (A C B : Option Addr) (ca cc cb : Nat) (w : World) (hnm : -9223372036854775808 ≤ nodes) (hl : Rd tdc 3 w.heap.size w A l) (hlo : ∀ x ∈ l, x.ok w) (hll : l.length ≤ 9223372036854775807) (hm : Rd memc 3 w.heap.size w C M) (hml : M.length ≤ 9223372036854775807) (hself : 0 ≤ self ∧ self ≤ 255) (hr : Rd rowc 3 w.heap.size w B R) (hrl : R.length ≤ 9223372036854775807) (hx : x.ok) (hmem : 0 ≤ member ∧ member ≤ 255) (hnode : 0 ≤ node ∧ node ≤ 255) :
    Calls Try.prog 7 #[.int .i64 nodes, .slice A l.length ca, .slice C M.length cc, .int .u8 self, .slice B R.length cb, idv x, .int .u8 member, .int .u8 node] w fun e w' => e = .returned (.bool true) ∧ Below w.heap.size w w' := by
  obtain ⟨n, i, s⟩ := x
  obtain ⟨a, ha⟩ := Int.eq_ofNat_of_zero_le hx.1.1
  obtain ⟨sf, hsf⟩ := Int.eq_ofNat_of_zero_le hself.1
  obtain ⟨mm, hmm⟩ := Int.eq_ofNat_of_zero_le hmem.1
  obtain ⟨nd, hnd⟩ := Int.eq_ofNat_of_zero_le hnode.1
  simp only at ha
  subst ha hsf hmm hnd
  exact stells_any nodes l M sf R a i s mm nd A C B ca cc cb w hnm hl hlo hll hm hml (by omega) hr hrl hx (by omega) (by omega)
end Go.Proofs.Ytcclnfpegepcnaa
