/-
  StableForgets' walk, for an id and a member as they come (19).
-/
import Derived.Test.YtcclnfpegepcnaaLaw19D
namespace Go.Proofs.Ytcclnfpegepcnaa
open Go.RowKit

theorem sforg_id (nodes member : Int) (l : List TdV) (thn : List Id) (x : Id) (A B : Option Addr) (ca cb : Nat) (w : World) (hn : 0 ≤ nodes ∧ nodes ≤ 255) (hm : 0 ≤ member ∧ member ≤ 255) (hl : Rd tdc 3 w.heap.size w A l) (hlo : ∀ x ∈ l, x.ok w) (hll : l.length ≤ 9223372036854775807) (hb0 : Rd idc 3 w.heap.size w B thn) (hbo : ∀ x ∈ thn, x.ok) (hbl : thn.length ≤ 9223372036854775807) (hcb : thn.length ≤ cb) (hcm : cb ≤ maxLen) (hx : x.ok) :
    Calls Try.prog 8 #[.int .u8 nodes, .int .u8 member, .slice A l.length ca, .slice B thn.length cb, idv x] w fun e w' => e = .returned (.bool true) ∧ Below w.heap.size w w' := by
  obtain ⟨n, i, s⟩ := x
  obtain ⟨a, ha⟩ := Int.eq_ofNat_of_zero_le hx.1.1
  obtain ⟨m, hm'⟩ := Int.eq_ofNat_of_zero_le hm.1
  simp only at ha
  subst ha hm'
  exact sforg_any nodes m l thn a i s A B ca cb w hn (by omega) hl hlo hll hb0 hbo hbl hcb hcm hx
end Go.Proofs.Ytcclnfpegepcnaa
