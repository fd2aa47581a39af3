/-
  StableOnce's walk, for an id as it comes (19).
-/
import Derived.Test.YtcclnfpegepcnaaLaw19C
namespace Go.Proofs.Ytcclnfpegepcnaa
open Go.RowKit

theorem sonce_id (nodes : Int) (l : List TdV) (M : List Mb) (self : Int) (R : List Rw) (x : Id) (more : TdV) (A C B : Option Addr) (ca cc cb : Nat) (w : World) (hn : 0 ≤ nodes ∧ nodes ≤ 255) (hl : Rd tdc 3 w.heap.size w A l) (hlo : ∀ x ∈ l, x.ok w) (hll : l.length ≤ 9223372036854775807) (hm : Rd memc 3 w.heap.size w C M) (hml : M.length ≤ 9223372036854775807) (hself : 0 ≤ self ∧ self ≤ 255) (hr : Rd rowc 3 w.heap.size w B R) (hrl : R.length ≤ 9223372036854775807) (hx : x.ok) (hmo : more.ok w) :
    Calls Try.prog 3 #[.int .u8 nodes, .slice A l.length ca, .slice C M.length cc, .int .u8 self, .slice B R.length cb, idv x, .agg #[.int .u8 more.m, .slice more.A more.l.length more.cap, .bool more.f]] w fun e w' => e = .returned (.bool true) ∧ Below w.heap.size w w' := by
  obtain ⟨n, i, s⟩ := x
  obtain ⟨a, ha⟩ := Int.eq_ofNat_of_zero_le hx.1.1
  simp only at ha
  subst ha
  exact sonce_any nodes l M self R a i s more A C B ca cc cb w hn hl hlo hll hm hml hself hr hrl hx hmo
end Go.Proofs.Ytcclnfpegepcnaa
