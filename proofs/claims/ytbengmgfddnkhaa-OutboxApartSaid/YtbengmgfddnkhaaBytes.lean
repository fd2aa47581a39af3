/-
  string(b) of a slice of bytes, and equality of such strings.
-/
import Derived.Test.YtbengmgfddnkhaaInts
import Derived.Laws.BytesArg
import Derived.Laws.Strings
namespace Go.Proofs.Ytbengmgfddnkhaa
open Go.RowKit
theorem conv_rd {P : Program} {src e dst : TypeId} (hs : P.underlying src = some (.slice e)) (he : P.underlying e = some (.int .u8)) (hd : P.underlying dst = some .string) {w : World} {B : Nat} {A : Option Addr} {l : List Int} (h : Rd (fun z : Int => [Value.int .u8 z]) 1 B w A l) (n c : Nat) (hn : n = l.length) :
    (convert src dst (.slice A n c)).run P w = .ok (.string (strOfNums l)) w := by
  subst hn
  rcases Nat.eq_zero_or_pos l.length with h0 | h0
  · obtain rfl := List.length_eq_zero_iff.1 h0
    rw [run_convert_bytes_string w src dst e A _ c hs he hd]
    rcases A with _ | a
    · simp [Conv.bytesToString]; rfl
    · have := run_bytesToString (P := P) w a 0 c [] (by simp [loadCells]; rfl)
      rw [List.length_nil, this]; rfl
  · obtain ⟨b, o, rfl, _, hc⟩ := h h0
    refine run_convert_bytes_arg w src e hs he b o l.length c l rfl (fun i hi => ?_) dst hd
    have := hc i l[i] (List.getElem?_eq_getElem hi) 0 _ rfl
    simpa [List.getD_eq_getElem?_getD, List.getElem?_eq_getElem hi] using this
def u8L (l : List Int) : Prop := ∀ x ∈ l, 0 ≤ x ∧ x ≤ 255
theorem nums_inj {a b : List Int} (ha : u8L a) (hb : u8L b) (h : (strOfNums a).data.toList = (strOfNums b).data.toList) : a = b := by
  rw [strOfNums_data, strOfNums_data] at h
  have hl : a.length = b.length := by simpa using congrArg List.length h
  refine List.ext_getElem hl fun i h2 h3 => ?_
  have h4 := congrArg (fun l : List UInt8 => l[i]?) h
  simp [h2, h3] at h4
  have h5 := congrArg UInt8.toNat h4
  have ra := ha a[i] (List.getElem_mem h2)
  have rb := hb b[i] (List.getElem_mem h3)
  rw [UInt8.toNat_ofNat', UInt8.toNat_ofNat'] at h5
  omega
theorem str_eq {a b : List Int} (ha : u8L a) (hb : u8L b) : ((strOfNums a).toList == (strOfNums b).toList) = decide (a = b) := by
  rw [ByteArray.toList_eq, ByteArray.toList_eq, Bool.eq_iff_iff, beq_iff_eq, decide_eq_true_iff]
  exact ⟨nums_inj ha hb, fun h => by rw [h]⟩
end Go.Proofs.Ytbengmgfddnkhaa
