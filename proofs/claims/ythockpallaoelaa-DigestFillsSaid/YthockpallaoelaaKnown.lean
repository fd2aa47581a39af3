/-
  The rows of which something is seen, with their places; their marks: plain.
-/
import Derived.Test.YthockpallaoelaaRow
import Derived.Test.YthockpallaoelaaDd
namespace Go.Proofs.Ythockpallaoelaa
def knF : Nat → List Rw → List (Nat × Rw)
  | _, [] => []
  | n, r :: t => if 0 < r.i then (n, r) :: knF (n + 1) t else knF (n + 1) t
theorem knF_snoc : ∀ (a : List Rw) (n : Nat) (r : Rw), knF n (a ++ [r]) = if 0 < r.i then knF n a ++ [(n + a.length, r)] else knF n a
  | [], n, r => by simp [knF]
  | b :: a, n, r => by
    have ih := knF_snoc a (n + 1) r
    simp only [List.cons_append, knF, ih, List.length_cons]
    have e : n + 1 + a.length = n + (a.length + 1) := by omega
    rw [e]
    split <;> split <;> simp
def kn (rows : List Rw) : List (Nat × Rw) := knF 0 rows
theorem kn_nil : kn [] = [] := rfl
theorem kn_yes {rows : List Rw} {k : Nat} {r : Rw} (h : rows[k]? = some r) (hr : 0 < r.i) : kn (rows.take (k + 1)) = kn (rows.take k) ++ [(k, r)] := by
  have hk : k < rows.length := (List.getElem?_eq_some_iff.1 h).1
  unfold kn
  rw [List.take_add_one, h, Option.toList_some, knF_snoc, if_pos hr]
  simp only [List.length_take]
  rw [show 0 + min k rows.length = k by omega]
theorem kn_no {rows : List Rw} {k : Nat} {r : Rw} (h : rows[k]? = some r) (hr : ¬ 0 < r.i) : kn (rows.take (k + 1)) = kn (rows.take k) := by
  unfold kn
  rw [List.take_add_one, h, Option.toList_some, knF_snoc, if_neg hr]
theorem knF_len : ∀ (a : List Rw) (n : Nat), (knF n a).length ≤ a.length
  | [], _ => by simp [knF]
  | r :: a, n => by
    have := knF_len a (n + 1)
    simp only [knF]
    split <;> simp <;> omega
theorem kn_len (rows : List Rw) : (kn rows).length ≤ rows.length := knF_len rows 0
theorem knF_append : ∀ (a b : List Rw) (n : Nat), knF n (a ++ b) = knF n a ++ knF (n + a.length) b
  | [], b, n => by simp [knF]
  | r :: a, b, n => by
    have ih := knF_append a b (n + 1)
    simp only [List.cons_append, knF, ih, List.length_cons]
    rw [show n + 1 + a.length = n + (a.length + 1) by omega]
    split <;> simp
/-- those among the first k come first -/
theorem kn_at {rows : List Rw} {k : Nat} {r : Rw} (h : rows[k]? = some r) (hr : 0 < r.i) : (kn rows)[(kn (rows.take k)).length]? = some (k, r) := by
  have hk : k < rows.length := (List.getElem?_eq_some_iff.1 h).1
  have e : rows = rows.take (k + 1) ++ rows.drop (k + 1) := (List.take_append_drop _ _).symm
  have h2 := kn_yes h hr
  have h3 : kn rows = kn (rows.take (k + 1)) ++ knF (0 + (rows.take (k + 1)).length) (rows.drop (k + 1)) := by
    conv => lhs; rw [e]
    exact knF_append _ _ 0
  rw [h3, h2, List.append_assoc, List.getElem?_append_right (Nat.le_refl _)]
  simp
def marksL (rows : List Rw) : List Id := (kn rows).map fun p => ⟨p.1, p.2.i, p.2.p⟩
theorem marks_len (rows : List Rw) : (marksL rows).length ≤ rows.length := by unfold marksL; rw [List.length_map]; exact kn_len rows
/-- may this id be taken into its row? -/
def lackOk (rows : List Rw) (m : Int) (x : Id) : Bool := match rows[x.n.toNat]? with | some r => mayB r x m | none => false
def lacksL (ids : List Id) (rows : List Rw) (m : Int) : List Id := dd (lackOk rows m) ids
end Go.Proofs.Ythockpallaoelaa
