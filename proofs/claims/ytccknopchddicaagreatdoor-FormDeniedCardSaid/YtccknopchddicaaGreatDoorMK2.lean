/- nodes as cells. -/
import Derived.Test.YtccknopchddicaaGreatDoorMW0
import Derived.Deep.AppendLies
set_option linter.unusedSimpArgs false
set_option linter.unusedVariables false
set_option linter.unnecessarySimpa false
namespace Go.Proofs.YtccknopchddicaaGreatDoor
open Go.RowKit Stile
/-! ### nodes as cells -/
def ndCells : List Nd → List Value
  | [] => []
  | m :: l => .int .i64 m.k :: .int .i64 m.a :: .int .i64 m.b :: ndCells l
theorem ndCells_append : ∀ a b : List Nd, ndCells (a ++ b) = ndCells a ++ ndCells b
  | [], b => rfl
  | x :: a, b => by simp [ndCells, ndCells_append a b]
theorem ndCells_at : ∀ (l : List Nd) (j : Nat), j < l.length * 3 → (ndCells l)[j]? = some (nodes l j)
  | [], j, h => by simp at h
  | x :: l, j, h => by
    match j with
    | 0 => simp [ndCells, nodes, nd]
    | 1 => simp [ndCells, nodes, nd]
    | 2 => simp [ndCells, nodes, nd]
    | j + 3 =>
      have := ndCells_at l j (by simp at h; omega)
      simp only [ndCells, List.getElem?_cons_succ, this]
      unfold nodes nd
      have e1 : (j + 3) % 3 = j % 3 := by omega
      have e2 : (j + 3) / 3 = j / 3 + 1 := by omega
      rw [e1, e2]; simp [List.getD]
theorem info_nd : (Tryz.prog.info? 71).map (fun i => (i.zero, i.size, i.bytes)) = some (some (.agg #[.int .i64 0, .int .i64 0, .int .i64 0]), 3, 24) := by kernel_rfl

end Go.Proofs.YtccknopchddicaaGreatDoor
