/- what the rows of this seat share: the listed variable. -/
import Derived.Test.YtccknopchddicaaDoorR0
import Derived.Test.YtccknopchddicaaDoorE1
import Derived.Test.YtccknopchddicaaDoorRows
import Derived.Test.YtccknopchddicaaDoorCards
import Derived.Test.YtccknopchddicaaDoorTie
import Derived.ChangeSame
import Derived.ChangeVars
import Derived.JoinedOf
import Derived.RowKit
import Derived.RowKitTokens
import Derived.LaidLaws
import Derived.LaidHandle
import Derived.Stop.Joined
import Derived.SevenTiedAt
namespace Go.Proofs.YtccknopchddicaaDoor
open Go.ChangeShapes Go.WideShapes Go.ChangeAt Go.RowKit Stile
theorem own_knob : ownKnob Tryd.prog.godebug = none := by kernel_rfl
theorem laid_out : laidOutB Tryd.prog = true := by kernel_rfl
theorem lv_et : Tryd.prog.globalNamed "errors.errorType" = some 0 := by kernel_rfl
theorem lv_rt : (Tryd.prog.cutTypes.find? (·.1 == "internal/reflectlite.rtype")).map (·.2) = some 102 := by kernel_rfl
theorem lv_one : ((List.range 145).filter fun t => Tryd.prog.rowNamed t [101, 114, 114, 111, 114]) = [26] := by kernel_rfl
theorem lv_size : Tryd.prog.types.size = 145 := by kernel_rfl
def lvList : List (String × DataW Unit) := [("errors.errorType", Rows.laid_errors_errorType)]
/-- what the condition gives a walk: the variable's one cell -/
theorem err_of_laid {W : World} (h : laidMetH Tryd.prog lvList W) : ErrVar W := by
  have h' : laidMet Tryd.prog [] W ∧ handlesMet Tryd.prog lvList W := h
  obtain ⟨name, u, ty, e1, e2, e3, e4, e5⟩ := h'.2 _ (List.mem_singleton.2 rfl)
  have en : name = [101, 114, 114, 111, 114] := (Option.some.inj e1).symm
  subst en
  obtain rfl := Option.some.inj (lv_rt.symm.trans e2)
  have hm : ty ∈ (List.range 145).filter fun t => Tryd.prog.rowNamed t [101, 114, 114, 111, 114] := List.mem_filter.2 ⟨List.mem_range.2 (by rw [← lv_size]; exact e3), e4⟩
  rw [lv_one] at hm
  obtain rfl := List.mem_singleton.1 hm
  have hh : typeHandle Tryd.prog 26 = .pointer (some ⟨1, 26, none⟩) := by kernel_rfl
  rw [hh] at e5
  have := World.var?_cell lv_et e5 0
  unfold ErrVar
  simpa using this
/-- a world that meets the condition -/
noncomputable def lvWorld (os : Os) : World :=
  let w0 := World.holding Tryd.prog os ⟨#[], #[], []⟩
  { w0 with heap := w0.heap.modify 0 fun
      | .cells _ t frozen => .cells #[.iface 102 (.agg #[.pointer (some ⟨1, 26, none⟩)])] t frozen
      | o => o }
theorem lvWorld_met (os : Os) (args : Array Value) : laidMetH Tryd.prog lvList ((lvWorld os).forCall (fun _ _ => 0) ⟨#[], args, []⟩).memory :=
  laidMetH_of_parts (laidMet_nil _ _) (by kernel_rfl)
theorem trodVars_nil {H : Type} {enc : TypeId × Value → H} {W : World} {sp : Nat → Bool} {gs : List (DataW H)} {q : List MemPlace} (h : DataW.TrodVars enc Tryd.prog W sp [] gs q) : gs = [] ∧ q = [] := by
  cases gs with
  | nil => exact ⟨rfl, h⟩
  | cons g r => exact absurd h (by intro h; cases h)
end Go.Proofs.YtccknopchddicaaDoor
