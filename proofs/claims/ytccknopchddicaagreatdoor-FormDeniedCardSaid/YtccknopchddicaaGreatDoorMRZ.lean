/- what the rows of this seat share: the listed variable. -/
import Derived.Test.YtccknopchddicaaGreatDoorMGm
import Derived.Test.YtccknopchddicaaGreatDoorMR0
import Derived.Test.YtccknopchddicaaGreatDoorRows
import Derived.Test.YtccknopchddicaaGreatDoorCards
import Derived.Test.YtccknopchddicaaGreatDoorTie
import Derived.ChangeSame
import Derived.ChangeVars
import Derived.JoinedOf
import Derived.RowKit
import Derived.RowKitTokens
import Derived.LaidLaws
import Derived.LaidHandle
import Derived.Lay
import Derived.Stop.Joined
import Derived.SevenTiedAt
set_option linter.unusedSimpArgs false
set_option linter.unusedVariables false
set_option linter.unnecessarySimpa false
namespace Go.Proofs.YtccknopchddicaaGreatDoor
open Go.ChangeShapes Go.WideShapes Go.ChangeAt Go.RowKit Stile
theorem own_knob : ownKnob Tryz.prog.godebug = none := by kernel_rfl
theorem laid_out : laidOutB Tryz.prog = true := by kernel_rfl
theorem lv_et : Tryz.prog.globalNamed "errors.errorType" = some 0 := by kernel_rfl
theorem lv_rt : (Tryz.prog.cutTypes.find? (·.1 == "internal/reflectlite.rtype")).map (·.2) = some 174 := by kernel_rfl
theorem lv_one : ((List.range 225).filter fun t => Tryz.prog.rowNamed t [101, 114, 114, 111, 114]) = [49] := by kernel_rfl
theorem lv_size : Tryz.prog.types.size = 225 := by kernel_rfl
def lvList : List (String × DataW Unit) := [("unicode/utf8.acceptRanges", Rows.laid_unicode_utf8_acceptRanges), ("errors.errorType", Rows.laid_errors_errorType), ("unicode/utf8.first", Rows.laid_unicode_utf8_first)]
def lvData : List (String × DataW Unit) := [("unicode/utf8.acceptRanges", Rows.laid_unicode_utf8_acceptRanges), ("unicode/utf8.first", Rows.laid_unicode_utf8_first)]
/-- what the condition gives a walk: the variable's one cell -/
theorem err_of_laid {W : World} (h : laidMetH Tryz.prog lvList W) : ErrVar W := by
  have h' : laidMet Tryz.prog lvData W ∧ handlesMet Tryz.prog [("errors.errorType", Rows.laid_errors_errorType)] W := h
  obtain ⟨name, u, ty, e1, e2, e3, e4, e5⟩ := h'.2 _ (List.mem_singleton.2 rfl)
  have en : name = [101, 114, 114, 111, 114] := (Option.some.inj e1).symm
  subst en
  obtain rfl := Option.some.inj (lv_rt.symm.trans e2)
  have hm : ty ∈ (List.range 225).filter fun t => Tryz.prog.rowNamed t [101, 114, 114, 111, 114] := List.mem_filter.2 ⟨List.mem_range.2 (by rw [← lv_size]; exact e3), e4⟩
  rw [lv_one] at hm
  obtain rfl := List.mem_singleton.1 hm
  have hh : typeHandle Tryz.prog 49 = .pointer (some ⟨4, 49, none⟩) := by kernel_rfl
  rw [hh] at e5
  have := World.var?_cell lv_et e5 0
  unfold ErrVar
  simpa using this
/-- a world that meets the condition -/
noncomputable def lvWorld (os : Os) : World :=
  let w0 := World.laidAll Tryz.prog os lvData
  { w0 with heap := w0.heap.modify 0 fun
      | .cells _ t frozen => .cells #[.iface 174 (.agg #[.pointer (some ⟨4, 49, none⟩)])] t frozen
      | o => o }
theorem lvWorld_met (os : Os) (args : Array Value) : laidMetH Tryz.prog lvList ((lvWorld os).forCall (fun _ _ => 0) ⟨#[], args, []⟩).memory :=
  laidMetH_of_parts (laidMet_of_run' 40 (by kernel_rfl) (by kernel_rfl)) (by kernel_rfl)
theorem trodVars_nil {H : Type} {enc : TypeId × Value → H} {W : World} {sp : Nat → Bool} {gs : List (DataW H)} {q : List MemPlace} (h : DataW.TrodVars enc Tryz.prog W sp [] gs q) : gs = [] ∧ q = [] := by
  cases gs with
  | nil => exact ⟨rfl, h⟩
  | cons g r => exact absurd h (by intro h; cases h)
end Go.Proofs.YtccknopchddicaaGreatDoor
