/- trees in memory; contracts: wPick, wMake. -/
import Derived.Test.YtccknopchddicaaGreatDoorMB1
import Derived.Test.YtccknopchddicaaGreatDoorMC4
import Derived.Test.YtccknopchddicaaGreatDoorMGc
import Derived.Test.YtccknopchddicaaGreatDoorMK1
import Derived.IntWalk
set_option linter.unusedSimpArgs false
set_option linter.unusedVariables false
set_option linter.unnecessarySimpa false
namespace Go.Proofs.YtccknopchddicaaGreatDoor
open Go.RowKit Stile
theorem wmake_any (k : Int) (A : Option Addr) (n c : Nat) (w : World) :
    Calls Tryz.prog 16 #[.int .i64 k, .slice A n c] w fun e w' => e = .returned (.agg #[.int .i64 k, .int .i64 0, .slice A n c]) ∧ Below w.heap.size w w' := by
  go_enter Tryz.func16, Tryz.ntmps16
  go_wp2_with fail
  exact bodyPost_ret (v := .agg #[.int .i64 k, .int .i64 0, .slice A n c]) (by simp [results, Tryz.results16, go_sem]) rfl ⟨rfl, (Below.refl _ _).alloc (Nat.le_refl _) _⟩
end Go.Proofs.YtccknopchddicaaGreatDoor
