/- contract: wPick. -/
import Derived.Test.YtccknopchddicaaGreatDoorMGa
import Derived.Test.YtccknopchddicaaGreatDoorMW0
import Derived.IntWalk
set_option linter.unusedSimpArgs false
set_option linter.unusedVariables false
set_option linter.unnecessarySimpa false
namespace Go.Proofs.YtccknopchddicaaGreatDoor
open Go.RowKit Stile
set_option maxHeartbeats 400000 in
theorem pick_any (x n : Int) (w : World) (hx0 : -9223372036854775808 ≤ x) (hx1 : x ≤ 9223372036854775807) (h0 : 0 < n) (h1 : n ≤ 9223372036854775807) :
    Calls Tryz.prog 18 #[.int .i64 x, .int .i64 n] w fun e w' => e = .returned (.int .i64 (pick x n)) ∧ w = w' := by
  have e1 : IntKind.u64.wrap n = n := by rw [IntKind.wrap_u64]; omega
  have hp := pick_range (x := x) h0
  have e2 : IntKind.i64.wrap (pick x n) = pick x n := IntWalk.i64_in _ (by omega)
  have e3 : (n == 0) = false := by simp; omega
  go_enter Tryz.func18, Tryz.ntmps18
  go_wp2_with fail
  go_ret
  refine ⟨?_, rfl⟩
  have hq : wrap64 ((IntKind.u64.wrap x).tmod n) = pick x n := by
    rw [IntKind.wrap_u64, Int.tmod_eq_emod_of_nonneg (Int.emod_nonneg _ (by decide))]
    have e4 : (x % 18446744073709551616) % n = pick x n := rfl
    rw [e4]
    unfold wrap64
    omega
  show Ending.returned (Value.int .i64 (wrap64 ((IntKind.u64.wrap x).tmod n))) = _
  rw [hq]
end Go.Proofs.YtccknopchddicaaGreatDoor
