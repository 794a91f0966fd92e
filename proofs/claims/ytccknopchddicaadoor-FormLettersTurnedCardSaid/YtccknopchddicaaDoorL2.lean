/- contract: the other letter. -/
import Derived.Test.YtccknopchddicaaDoorG1
import Derived.Test.YtccknopchddicaaDoorP6
import Derived.Test.YtccknopchddicaaDoorK1
import Derived.IntWalk
namespace Go.Proofs.YtccknopchddicaaDoor
open Go.RowKit Stile
theorem wpick_same (x n : Int) (w : World) (hx0 : -9223372036854775808 ≤ x) (hx1 : x ≤ 9223372036854775807) (h0 : 0 < n) (h1 : n ≤ 9223372036854775807) :
    Calls Tryd.prog 8 #[.int .i64 x, .int .i64 n] w fun e w' => e = .returned (.int .i64 (pick x n)) ∧ w' = w :=
  (pick_any x n w hx0 hx1 h0 h1).mono fun _ _ ⟨h1, h2⟩ => ⟨h1, h2.symm⟩
set_option maxRecDepth 100000 in
set_option maxHeartbeats 800000 in
theorem at_any (L : Nat) (h : Int) (a : Nat) (ph pl : Addr) (w : World) (hh : w.cell? ph = some (.int .i64 h)) (hl : w.cell? pl = some (.int .i64 (L : Int))) (hL : 1 ≤ L) (hL6 : L ≤ 6) (ha : a < L) (h0 : -9223372036854775808 ≤ h) (h1 : h ≤ 9223372036854775807) :
    Calls Tryd.prog 7 #[.int .i64 (a : Int), .pointer (some ph), .pointer (some pl)] w fun e w' => e = .returned (.int .i64 (atT L h (a : Int))) ∧ ∃ n, w' = w.drewN n := by
  have hq : -9223372036854775808 ≤ h.tdiv 2 ∧ h.tdiv 2 ≤ 9223372036854775807 := by
    rcases Int.le_total 0 h with h3 | h3
    · rw [Int.tdiv_eq_ediv_of_nonneg h3]; omega
    · have e : h.tdiv 2 = -((-h) / 2) := by rw [← Int.tdiv_eq_ediv_of_nonneg (show 0 ≤ -h by omega), Int.neg_tdiv, Int.neg_neg]
      rw [e]; omega
  have hp := pick_range (x := h.tdiv 2) (n := (L : Int)) (by omega)
  have hc := fun W => wpick_same (h.tdiv 2) (L : Int) W hq.1 hq.2 (by omega) (by omega)
  obtain ⟨P, hP⟩ : ∃ P : Nat, pick (h.tdiv 2) (L : Int) = (P : Int) := ⟨(pick (h.tdiv 2) (L : Int)).toNat, by omega⟩
  by_cases he : h.tmod 2 = 0
  · have heb : (h.tmod 2 == 0) = true := by simpa using he
    have hat : atT L h (a : Int) = (L : Int) - 1 - ((a : Int) + P) % L := by unfold atT; rw [if_pos he, hP]
    rw [hat]
    rw [hP] at hc hp
    have HC := Lib.hid hc
    have HE := Lib.hid he
    have hq1 := hq.1
    have hq2 := hq.2
    have w1 : IntKind.i64.wrap ((a : Int) + (P : Int)) = (a : Int) + (P : Int) := IntWalk.i64_in _ (by omega)
    have w2 : IntKind.i64.wrap ((L : Int) - 1) = (L : Int) - 1 := IntWalk.i64_in _ (by omega)
    have w3 : ((a : Int) + (P : Int)).tmod (L : Int) = ((a : Int) + (P : Int)) % (L : Int) := Int.tmod_eq_emod_of_nonneg (by omega)
    clear hc he hP hat hq
    go_enter Tryd.func7, Tryd.ntmps7
    go_upto_region 2 with fail
    go_quiet ((go_at_call 8; exact Calls.quiet_of_same (HC.out _)))
    go_wp2_with fail
    go_ret
    refine ⟨?_, nq, rfl⟩
    have h2 := Int.emod_nonneg ((a : Int) + P) (show (L : Int) ≠ 0 by omega)
    have h3 := Int.emod_lt_of_pos ((a : Int) + P) (show (0 : Int) < L by omega)
    have e : wrap64 ((L : Int) - 1 - ((a : Int) + P) % L) = (L : Int) - 1 - ((a : Int) + P) % L := by unfold wrap64; omega
    show Ending.returned (Value.int .i64 (wrap64 ((L : Int) - 1 - ((a : Int) + P) % L))) = _
    rw [e]
  · have heb : (h.tmod 2 == 0) = false := by simpa using he
    have hat : atT L h (a : Int) = ((a : Int) + P) % L := by unfold atT; rw [if_neg he, hP]
    rw [hat]
    rw [hP] at hc hp
    have HC := Lib.hid hc
    have HE := Lib.hid he
    have hq1 := hq.1
    have hq2 := hq.2
    have w1 : IntKind.i64.wrap ((a : Int) + (P : Int)) = (a : Int) + (P : Int) := IntWalk.i64_in _ (by omega)
    have w3 : ((a : Int) + (P : Int)).tmod (L : Int) = ((a : Int) + (P : Int)) % (L : Int) := Int.tmod_eq_emod_of_nonneg (by omega)
    clear hc he hP hat hq
    go_enter Tryd.func7, Tryd.ntmps7
    go_upto_region 3 with fail
    go_quiet ((go_at_call 8; exact Calls.quiet_of_same (HC.out _)))
    go_wp2_with fail
    go_ret
    exact ⟨rfl, nq, rfl⟩
end Go.Proofs.YtccknopchddicaaDoor
