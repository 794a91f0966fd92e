/- contract: core.Bits's iterator, for any loop body that keeps its captured cell. -/
import Derived.Test.YtccknopchddicaaGreatDoorMW1
import Derived.RangeFuncNested
import Derived.RangeFuncBound
import Derived.RangeFuncCalls
import Derived.RangeFuncLeaves
import Derived.Shelf.Abstract
import Derived.Shelf.RegionOpen
import Derived.OwnWalkIn
import Derived.TacticsInMore
import Derived.LoopNIn
import Derived.LoopIn
set_option linter.unusedSimpArgs false
set_option linter.unusedVariables false
set_option linter.unnecessarySimpa false
namespace Go.Proofs.YtccknopchddicaaGreatDoor
open Go.RowKit Go.Shelf Stile
attribute [local go_sem] Oper.semAt_some

theorem and_one_u64' (X : Nat) (h : X < 18446744073709551616) : bits .and .u64 (X : Int) 1 = ((X % 2 : Nat) : Int) := by
  show IntKind.u64.wrap ((BitVec.ofInt 64 (X : Int) &&& BitVec.ofInt 64 1).toNat : Int) = _
  have h1 : (BitVec.ofInt 64 (X : Int)).toNat = X := by rw [BitVec.ofInt_natCast, BitVec.toNat_ofNat]; exact Nat.mod_eq_of_lt (by omega)
  have h2 : (BitVec.ofInt 64 (1 : Int)).toNat = 1 := by decide
  rw [BitVec.toNat_and, h1, h2, Nat.and_one_is_mod]
  have := IntKind.wrap_u64 ((X % 2 : Nat) : Int)
  rw [this]
  omega

set_option maxRecDepth 100000 in
set_option maxHeartbeats 1000000 in
theorem bits1_in (l Bn n : Nat) (S : Nat) (hS : S < 18446744073709551616) (J : Nat → World → Prop)
    (hY : ∀ i W, i < 64 → J i W → S.testBit i = true → YieldAt Fence.wide (n - 1) Tryz.prog l #[.int .i64 (i : Int)] W fun e W' => e = .returned (.bool true) ∧ J (i + 1) W' ∧ W'.cell? ⟨Bn, 0, none⟩ = W.cell? ⟨Bn, 0, none⟩ ∧ W'.frozen? ⟨Bn, 0, none⟩ = W.frozen? ⟨Bn, 0, none⟩)
    (hN : ∀ i W, J i W → S.testBit i = false → J (i + 1) W)
    (hJs : ∀ i W v, J i W → J i (W.setCell ⟨Bn, 0, none⟩ v).drew)
    (W : World) (hB : W.cell? ⟨Bn, 0, none⟩ = some (.int .u64 (S : Int))) (hF : W.frozen? ⟨Bn, 0, none⟩ = false) (h0 : J 0 W) :
    CallsIn Fence.wide n Tryz.prog 120 #[.func (.yield l) #[] #[], .pointer (some ⟨Bn, 0, none⟩)] W fun e W' => (∃ v, e = .returned v) ∧ J 64 W' := by
  refine callsIn_of_wp Tryz.func120 rfl trivial ?_ rfl
  simp only [Tryz.ntmps120, List.size_toArray, List.length_cons, List.length_nil, Nat.reduceAdd, Nat.reduceSub, Array.replicate_succ, Array.replicate_zero, List.push_toArray, List.append_toArray, List.nil_append, List.cons_append]
  gi_wp2
  gi_loopw [3] (fun i wr => ∃ k : Nat, k ≤ 64 ∧ i = .int .i64 (k : Int) ∧ J k wr ∧ wr.cell? ⟨Bn, 0, none⟩ = some (.int .u64 ((S >>> k : Nat) : Int)) ∧ wr.frozen? ⟨Bn, 0, none⟩ = false) (fun i _ => 64 - (intOf i).toNat)
  case atStart => exact ⟨0, by omega, rfl, h0, hB, hF⟩
  case round =>
    obtain ⟨k, hk, rfl, hJ, hc, hf⟩ := hrel
    obtain ⟨X, hX⟩ : ∃ X, S >>> k = X := ⟨_, rfl⟩
    rw [hX] at hc
    have hXlt : X < 18446744073709551616 := by rw [← hX]; have := Nat.shiftRight_le S k; omega
    have HX := Lib.hid hX
    clear hX hB hF
    by_cases hx0 : X = 0
    · subst hx0
      have HJ := Lib.hid hJ
      have HN := Lib.hid hN
      clear hJ hN hY hJs h0
      gi_wp2
      go_end0
      refine ⟨⟨_, rfl⟩, ?_⟩
      have : ∀ d, k + d ≤ 64 → J (k + d) wr := by
        intro d
        induction d with
        | zero => exact fun _ => HJ.out
        | succ d ih =>
          intro hd
          refine HN.out _ _ (ih (by omega)) ?_
          have h0 := HX.out
          have : (S >>> k).testBit d = S.testBit (k + d) := by simp
          rw [show S.testBit (k.add d) = S.testBit (k + d) from rfl, ← this, h0]; simp
      have := this (64 - k) (by omega)
      rwa [show k + (64 - k) = 64 from by omega] at this
    · have hk64 : k < 64 := by
        rcases Nat.lt_or_ge k 64 with h | h
        · exact h
        · exfalso; apply hx0; rw [← HX.out, Nat.shiftRight_eq_div_pow]; exact Nat.div_eq_of_lt (Nat.lt_of_lt_of_le hS (by have := Nat.pow_le_pow_right (n := 2) (by omega) h; simpa using this))
      have hne : ((X : Int) != 0) = true := by rw [bne_iff_ne]; omega
      have hbit : S.testBit k = decide (X % 2 = 1) := by rw [← HX.out, Nat.testBit_eq_decide_div_mod_eq, Nat.shiftRight_eq_div_pow]
      have hand := and_one_u64' X hXlt
      by_cases hb : X % 2 = 1
      · have hq : (bits .and .u64 (X : Int) 1 == 1) = true := by rw [hand, hb]; rfl
        obtain ⟨fn, tmps, assign, body, hy, hR⟩ := hY k wr hk64 hJ (by rw [hbit]; simpa using hb)
        clear hand hbit hY hN h0
        have HS := Lib.hid hJs
        clear hJs
        gi_wp2
        refine ⟨by simp [Fence.wide], hR.mono ?_⟩
        rintro e W3 ⟨rfl, hJ3, hc3, hf3⟩
        rw [hc] at hc3
        rw [hf] at hf3
        clear hc hf hy hR
        have HJ := Lib.hid hJ3
        clear hJ3
        gi_wp2
        gi_region
        gi_wp2
        have hsh : ((X : Int) / 2) = ((S >>> (k + 1) : Nat) : Int) := by rw [Nat.shiftRight_succ, HX.out]; omega
        have HSH := Lib.hid hsh
        clear hsh
        go_roundw
        case rel => exact ⟨k + 1, by omega, by go_num, HS.out _ _ _ HJ.out, by rw [← HSH.out]; simp [go_sem, hc3], by simp [go_sem, hf3]⟩
        case measure => simp [intOf]; omega
      · have hq : (bits .and .u64 (X : Int) 1 == 1) = false := by rw [hand]; simp; omega
        have hJ1 := hN k wr hJ (by rw [hbit]; simpa using hb)
        clear hand hbit hY hN h0
        have HS := Lib.hid hJs
        clear hJs
        gi_wp2
        refine ⟨fun _ h => (by cases h), ?_⟩
        have HJ := Lib.hid hJ1
        clear hJ1 hJ
        gi_wp2
        gi_region
        gi_wp2
        have hsh : ((X : Int) / 2) = ((S >>> (k + 1) : Nat) : Int) := by rw [Nat.shiftRight_succ, HX.out]; omega
        have HSH := Lib.hid hsh
        clear hsh
        go_roundw
        case rel => exact ⟨k + 1, by omega, by go_num, HS.out _ _ _ HJ.out, by rw [← HSH.out]; simp [go_sem, hc], by simp [go_sem, hf]⟩
        case measure => simp [intOf]; omega
end Go.Proofs.YtccknopchddicaaGreatDoor
