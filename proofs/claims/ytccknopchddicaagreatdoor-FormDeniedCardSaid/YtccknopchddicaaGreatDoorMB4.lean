/- contract: back.pack. -/
import Derived.Test.YtccknopchddicaaGreatDoorMW1
set_option linter.unusedSimpArgs false
set_option linter.unusedVariables false
set_option linter.unnecessarySimpa false
namespace Go.Proofs.YtccknopchddicaaGreatDoor
open Go.RowKit Stile
theorem u64_nat (a : Nat) (ha : a < 18446744073709551616) : (BitVec.ofInt 64 (a : Int)).toNat = a := by
  rw [BitVec.ofInt_natCast, BitVec.toNat_ofNat]; exact Nat.mod_eq_of_lt (by omega)
theorem u64_or_nat (a b : Nat) (ha : a < 18446744073709551616) (hb : b < 18446744073709551616) : bits .or .u64 (a : Int) (b : Int) = ((a ||| b : Nat) : Int) := by
  have hx : a ||| b < 2 ^ 64 := Nat.or_lt_two_pow (by omega) (by omega)
  show IntKind.u64.wrap ((BitVec.ofInt 64 (a : Int) ||| BitVec.ofInt 64 (b : Int)).toNat : Int) = _
  rw [BitVec.toNat_or, u64_nat a ha, u64_nat b hb, IntKind.wrap_u64]
  omega
theorem u64_and_nat (a b : Nat) (ha : a < 18446744073709551616) (hb : b < 18446744073709551616) : bits .and .u64 (a : Int) (b : Int) = ((a &&& b : Nat) : Int) := by
  have hx : a &&& b < 2 ^ 64 := Nat.and_lt_two_pow _ (by omega)
  show IntKind.u64.wrap ((BitVec.ofInt 64 (a : Int) &&& BitVec.ofInt 64 (b : Int)).toNat : Int) = _
  rw [BitVec.toNat_and, u64_nat a ha, u64_nat b hb, IntKind.wrap_u64]
  omega
theorem wrap_pow (k : Nat) (hk : k < 64) : IntKind.u64.wrap (2 ^ k) = ((2 ^ k : Nat) : Int) := by
  have h : (2 : Nat) ^ k < 2 ^ 64 := Nat.pow_lt_pow_right (by omega) hk
  have e : ((2 : Int) ^ k) = ((2 ^ k : Nat) : Int) := by simp
  rw [e]
  generalize (2 : Nat) ^ k = m at h ⊢
  rw [IntKind.wrap_u64]
  omega
theorem packN_take (v : List Bool) (k : Nat) (h : k < v.length) : packN (v.take (k + 1)) = if v.getD k false = true then packN (v.take k) ||| 2 ^ k else packN (v.take k) := by
  apply Nat.eq_of_testBit_eq
  intro i
  rw [testBit_packN]
  have hk : (packN (v.take k)).testBit i = (decide (i < k) && v.getD i false) := by
    rw [testBit_packN]
    by_cases e : i < k
    · simp [List.getD, List.getElem?_take, e]
    · simp [List.getD, List.getElem?_take, e]
  have h1 : (v.take (k + 1)).getD i false = (decide (i < k + 1) && v.getD i false) := by
    by_cases e : i < k + 1
    · simp [List.getD, List.getElem?_take, e]
    · simp [List.getD, List.getElem?_take, e]
  rw [h1]
  split
  · rename_i hb
    rw [Nat.testBit_or, hk, Nat.testBit_two_pow]
    by_cases e : i = k
    · subst e; rw [hb]; simp
    · have e' : ¬ k = i := fun h => e h.symm
      simp [e']; congr 1; simp; omega
  · rename_i hb
    rw [hk]
    by_cases e : i = k
    · subst e; simp at hb; simp [hb]
    · congr 1; simp; omega
theorem packN_le (v : List Bool) (h : v.length ≤ 40) : packN v < 1099511627776 :=
  Nat.lt_of_lt_of_le (packN_lt v) (by have := Nat.pow_le_pow_right (n := 2) (by omega) h; simpa using this)

set_option maxHeartbeats 400000 in
theorem pack_any (vv : Value) (v : List Bool) (w : World) (hv : RdB w w.heap.size vv v) (hn0 : 0 < v.length) (hn : v.length ≤ 40) :
    Calls Tryz.prog 78 #[vv] w fun e w' => e = .returned (.int .u64 ((packN v : Nat) : Int)) ∧ w = w' := by
  obtain ⟨b, off, c, rfl, hlc, hb, hcell⟩ := Rd.at1 hv hn0
  clear hv
  go_enter Tryz.func78, Tryz.ntmps78
  go_wp2
  go_loop [2, 7] (fun s i => ∃ k : Nat, k ≤ v.length ∧ i = .int .i64 (k : Int) ∧ s = .int .u64 ((packN (v.take k) : Nat) : Int)) (fun _ i => v.length - (intOf i).toNat)
  case atStart => exact ⟨0, by omega, rfl, rfl⟩
  case round =>
    obtain ⟨k, hk, rfl, rfl⟩ := hrel
    by_cases hlt : k < v.length
    · have hc1 := hcell k hlt
      unfold bools at hc1
      have hstep := packN_take v k hlt
      have hle : packN (v.take k) < 1099511627776 := packN_le _ (by simp; omega)
      obtain ⟨S, hS⟩ : ∃ S, packN (v.take k) = S := ⟨_, rfl⟩
      rw [hS] at hle hstep ⊢
      clear hS hcell
      cases hb : v.getD k false with
      | true =>
        rw [hb] at hc1
        rw [hb, if_pos rfl] at hstep
        have HS := Lib.hid hstep
        have hor : bits .or .u64 (S : Int) (IntKind.u64.wrap (2 ^ k)) = ((S ||| 2 ^ k : Nat) : Int) := by
          rw [wrap_pow k (by omega), u64_or_nat S (2 ^ k) (by omega) (by have := Nat.pow_lt_pow_right (a := 2) (by omega) (show k < 64 by omega); omega)]
        have HO := Lib.hid hor
        clear hstep hb hor
        go_wp2
        go_round
        case rel => exact ⟨k + 1, by omega, by go_num, by rw [HO.out, HS.out]⟩
        case measure => simp [intOf]; omega
      | false =>
        rw [hb] at hc1
        rw [hb, if_neg (by simp)] at hstep
        have HS := Lib.hid hstep
        clear hstep hb
        go_wp2
        go_round
        case rel => exact ⟨k + 1, by omega, by go_num, by rw [HS.out]⟩
        case measure => simp [intOf]; omega
    · have e : v.take k = v := List.take_of_length_le (by omega)
      rw [e]
      clear hcell
      go_wp2
      go_ret
      exact ⟨rfl, rfl⟩
end Go.Proofs.YtccknopchddicaaGreatDoor
