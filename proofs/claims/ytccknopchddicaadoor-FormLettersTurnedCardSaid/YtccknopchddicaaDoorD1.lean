/- contracts: core.Within, dfa.Check on a sound automaton. -/
import Derived.Test.YtccknopchddicaaDoorD0
namespace Go.Proofs.YtccknopchddicaaDoor
open Go.RowKit Stile
theorem within_any (n lo hi : Int) (w : World) : Calls Tryd.prog 38 #[.int .i64 n, .int .i64 lo, .int .i64 hi] w fun e w' => e = .returned (.bool (decide (lo ≤ n) && decide (n ≤ hi))) ∧ w = w' := by
  by_cases h : lo ≤ n
  · go_enter Tryd.func38, Tryd.ntmps38
    go_wp2
    go_ret
    exact ⟨by simp [h], rfl⟩
  · have hd : decide (lo ≤ n) = false := by simpa using h
    rw [hd]
    go_enter Tryd.func38, Tryd.ntmps38
    go_wp2
    go_ret
    exact ⟨rfl, rfl⟩
theorem within_true (n lo hi : Int) (w : World) (h1 : lo ≤ n) (h2 : n ≤ hi) : Calls Tryd.prog 38 #[.int .i64 n, .int .i64 lo, .int .i64 hi] w fun e w' => e = .returned (.bool true) ∧ w = w' :=
  (within_any n lo hi w).mono fun e w' ⟨he, hw⟩ => ⟨by rw [he]; simp [h1, h2], hw⟩

set_option maxRecDepth 100000 in
set_option maxHeartbeats 1000000 in
theorem dcheck_ok (dv : Value) (d : Da) (w : World) (h : DfV w w.heap.size dv d) (hok : DaOk d) :
    Calls Tryd.prog 25 #[dv] w fun e w' => e = .returned .nilIface ∧ Below w.heap.size w w' := by
  obtain ⟨nv, fv, rfl, ⟨rv, hn, hr⟩, hf⟩ := h
  obtain ⟨l1, l6, hlf, hpos, hle, s0, s1, hrl, hri⟩ := hok
  obtain ⟨b, off, c, rfl, hnc, hb, hcell⟩ := hn.at1 hpos
  obtain ⟨fA, fc, rfl, hfc, _⟩ := hf
  obtain ⟨R, hR⟩ : ∃ R : Nat → List Int, ∀ j, d.next.getD j [] = R j := ⟨_, fun _ => rfl⟩
  have hrv : ∀ j, j < d.next.length → ∃ A c, rv j = .slice A (R j).length c ∧ ((R j).length : Int) = d.letters ∧ (R j).length ≤ 6 ∧
      (0 < (R j).length → ∃ b off, A = some ⟨b, off, none⟩ ∧ b < w.heap.size ∧ ∀ i, i < (R j).length → w.cell? ⟨b, off + i, none⟩ = some (.int .i64 ((R j).getD i 0))) ∧
      (∀ i, i < (R j).length → 0 ≤ (R j).getD i 0 ∧ (R j).getD i 0 < d.next.length) := by
    intro j hj
    have hm : R j ∈ d.next := by rw [← hR, List.getD, List.getElem?_eq_getElem hj]; exact List.getElem_mem hj
    have hrj := hr j hj
    rw [hR] at hrj
    obtain ⟨A, c, e, hc, hcc⟩ := hrj
    refine ⟨A, c, e, hrl _ hm, by have := hrl _ hm; omega, fun h0 => ?_, fun i hi => ?_⟩
    · obtain ⟨b, off, e1, e2, e3⟩ := hcc h0
      exact ⟨b, off, e1, e2, fun i hi => e3 i (by omega)⟩
    · refine hri _ hm _ ?_
      rw [List.getD, List.getElem?_eq_getElem hi]; exact List.getElem_mem hi
  rw [hlf] at hfc ⊢
  generalize hN : d.next.length = N at *
  have HN := Lib.hid hN
  have HRV := Lib.hid hrv
  have HC := Lib.hid hcell
  generalize d.letters = L at *
  generalize d.start = S at *
  clear hN hrv hcell hr hrl hri hn hlf
  have b1 : decide (L < 1) = false := by simp; omega
  have b2 : decide (6 < L) = false := by simp; omega
  have b3 : decide ((40 : Int) < N) = false := by simp; omega
  have b4 : ((N : Int) == 0) = false := beq_eq_false_iff_ne.2 (by omega)
  go_enter Tryd.func25, Tryd.ntmps25
  go_wp2_with fail
  go_loop [38] (fun i => ∃ k : Nat, k ≤ N ∧ i = .int .i64 (k : Int)) (fun i => N - (intOf i).toNat)
  case atStart => exact ⟨0, by omega, rfl⟩
  case round =>
    obtain ⟨k, hk, rfl⟩ := hrel
    by_cases hlt : k < N
    · have hck := HC.out k hlt
      obtain ⟨A, c', e, hll, h6, _, _⟩ := HRV.out k hlt
      rw [e] at hck
      have hll' : (((R k).length : Int) != L) = false := by rw [hll]; simp
      clear e hll
      go_wp2_with fail
      go_round
      case rel => exact ⟨k + 1, by omega, by go_num⟩
      case measure => simp [intOf]; omega
    · go_wp2_with fail
      refine (within_true S 0 _ _ s0 (by omega)).mono ?_
      rintro e w' ⟨rfl, rfl⟩
      go_wp2_with fail
      clear hlt hk
      go_loop [59] (fun i => ∃ k : Nat, k ≤ N ∧ i = .int .i64 (k : Int)) (fun i => N - (intOf i).toNat)
      case atStart => exact ⟨0, by omega, rfl⟩
      case round =>
        obtain ⟨j, hj, rfl⟩ := hrel
        by_cases hlt : j < N
        · have hck := HC.out j hlt
          obtain ⟨A, c', e, hll, h6, hcc, hin⟩ := HRV.out j hlt
          rw [e] at hck
          generalize R j = row at *
          have HCC := Lib.hid hcc
          have HIN := Lib.hid hin
          clear e hll hcc hin
          go_wp2_with fail
          go_loop [65] (fun i => ∃ q : Nat, q ≤ row.length ∧ i = .int .i64 (q : Int)) (fun i => row.length - (intOf i).toNat)
          case atStart => exact ⟨0, by omega, rfl⟩
          case round =>
            obtain ⟨q, hq, rfl⟩ := hrel
            by_cases hqlt : q < row.length
            · obtain ⟨b2, off2, rfl, hb2, hc2⟩ := HCC.out (by omega)
              obtain ⟨x, hc3, hx0, hx1⟩ : ∃ x, w.cell? ⟨b2, off2 + q, none⟩ = some (.int .i64 x) ∧ 0 ≤ x ∧ x < N := ⟨_, hc2 q hqlt, (HIN.out q hqlt).1, (HIN.out q hqlt).2⟩
              clear hc2
              go_wp2_with fail
              refine (within_true x 0 _ _ hx0 (by omega)).mono ?_
              rintro e w' ⟨rfl, rfl⟩
              go_wp2_with fail
              go_round
              case rel => exact ⟨q + 1, by omega, by go_num⟩
              case measure => simp [intOf]; omega
            · go_wp2_with fail
              go_round
              case rel => exact ⟨j + 1, by omega, by go_num⟩
              case measure => simp [intOf]; omega
        · go_wp2_with fail
          go_ret
          exact ⟨rfl, (Below.refl _ _).alloc (Nat.le_refl _) _⟩
end Go.Proofs.YtccknopchddicaaDoor
