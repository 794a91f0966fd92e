/- contracts: nfa.set, nfa.silent, nfa.step, nfa.Make's step. -/
import Derived.Test.YtccknopchddicaaGreatDoorMB1
import Derived.Test.YtccknopchddicaaGreatDoorMB4
import Derived.Test.YtccknopchddicaaGreatDoorMGd
set_option linter.unusedSimpArgs false
set_option linter.unusedVariables false
set_option linter.unnecessarySimpa false
namespace Go.Proofs.YtccknopchddicaaGreatDoor
open Go.RowKit Stile
theorem bit_u64 (S x : Nat) (hS : S < 18446744073709551616) : (bits .and .u64 ((S : Int) / 2 ^ x) 1 == 1) = S.testBit x := by
  have h1 : ((S : Int) / 2 ^ x) = ((S / 2 ^ x : Nat) : Int) := by simp
  have h2 : S / 2 ^ x ≤ S := Nat.div_le_self _ _
  rw [h1, and_one_u64' _ (by omega), Nat.testBit_eq_decide_div_mod_eq]
  rw [Bool.eq_iff_iff]
  simp
  omega
theorem or_pow (S x : Nat) (hS : S < 18446744073709551616) (hx : x < 64) : bits .or .u64 (S : Int) (IntKind.u64.wrap (2 ^ x)) = ((S ||| (1 <<< x) : Nat) : Int) := by
  rw [wrap_pow x hx, u64_or_nat S (2 ^ x) hS (by have := Nat.pow_lt_pow_right (a := 2) (by omega) hx; omega), Nat.one_shiftLeft]
theorem setN_take (l : List Int) (k : Nat) (h : k < l.length) : setN (l.take (k + 1)) = setN (l.take k) ||| (1 <<< (l.getD k 0).toNat) := by
  rw [List.take_succ_eq_append_getElem h, setN, List.foldl_append]; simp [setN, List.getD, h]
theorem setN_le (l : List Int) (h : ∀ s ∈ l, 0 ≤ s ∧ s < 40) : setN l < 1099511627776 := by
  apply Nat.lt_of_lt_of_le (m := 2 ^ 40)
  · apply Nat.lt_pow_two_of_testBit
    intro i hi
    rw [Bool.eq_false_iff]
    intro hb
    obtain ⟨s, hs, e⟩ := (testBit_setN l i).1 hb
    have := h s hs
    omega
  · decide
theorem set_any (lv : Value) (l : List Int) (w : World) (hl : RdI w w.heap.size lv l) (hin : ∀ s ∈ l, 0 ≤ s ∧ s < 40) (hlen : l.length ≤ 240) :
    Calls Tryz.prog 84 #[lv] w fun e w' => e = .returned (.int .u64 ((setN l : Nat) : Int)) ∧ w = w' := by
  obtain ⟨A, c, rfl, hlc, hcell⟩ := hl
  have hA : ∀ k, k < l.length → ∃ b off x, A = some ⟨b, off, none⟩ ∧ w.cell? ⟨b, off + k, none⟩ = some (.int .i64 ((x : Nat) : Int)) ∧ (l.getD k 0).toNat = x ∧ x < 40 := fun k hk => by
    obtain ⟨b, off, h1, _, h3⟩ := hcell (by omega)
    have hm : l.getD k 0 ∈ l := by rw [List.getD, List.getElem?_eq_getElem hk]; exact List.getElem_mem hk
    obtain ⟨a1, a2⟩ := hin _ hm
    refine ⟨b, off, (l.getD k 0).toNat, h1, ?_, rfl, by omega⟩
    rw [h3 k (by omega)]; unfold ints; rw [Int.toNat_of_nonneg a1]
  have hst := fun k h => setN_take l k h
  have hle : ∀ k, setN (l.take k) < 1099511627776 := fun k => setN_le _ (fun s hs => hin s (List.mem_of_mem_take hs))
  have HA := Lib.hid hA
  have HST := Lib.hid hst
  have HLE := Lib.hid hle
  clear hA hst hle hcell hin
  go_enter Tryz.func84, Tryz.ntmps84
  go_wp2_with fail
  go_loop [2, 7] (fun s i => ∃ k : Nat, k ≤ l.length ∧ i = .int .i64 (k : Int) ∧ s = .int .u64 ((setN (l.take k) : Nat) : Int)) (fun _ i => l.length - (intOf i).toNat)
  case atStart => exact ⟨0, by omega, rfl, rfl⟩
  case round =>
    obtain ⟨k, hk, rfl, rfl⟩ := hrel
    by_cases hlt : k < l.length
    · obtain ⟨b, off, x, rfl, hc, hx, hx40⟩ := HA.out k hlt
      have h1 := HST.out k hlt
      have hle := HLE.out k
      obtain ⟨S, hS⟩ : ∃ S, setN (l.take k) = S := ⟨_, rfl⟩
      rw [hS, hx] at h1
      rw [hS] at hle ⊢
      have hor := or_pow S x (by omega) (by omega)
      have HOR := Lib.hid hor
      have H1 := Lib.hid h1
      clear h1 hS hx hor
      go_wp2_with fail
      go_round
      case rel => exact ⟨k + 1, by omega, by go_num, by rw [HOR.out, H1.out]⟩
      case measure => simp [intOf]; omega
    · have e : l.take k = l := List.take_of_length_le (by omega)
      rw [e]
      go_wp2_with fail
      go_ret
      exact ⟨rfl, rfl⟩

set_option maxHeartbeats 800000 in
theorem silent_any (nv : Value) (n : Na) (S : Nat) (w : World) (h : NfV w w.heap.size nv n) (hl : ∀ m ∈ n.moves, 0 ≤ m.l) (hml : n.moves.length ≤ 240) :
    Calls Tryz.prog 83 #[nv, .int .u64 (S : Int)] w fun e w' => e = .returned (.int .u64 (S : Int)) ∧ Below w.heap.size w w' := by
  obtain ⟨sv, mv, fv, rfl, hs, hm, hf⟩ := h
  have hm' := fun hp => hm.at_ hp
  obtain ⟨mA, mc, rfl, hmc, _⟩ := hm
  obtain ⟨sA, sc, rfl, hsc, hscell⟩ := hs
  obtain ⟨fA, fc, rfl, hfc, hfcell⟩ := hf
  generalize hNM : n.moves.length = NM at *
  have HMV : ∀ k : Nat, k < NM → ∃ b off x y z, mA = some ⟨b, off, none⟩ ∧ b < w.heap.size ∧ w.cell? ⟨b, off + k * 3, none⟩ = some (.int .i64 x) ∧ w.cell? ⟨b, off + k * 3 + 1, none⟩ = some (.int .i64 y) ∧ w.cell? ⟨b, off + k * 3 + 2, none⟩ = some (.int .i64 z) ∧ 0 ≤ y := by
    intro k hk
    obtain ⟨b, off, c, e1, _, e2, e3⟩ := hm' (by omega)
    injection e1 with e1
    obtain ⟨c1, c2, c3⟩ := e3 k (by omega)
    have hmem : n.moves.getD k default ∈ n.moves := by rw [List.getD, List.getElem?_eq_getElem (by omega)]; exact List.getElem_mem _
    exact ⟨b, off, _, _, _, e1, e2, c1, c2, c3, hl _ hmem⟩
  generalize n.starts.length = NS at *
  generalize n.final.length = NF at *
  generalize n.letters = L at *
  generalize n.states = M at *
  have HMM := Lib.hid HMV
  clear HMV hm' hscell hfcell hNM hl
  have hB0 : Below w.heap.size w (w.alloc (Obj.cells #[.int .i64 L, .int .i64 M, .slice sA NS sc, .slice mA NM mc, .slice fA NF fc] 93)) := (Below.refl _ _).alloc (Nat.le_refl _) _
  have hse : ((S : Int) == (S : Int)) = true := by simp
  go_enter Tryz.func83, Tryz.ntmps83
  go_wp2_with fail
  refine wp_loop_rounds 1 ?_
  rw [rounds_succ]
  go_wp2_with fail
  go_loopw [5, 12] (fun t i wr => (∃ q : Nat, q ≤ NM ∧ i = .int .i64 (q : Int) ∧ Below w.heap.size w wr) ∧ t = .int .u64 (S : Int)) (fun _ i _ => NM - (intOf i).toNat)
  case atStart => exact ⟨⟨0, by omega, rfl, hB0⟩, rfl⟩
  case round =>
    obtain ⟨⟨q, hqn, rfl, hbr⟩, rfl⟩ := hrel
    have HBR := Lib.hid hbr
    by_cases hqlt : q < NM
    · obtain ⟨b, off, x, y, z, rfl, hb, m1, m2, m3, y0⟩ := HMM.out q hqlt
      have m1' := (hbr.cell (p := ⟨b, off + q * 3, none⟩) hb).trans m1
      have m2' := (hbr.cell (p := ⟨b, off + q * 3 + 1, none⟩) hb).trans m2
      have m3' := (hbr.cell (p := ⟨b, off + q * 3 + 2, none⟩) hb).trans m3
      have hbl : b < wr.heap.size := Nat.lt_of_lt_of_le hb hbr.size
      have hy : decide (y < 0) = false := by simp; omega
      clear m1 m2 m3 hbr
      go_wp2_with fail
      go_roundw
      case rel => exact ⟨⟨q + 1, by omega, by go_num, HBR.out.alloc HBR.out.size _⟩, rfl⟩
      case measure => simp [intOf]; omega
    · clear hbr
      go_wp2_with fail
      go_ret
      exact ⟨rfl, HBR.out⟩

theorem stepN_take (mv : List Mv) (S : Nat) (a : Int) (k : Nat) (h : k < mv.length) : stepN (mv.take (k + 1)) S a =
    if (mv.getD k default).l = a ∧ S.testBit (mv.getD k default).f.toNat = true then stepN (mv.take k) S a ||| (1 <<< (mv.getD k default).t.toNat) else stepN (mv.take k) S a := by
  rw [List.take_succ_eq_append_getElem h, stepN, List.foldl_append]; simp [stepN, List.getD, h]
theorem stepN_lt (mv : List Mv) (S : Nat) (a : Int) (h : ∀ m ∈ mv, 0 ≤ m.t ∧ m.t < 40) : stepN mv S a < 1099511627776 := by
  apply Nat.lt_of_lt_of_le (m := 2 ^ 40)
  · apply Nat.lt_pow_two_of_testBit
    intro i hi
    rw [Bool.eq_false_iff]
    intro hb
    obtain ⟨s, hs, _, _, e⟩ := (testBit_stepN mv S a i).1 hb
    have := h s hs
    omega
  · decide
set_option maxHeartbeats 1600000 in
theorem step_any (nv : Value) (n : Na) (S : Nat) (a : Int) (w : World) (h : NfV w w.heap.size nv n) (hS : S < 18446744073709551616) (hl : ∀ m ∈ n.moves, 0 ≤ m.l ∧ 0 ≤ m.f ∧ m.f < 40 ∧ 0 ≤ m.t ∧ m.t < 40) (hml : n.moves.length ≤ 240) :
    Calls Tryz.prog 86 #[nv, .int .u64 (S : Int), .int .i64 a] w fun e w' => e = .returned (.int .u64 ((stepN n.moves S a : Nat) : Int)) ∧ Below w.heap.size w w' := by
  have hnv := h
  obtain ⟨sv, mv, fv, rfl, hs, hm, hf⟩ := h
  have hm' := fun hp => hm.at_ hp
  obtain ⟨mA, mc, rfl, hmc, _⟩ := hm
  obtain ⟨sA, sc, rfl, hsc, hscell⟩ := hs
  obtain ⟨fA, fc, rfl, hfc, hfcell⟩ := hf
  have HMV : ∀ k : Nat, k < n.moves.length → ∃ b off, ∃ x z : Nat, ∃ y : Int, mA = some ⟨b, off, none⟩ ∧ b < w.heap.size ∧ w.cell? ⟨b, off + k * 3, none⟩ = some (.int .i64 (x : Int)) ∧ w.cell? ⟨b, off + k * 3 + 1, none⟩ = some (.int .i64 y) ∧ w.cell? ⟨b, off + k * 3 + 2, none⟩ = some (.int .i64 (z : Int)) ∧
      x < 40 ∧ z < 40 ∧ stepN (n.moves.take (k + 1)) S a = if y = a ∧ S.testBit x = true then stepN (n.moves.take k) S a ||| (1 <<< z) else stepN (n.moves.take k) S a := by
    intro k hk
    obtain ⟨b, off, c, e1, _, e2, e3⟩ := hm' (by omega)
    injection e1 with e1
    obtain ⟨c1, c2, c3⟩ := e3 k (by omega)
    have hmem : n.moves.getD k default ∈ n.moves := by rw [List.getD, List.getElem?_eq_getElem (by omega)]; exact List.getElem_mem _
    obtain ⟨h1, h2, h3, h4, h5⟩ := hl _ hmem
    refine ⟨b, off, (n.moves.getD k default).f.toNat, (n.moves.getD k default).t.toNat, (n.moves.getD k default).l, e1, e2, ?_, c2, ?_, by omega, by omega, stepN_take _ _ _ _ hk⟩
    · rw [c1, Int.toNat_of_nonneg h2]
    · rw [c3, Int.toNat_of_nonneg h4]
  have HLE : ∀ k, stepN (n.moves.take k) S a < 1099511627776 := fun k => stepN_lt _ _ _ fun m hm => ⟨(hl m (List.mem_of_mem_take hm)).2.2.2.1, (hl m (List.mem_of_mem_take hm)).2.2.2.2⟩
  have HSIL : ∀ (w' : World), Below w.heap.size w w' → Calls Tryz.prog 83 #[.agg #[.int .i64 n.letters, .int .i64 n.states, .slice sA n.starts.length sc, .slice mA n.moves.length mc, .slice fA n.final.length fc], .int .u64 ((stepN n.moves S a : Nat) : Int)] w' fun e w'' => e = .returned (.int .u64 ((stepN n.moves S a : Nat) : Int)) ∧ Below w'.heap.size w' w'' :=
    fun w' hb => silent_any _ n _ w' ((hnv.below hb).mono hb.size) (fun m hm => (hl m hm).1) hml
  generalize hNM : n.moves.length = NM at *
  have hfull : stepN n.moves S a = stepN (n.moves.take NM) S a := by rw [← hNM, List.take_length]
  rw [hfull] at HSIL ⊢
  obtain ⟨Q, hQ⟩ : ∃ Q : Nat → Nat, Q = fun k => stepN (n.moves.take k) S a := ⟨_, rfl⟩
  have hq0 : Q 0 = 0 := by rw [hQ]; simp [stepN]
  simp only [show ∀ k, stepN (n.moves.take k) S a = Q k from fun k => by rw [hQ]] at HMV HLE HSIL ⊢
  clear hfull hQ hNM hnv hm' hl hscell hfcell
  generalize n.starts.length = NS at *
  generalize n.final.length = NF at *
  generalize n.letters = L at *
  generalize n.states = M at *
  have HMM := Lib.hid HMV
  have HL := Lib.hid HLE
  have HS := Lib.hid HSIL
  clear HMV HLE HSIL
  have hB0 : Below w.heap.size w (w.alloc (Obj.cells #[.int .i64 L, .int .i64 M, .slice sA NS sc, .slice mA NM mc, .slice fA NF fc] 93)) := (Below.refl _ _).alloc (Nat.le_refl _) _
  have hc0 : ∀ (W : World), W = (w.alloc (Obj.cells #[.int .i64 L, .int .i64 M, .slice sA NS sc, .slice mA NM mc, .slice fA NF fc] 93)) →
      W.cell? ⟨w.heap.size, 0, none⟩ = some (.int .i64 L) ∧ W.cell? ⟨w.heap.size, 1, none⟩ = some (.int .i64 M) ∧ W.cell? ⟨w.heap.size, 2, none⟩ = some (.slice sA NS sc) ∧
      W.cell? ⟨w.heap.size, 3, none⟩ = some (.slice mA NM mc) ∧ W.cell? ⟨w.heap.size, 4, none⟩ = some (.slice fA NF fc) := by
    rintro W rfl
    refine ⟨?_, ?_, ?_, ?_, ?_⟩ <;> simp [go_sem]
  go_enter Tryz.func86, Tryz.ntmps86
  go_wp2_with fail
  obtain ⟨W, hW⟩ : ∃ W, (w.alloc (Obj.cells #[.int .i64 L, .int .i64 M, .slice sA NS sc, .slice mA NM mc, .slice fA NF fc] 93)) = W := ⟨_, rfl⟩
  have hc0 := hc0 W hW.symm
  rw [hW] at hB0 ⊢
  have hWs : W.heap.size = w.heap.size + 1 := by rw [← hW]; simp
  have HB := Lib.hid hB0
  have HC := Lib.hid hc0
  have HWS := Lib.hid hWs
  have HQ0 := Lib.hid hq0
  clear hq0
  clear hB0 hc0 hWs hW
  go_loopw [7, 13] (fun t i wr => (∃ q : Nat, q ≤ NM ∧ i = .int .i64 (q : Int) ∧ Below W.heap.size W wr ∧ t = .int .u64 ((Q q : Nat) : Int))) (fun _ i _ => NM - (intOf i).toNat)
  case atStart => exact ⟨0, by omega, rfl, Below.refl _ _, by rw [HQ0.out]; rfl⟩
  case round =>
    obtain ⟨q, hqn, rfl, hbr, rfl⟩ := hrel
    have HBR := Lib.hid hbr
    by_cases hqlt : q < NM
    · obtain ⟨b, off, x, z, y, rfl, hb, m1, m2, m3, x40, z40, hst⟩ := HMM.out q hqlt
      have hb2 := HB.out.trans (hbr.mono (by have := HWS.out; omega))
      have m1' := (hb2.cell (p := ⟨b, off + q * 3, none⟩) hb).trans m1
      have m2' := (hb2.cell (p := ⟨b, off + q * 3 + 1, none⟩) hb).trans m2
      have m3' := (hb2.cell (p := ⟨b, off + q * 3 + 2, none⟩) hb).trans m3
      have hbl : b < wr.heap.size := Nat.lt_of_lt_of_le hb hb2.size
      have hle := HL.out q
      have HST := Lib.hid hst
      clear m1 m2 m3 hbr hst hb2
      have hbit := bit_u64 S x hS
      by_cases hy : y = a
      · by_cases ht : S.testBit x = true
        · rw [ht] at hbit
          have hya : (y == a) = true := by simp [hy]
          have hor := or_pow (Q q) z (by omega) (by omega)
          have HOR := Lib.hid hor
          clear hor ht hy
          go_wp2_with fail
          go_roundw
          case rel => exact ⟨q + 1, by omega, by go_num, HBR.out.alloc HBR.out.size _, by rw [HOR.out, HST.out, if_pos ⟨by simpa using hya, by rw [← bit_u64 S x hS]; exact hbit⟩]⟩
          case measure => simp [intOf]; omega
        · have ht' : S.testBit x = false := by simpa using ht
          rw [ht'] at hbit
          have hya : (y == a) = true := by simp [hy]
          clear hy
          have HT := Lib.hid ht
          clear ht ht'
          go_wp2_with fail
          go_roundw
          case rel => exact ⟨q + 1, by omega, by go_num, HBR.out.alloc HBR.out.size _, by rw [HST.out, if_neg (fun h => HT.out h.2)]⟩
          case measure => simp [intOf]; omega
      · have hya : (y == a) = false := by simp [hy]
        have HY := Lib.hid hy
        clear hbit hy
        go_wp2_with fail
        go_roundw
        case rel => exact ⟨q + 1, by omega, by go_num, HBR.out.alloc HBR.out.size _, by rw [HST.out, if_neg (fun h => HY.out h.1)]⟩
        case measure => simp [intOf]; omega
    · have e : q = NM := by omega
      subst e
      obtain ⟨d0, d1, d2, d3, d4⟩ := HC.out
      have hws := HWS.out
      replace d0 := (hbr.cell (p := ⟨w.heap.size, 0, none⟩) (by simp; omega)).trans d0
      replace d1 := (hbr.cell (p := ⟨w.heap.size, 1, none⟩) (by simp; omega)).trans d1
      replace d2 := (hbr.cell (p := ⟨w.heap.size, 2, none⟩) (by simp; omega)).trans d2
      replace d3 := (hbr.cell (p := ⟨w.heap.size, 3, none⟩) (by simp; omega)).trans d3
      replace d4 := (hbr.cell (p := ⟨w.heap.size, 4, none⟩) (by simp; omega)).trans d4
      have hlt' : w.heap.size < wr.heap.size := by have := hbr.size; omega
      clear hws
      clear hbr
      go_wp2_with fail
      have hb2 := HB.out.trans (HBR.out.mono (by have := HWS.out; omega))
      refine (HS.out _ hb2).mono ?_
      rintro e w' ⟨rfl, hb'⟩
      go_wp2_with fail
      go_ret
      exact ⟨rfl, hb2.trans (hb'.mono hb2.size)⟩
end Go.Proofs.YtccknopchddicaaGreatDoor
