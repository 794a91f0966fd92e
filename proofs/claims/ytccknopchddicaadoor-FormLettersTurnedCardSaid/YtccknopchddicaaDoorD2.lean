/- contract: nfa.Check on a sound automaton. -/
import Derived.Test.YtccknopchddicaaDoorD1
namespace Go.Proofs.YtccknopchddicaaDoor
open Go.RowKit Stile
theorem state_true (s n : Int) (pb : Nat) (w : World) (h0 : 0 ≤ s) (h1 : s < n) (hn : n ≤ 40) (hc : w.cell? ⟨pb, 1, none⟩ = some (.int .i64 n)) :
    Calls Tryd.prog 39 #[.int .i64 s, .pointer (some ⟨pb, 0, none⟩)] w fun e w' => e = .returned (.bool true) ∧ w = w' := by
  go_enter Tryd.func39, Tryd.ntmps39
  go_wp2_with fail
  refine (within_true s 0 _ _ h0 (by omega)).mono ?_
  rintro e w' ⟨rfl, rfl⟩
  go_wp2_with fail
  go_ret
  exact ⟨rfl, rfl⟩

set_option maxRecDepth 100000 in
set_option maxHeartbeats 2000000 in
theorem ncheck_ok (nv : Value) (n : Na) (w : World) (h : NfV w w.heap.size nv n) (hok : NaOk n) :
    Calls Tryd.prog 26 #[nv] w fun e w' => e = .returned .nilIface ∧ Below w.heap.size w w' := by
  obtain ⟨sv, mv, fv, rfl, hs, hm, hf⟩ := h
  obtain ⟨l1, l6, s1, s40, hsl, hfl, hml, hsi, hfi, hmi⟩ := hok
  have hm' := fun hp => hm.at_ hp
  obtain ⟨mA, mc, rfl, hmc, _⟩ := hm
  obtain ⟨sA, sc, rfl, hsc, hscell⟩ := hs
  obtain ⟨fA, fc, rfl, hfc, hfcell⟩ := hf
  generalize hNM : n.moves.length = NM at *
  have HL : ∀ k : Nat, k < 2 → ∃ (l : List Int) (A : Option Addr) (c : Nat), (if k = 0 then Value.slice sA n.starts.length sc else .slice fA n.final.length fc) = .slice A l.length c ∧ l.length ≤ 40 ∧
      ∀ q, q < l.length → ∃ b off x, A = some ⟨b, off, none⟩ ∧ b < w.heap.size ∧ w.cell? ⟨b, off + q, none⟩ = some (.int .i64 x) ∧ 0 ≤ x ∧ x < n.states := by
    intro k hk
    by_cases e : k = 0
    · refine ⟨n.starts, sA, sc, by simp [e], hsl, fun q hq => ?_⟩
      obtain ⟨b, off, e1, e2, e3⟩ := hscell (by omega)
      refine ⟨b, off, _, e1, e2, e3 q (by omega), ?_⟩
      refine hsi _ ?_
      rw [List.getD, List.getElem?_eq_getElem hq]; exact List.getElem_mem hq
    · refine ⟨n.final, fA, fc, by simp [e], hfl, fun q hq => ?_⟩
      obtain ⟨b, off, e1, e2, e3⟩ := hfcell (by omega)
      refine ⟨b, off, _, e1, e2, e3 q (by omega), ?_⟩
      refine hfi _ ?_
      rw [List.getD, List.getElem?_eq_getElem hq]; exact List.getElem_mem hq
  have HMV : ∀ k : Nat, k < NM → ∃ b off x y z, mA = some ⟨b, off, none⟩ ∧ b < w.heap.size ∧ w.cell? ⟨b, off + k * 3, none⟩ = some (.int .i64 x) ∧ w.cell? ⟨b, off + k * 3 + 1, none⟩ = some (.int .i64 y) ∧ w.cell? ⟨b, off + k * 3 + 2, none⟩ = some (.int .i64 z) ∧
      0 ≤ x ∧ x < n.states ∧ 0 ≤ z ∧ z < n.states ∧ 0 ≤ y ∧ y < n.letters := by
    intro k hk
    obtain ⟨b, off, c, e1, _, e2, e3⟩ := hm' (by omega)
    injection e1 with e1
    obtain ⟨c1, c2, c3⟩ := e3 k (by omega)
    have hmem : n.moves.getD k default ∈ n.moves := by rw [List.getD, List.getElem?_eq_getElem (by omega)]; exact List.getElem_mem _
    obtain ⟨a1, a2, a3, a4, a5, a6⟩ := hmi _ hmem
    exact ⟨b, off, _, _, _, e1, e2, c1, c2, c3, a1, a2, a3, a4, a5, a6⟩
  generalize hNS : n.starts.length = NS at *
  generalize hNF : n.final.length = NF at *
  generalize n.letters = L at *
  generalize n.states = M at *
  have HLL := Lib.hid HL
  have HMM := Lib.hid HMV
  clear HL HMV hm' hsi hfi hmi hscell hfcell hNM hNS hNF
  have b1 : decide (L < 1) = false := by simp; omega
  have b2 : decide (6 < L) = false := by simp; omega
  have b3 : decide (M < 1) = false := by simp; omega
  have b4 : decide (40 < M) = false := by simp; omega
  have b5 : decide ((40 : Int) < NS) = false := by simp; omega
  have b6 : decide ((40 : Int) < NF) = false := by simp; omega
  have b7 : decide ((240 : Int) < NM) = false := by simp; omega
  go_enter Tryd.func26, Tryd.ntmps26
  go_wp2_with fail
  clear b1 b2 b3 b4 b5 b6 b7
  obtain ⟨W, hW⟩ : ∃ W, (w.alloc (Obj.cells #[.int .i64 L, .int .i64 M, .slice sA NS sc, .slice mA NM mc, .slice fA NF fc] 47)).alloc (Obj.cells #[.slice sA NS sc, .slice fA NF fc] 23) = W := ⟨_, rfl⟩
  have hB : Below w.heap.size w W := by rw [← hW]; exact ((Below.refl _ _).alloc (Nat.le_refl _) _).alloc (by simp) _
  have c0 : W.cell? ⟨w.heap.size, 0, none⟩ = some (.int .i64 L) := by rw [← hW]; simp [go_sem]
  have c1 : W.cell? ⟨w.heap.size, 1, none⟩ = some (.int .i64 M) := by rw [← hW]; simp [go_sem]
  have c3 : W.cell? ⟨w.heap.size, 3, none⟩ = some (.slice mA NM mc) := by rw [← hW]; simp [go_sem]
  have hWs : W.heap.size = w.heap.size + 2 := by rw [← hW]; simp
  have ck : ∀ k : Nat, k < 2 → W.cell? ⟨w.heap.size + 1, k, none⟩ = some (if k = 0 then Value.slice sA NS sc else .slice fA NF fc) := by
    intro k hk
    rw [← hW]
    match k, hk with
    | 0, _ => simp [go_sem]
    | 1, _ => simp [go_sem]
  rw [hW]
  have CK := Lib.hid ck
  have HB := Lib.hid hB
  have HWS := Lib.hid hWs
  clear ck hW hB hWs
  go_loop [53] (fun i => ∃ k : Nat, k ≤ 2 ∧ i = .int .i64 (k : Int)) (fun i => 2 - (intOf i).toNat)
  case atStart => exact ⟨0, by omega, rfl⟩
  case round =>
    obtain ⟨k, hk, rfl⟩ := hrel
    by_cases hlt : k < 2
    · have hck := CK.out k hlt
      obtain ⟨l, A, c, e, hl40, hq⟩ := HLL.out k hlt
      rw [e] at hck
      have HQ := Lib.hid hq
      generalize l.length = n at *
      clear e hq
      go_wp2_with fail
      go_loop [59] (fun i => ∃ q : Nat, q ≤ n ∧ i = .int .i64 (q : Int)) (fun i => n - (intOf i).toNat)
      case atStart => exact ⟨0, by omega, rfl⟩
      case round =>
        obtain ⟨q, hqn, rfl⟩ := hrel
        by_cases hqlt : q < n
        · obtain ⟨b, off, x, rfl, hb, hcx, hx0, hx1⟩ := HQ.out q hqlt
          have hcx' := (HB.out.cell (p := ⟨b, off + q, none⟩) hb).trans hcx
          clear hcx
          go_wp2_with fail
          refine (state_true x M _ _ hx0 hx1 s40 c1).mono ?_
          rintro e w' ⟨rfl, rfl⟩
          go_wp2_with fail
          go_round
          case rel => exact ⟨q + 1, by omega, by go_num⟩
          case measure => simp [intOf]; omega
        · go_wp2_with fail
          go_round
          case rel => exact ⟨k + 1, by omega, by go_num⟩
          case measure => simp [intOf]; omega
    · go_wp2_with fail
      clear hlt hk
      go_loopw [73] (fun i wr => ∃ q : Nat, q ≤ NM ∧ i = .int .i64 (q : Int) ∧ Below W.heap.size W wr) (fun i _ => NM - (intOf i).toNat)
      case atStart => exact ⟨0, by omega, rfl, Below.refl _ _⟩
      case round =>
        obtain ⟨q, hqn, rfl, hbr⟩ := hrel
        have hws := HWS.out
        have c0' := (hbr.cell (p := ⟨w.heap.size, 0, none⟩) (by simp; omega)).trans c0
        have c1' := (hbr.cell (p := ⟨w.heap.size, 1, none⟩) (by simp; omega)).trans c1
        have hsz := hbr.size
        have hlt1 : w.heap.size < wr.heap.size := by omega
        have HBR := Lib.hid hbr
        clear hws hsz hbr
        by_cases hqlt : q < NM
        · obtain ⟨b, off, x, y, z, rfl, hb, m1, m2, m3, x0, x1, z0, z1, y0, y1⟩ := HMM.out q hqlt
          have hb2 := HB.out.trans (HBR.out.mono (by have := HWS.out; omega))
          have m1' := (hb2.cell (p := ⟨b, off + q * 3, none⟩) hb).trans m1
          have m2' := (hb2.cell (p := ⟨b, off + q * 3 + 1, none⟩) hb).trans m2
          have m3' := (hb2.cell (p := ⟨b, off + q * 3 + 2, none⟩) hb).trans m3
          have d1 : ∀ o, (wr.alloc o).cell? ⟨w.heap.size, 1, none⟩ = some (.int .i64 M) := fun o => (Below.cell ((Below.refl wr.heap.size wr).alloc (Nat.le_refl _) o) (p := ⟨w.heap.size, 1, none⟩) hlt1).trans c1'
          clear m1 m2 m3 hb2
          have D1 := Lib.hid d1
          clear d1
          go_wp2_with fail
          refine (state_true x M _ _ x0 x1 s40 (D1.out _)).mono ?_
          rintro e w' ⟨rfl, rfl⟩
          go_wp2_with fail
          refine (state_true z M _ _ z0 z1 s40 (D1.out _)).mono ?_
          rintro e w' ⟨rfl, rfl⟩
          go_wp2_with fail
          refine (within_true y (-1) _ _ (by omega) (by omega)).mono ?_
          rintro e w' ⟨rfl, rfl⟩
          go_wp2_with fail
          go_roundw
          case rel => exact ⟨q + 1, by omega, by go_num, HBR.out.alloc HBR.out.size _⟩
          case measure => simp [intOf]; omega
        · go_wp2_with fail
          go_ret
          exact ⟨rfl, HB.out.trans (HBR.out.mono (by have := HWS.out; omega))⟩
end Go.Proofs.YtccknopchddicaaDoor
