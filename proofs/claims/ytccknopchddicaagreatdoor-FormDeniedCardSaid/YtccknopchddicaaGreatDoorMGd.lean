/- words: automata in memory. -/
import Derived.Test.YtccknopchddicaaGreatDoorMC4
import Derived.Test.YtccknopchddicaaGreatDoorMGc
set_option linter.unusedSimpArgs false
set_option linter.unusedVariables false
set_option linter.unnecessarySimpa false
namespace Go.Proofs.YtccknopchddicaaGreatDoor
open Go.RowKit Stile

/-- a slice of rows -/
def RdRows (w : World) (B : Nat) (v : Value) (next : List (List Int)) : Prop :=
  ∃ rv : Nat → Value, Rd w B 1 v next.length rv ∧ ∀ j, j < next.length → RdI w B (rv j) (next.getD j [])
theorem RdRows.below {w w' : World} {B : Nat} {v : Value} {next : List (List Int)} (h : RdRows w B v next) (hb : Below B w w') : RdRows w' B v next := by
  obtain ⟨rv, h1, h2⟩ := h
  exact ⟨rv, h1.below hb, fun j hj => Rd.below (h2 j hj) hb⟩
theorem RdRows.mono {w : World} {B B' : Nat} {v : Value} {next : List (List Int)} (h : RdRows w B v next) (hb : B ≤ B') : RdRows w B' v next := by
  obtain ⟨rv, h1, h2⟩ := h
  exact ⟨rv, h1.mono hb, fun j hj => Rd.mono (h2 j hj) hb⟩

/-- an automaton as a value -/
def DfV (w : World) (B : Nat) (dv : Value) (d : Da) : Prop :=
  ∃ nv fv, dv = .agg #[.int .i64 d.letters, .int .i64 d.start, nv, fv] ∧ RdRows w B nv d.next ∧ RdB w B fv d.final
theorem DfV.below {w w' : World} {B : Nat} {v : Value} {d : Da} (h : DfV w B v d) (hb : Below B w w') : DfV w' B v d := by
  obtain ⟨nv, fv, e, h1, h2⟩ := h
  exact ⟨nv, fv, e, h1.below hb, Rd.below h2 hb⟩
theorem DfV.mono {w : World} {B B' : Nat} {v : Value} {d : Da} (h : DfV w B v d) (hb : B ≤ B') : DfV w B' v d := by
  obtain ⟨nv, fv, e, h1, h2⟩ := h
  exact ⟨nv, fv, e, h1.mono hb, Rd.mono h2 hb⟩

structure DaOk (d : Da) : Prop where
  let1 : 1 ≤ d.letters
  let6 : d.letters ≤ 6
  lenF : d.final.length = d.next.length
  pos : 0 < d.next.length
  le : d.next.length ≤ 40
  st0 : 0 ≤ d.start
  st1 : d.start < d.next.length
  rowlen : ∀ row ∈ d.next, (row.length : Int) = d.letters
  rowin : ∀ row ∈ d.next, ∀ s ∈ row, 0 ≤ s ∧ s < d.next.length

def mvs (l : List Mv) (j : Nat) : Value := .int .i64 (if j % 3 = 0 then (l.getD (j / 3) default).f else if j % 3 = 1 then (l.getD (j / 3) default).l else (l.getD (j / 3) default).t)
def RdM (w : World) (B : Nat) (v : Value) (l : List Mv) : Prop := Rd w B 3 v l.length (mvs l)
theorem mvs_at (f : List Mv) (k : Nat) : mvs f (k * 3) = .int .i64 (f.getD k default).f ∧ mvs f (k * 3 + 1) = .int .i64 (f.getD k default).l ∧ mvs f (k * 3 + 2) = .int .i64 (f.getD k default).t := by
  unfold mvs
  refine ⟨?_, ?_, ?_⟩
  · rw [if_pos (by omega), show k * 3 / 3 = k from by omega]
  · rw [if_neg (by omega), if_pos (by omega), show (k * 3 + 1) / 3 = k from by omega]
  · rw [if_neg (by omega), if_neg (by omega), show (k * 3 + 2) / 3 = k from by omega]
theorem RdM.at_ {w : World} {B : Nat} {v : Value} {f : List Mv} (h : RdM w B v f) (hn : 0 < f.length) : ∃ b off c, v = .slice (some ⟨b, off, none⟩) f.length c ∧ f.length ≤ c ∧ b < B ∧ ∀ k, k < f.length →
    w.cell? ⟨b, off + k * 3, none⟩ = some (.int .i64 (f.getD k default).f) ∧ w.cell? ⟨b, off + k * 3 + 1, none⟩ = some (.int .i64 (f.getD k default).l) ∧ w.cell? ⟨b, off + k * 3 + 2, none⟩ = some (.int .i64 (f.getD k default).t) := by
  obtain ⟨b, off, c, h1, h2, h3, h4⟩ := Rd.at3 h hn
  refine ⟨b, off, c, h1, h2, h3, fun k hk => ?_⟩
  obtain ⟨a1, a2, a3⟩ := mvs_at f k
  rw [← a1, ← a2, ← a3]
  exact h4 k hk

/-- an automaton that may be in many states, as a value -/
def NfV (w : World) (B : Nat) (nv : Value) (n : Na) : Prop :=
  ∃ sv mv fv, nv = .agg #[.int .i64 n.letters, .int .i64 n.states, sv, mv, fv] ∧ RdI w B sv n.starts ∧ RdM w B mv n.moves ∧ RdI w B fv n.final
theorem NfV.below {w w' : World} {B : Nat} {v : Value} {d : Na} (h : NfV w B v d) (hb : Below B w w') : NfV w' B v d := by
  obtain ⟨a, b, c, e, h1, h2, h3⟩ := h
  exact ⟨a, b, c, e, Rd.below h1 hb, Rd.below h2 hb, Rd.below h3 hb⟩
theorem NfV.mono {w : World} {B B' : Nat} {v : Value} {d : Na} (h : NfV w B v d) (hb : B ≤ B') : NfV w B' v d := by
  obtain ⟨a, b, c, e, h1, h2, h3⟩ := h
  exact ⟨a, b, c, e, Rd.mono h1 hb, Rd.mono h2 hb, Rd.mono h3 hb⟩

structure NaOk (n : Na) : Prop where
  let1 : 1 ≤ n.letters
  let6 : n.letters ≤ 6
  st1 : 1 ≤ n.states
  st40 : n.states ≤ 40
  starts : n.starts.length ≤ 40
  final : n.final.length ≤ 40
  moves : n.moves.length ≤ 240
  startin : ∀ s ∈ n.starts, 0 ≤ s ∧ s < n.states
  finin : ∀ s ∈ n.final, 0 ≤ s ∧ s < n.states
  movin : ∀ m ∈ n.moves, 0 ≤ m.f ∧ m.f < n.states ∧ 0 ≤ m.t ∧ m.t < n.states ∧ 0 ≤ m.l ∧ m.l < n.letters

/-- what Explore hands back, read -/
theorem Book.rdw {w : World} {base Bb mb : Nat} {v : Value} {ks : List Nat} (h : Book w base Bb mb v ks) : RdW w w.heap.size v ks := by
  refine Rd.of_own h.row ?_
  intro j hj
  simp at hj
  simp [words, hj, List.getD]
theorem Nxt.rows_ {w : World} {base : Nat} {nv : Value} {L : Nat} {next : List (List Int)} {rs : List Nat} (h : Nxt w base nv L next rs) (hl : ∀ row ∈ next, row.length = L) : RdRows w w.heap.size nv next := by
  refine ⟨fun j => .slice (some ⟨rs.getD j 0, 0, none⟩) L L, Rd.of_own h.own ?_, fun j hj => ?_⟩
  · intro j hj
    have hj' : j < rs.length := by have := h.len; omega
    simp [List.getD, hj']
  · have hr := h.rows j hj
    have hlen : (next.getD j []).length = L := by
      rw [List.getD, List.getElem?_eq_getElem hj]; exact hl _ (List.getElem_mem hj)
    unfold RdI
    rw [hlen]
    exact Rd.of_rowIs hr hr.lt
end Go.Proofs.YtccknopchddicaaGreatDoor
/- contracts: core.Within, dfa.Check on a sound automaton. -/
namespace Go.Proofs.YtccknopchddicaaGreatDoor
open Go.RowKit Stile
theorem within_any (n lo hi : Int) (w : World) : Calls Tryz.prog 88 #[.int .i64 n, .int .i64 lo, .int .i64 hi] w fun e w' => e = .returned (.bool (decide (lo ≤ n) && decide (n ≤ hi))) ∧ w = w' := by
  by_cases h : lo ≤ n
  · go_enter Tryz.func88, Tryz.ntmps88
    go_wp2
    go_ret
    exact ⟨by simp [h], rfl⟩
  · have hd : decide (lo ≤ n) = false := by simpa using h
    rw [hd]
    go_enter Tryz.func88, Tryz.ntmps88
    go_wp2
    go_ret
    exact ⟨rfl, rfl⟩
theorem within_true (n lo hi : Int) (w : World) (h1 : lo ≤ n) (h2 : n ≤ hi) : Calls Tryz.prog 88 #[.int .i64 n, .int .i64 lo, .int .i64 hi] w fun e w' => e = .returned (.bool true) ∧ w = w' :=
  (within_any n lo hi w).mono fun e w' ⟨he, hw⟩ => ⟨by rw [he]; simp [h1, h2], hw⟩

set_option maxRecDepth 100000 in
set_option maxHeartbeats 1000000 in
theorem dcheck_ok (dv : Value) (d : Da) (w : World) (h : DfV w w.heap.size dv d) (hok : DaOk d) :
    Calls Tryz.prog 81 #[dv] w fun e w' => e = .returned .nilIface ∧ Below w.heap.size w w' := by
  obtain ⟨nv, fv, rfl, ⟨rv, hn, hr⟩, hf⟩ := h
  obtain ⟨l1, l6, hlf, hpos, hle, s0, s1, hrl, hri⟩ := hok
  obtain ⟨b, off, c, rfl, hnc, hb, hcell⟩ := hn.at1 hpos
  obtain ⟨fA, fc, rfl, hfc, _⟩ := hf
  obtain ⟨R, hR⟩ : ∃ R : Nat → List Int, ∀ j, d.next.getD j [] = R j := ⟨_, fun _ => rfl⟩
  have hrv : ∀ j, j < d.next.length → ∃ A c, rv j = .slice A (R j).length c ∧ ((R j).length : Int) = d.letters ∧ (R j).length ≤ 6 ∧
      (0 < (R j).length → ∃ b off, A = some ⟨b, off, none⟩ ∧ b < w.heap.size ∧ ∀ i, i < (R j).length → w.cell? ⟨b, off + i, none⟩ = some (.int .i64 ((R j).getD i 0))) ∧
      (∀ i, i < (R j).length → 0 ≤ (R j).getD i 0 ∧ (R j).getD i 0 < d.next.length) := by
    intro j hj
    have hm : R j ∈ d.next := by rw [← hR, List.getD, List.getElem?_eq_getElem hj]; exact List.getElem_mem hj
    have hrj := hr j hj
    rw [hR] at hrj
    obtain ⟨A, c, e, hc, hcc⟩ := hrj
    refine ⟨A, c, e, hrl _ hm, by have := hrl _ hm; omega, fun h0 => ?_, fun i hi => ?_⟩
    · obtain ⟨b, off, e1, e2, e3⟩ := hcc h0
      exact ⟨b, off, e1, e2, fun i hi => e3 i (by omega)⟩
    · refine hri _ hm _ ?_
      rw [List.getD, List.getElem?_eq_getElem hi]; exact List.getElem_mem hi
  rw [hlf] at hfc ⊢
  generalize hN : d.next.length = N at *
  have HN := Lib.hid hN
  have HRV := Lib.hid hrv
  have HC := Lib.hid hcell
  generalize d.letters = L at *
  generalize d.start = S at *
  clear hN hrv hcell hr hrl hri hn hlf
  have b1 : decide (L < 1) = false := by simp; omega
  have b2 : decide (6 < L) = false := by simp; omega
  have b3 : decide ((40 : Int) < N) = false := by simp; omega
  have b4 : ((N : Int) == 0) = false := beq_eq_false_iff_ne.2 (by omega)
  go_enter Tryz.func81, Tryz.ntmps81
  go_wp2_with fail
  go_loop [38] (fun i => ∃ k : Nat, k ≤ N ∧ i = .int .i64 (k : Int)) (fun i => N - (intOf i).toNat)
  case atStart => exact ⟨0, by omega, rfl⟩
  case round =>
    obtain ⟨k, hk, rfl⟩ := hrel
    by_cases hlt : k < N
    · have hck := HC.out k hlt
      obtain ⟨A, c', e, hll, h6, _, _⟩ := HRV.out k hlt
      rw [e] at hck
      have hll' : (((R k).length : Int) != L) = false := by rw [hll]; simp
      clear e hll
      go_wp2_with fail
      go_round
      case rel => exact ⟨k + 1, by omega, by go_num⟩
      case measure => simp [intOf]; omega
    · go_wp2_with fail
      refine (within_true S 0 _ _ s0 (by omega)).mono ?_
      rintro e w' ⟨rfl, rfl⟩
      go_wp2_with fail
      clear hlt hk
      go_loop [59] (fun i => ∃ k : Nat, k ≤ N ∧ i = .int .i64 (k : Int)) (fun i => N - (intOf i).toNat)
      case atStart => exact ⟨0, by omega, rfl⟩
      case round =>
        obtain ⟨j, hj, rfl⟩ := hrel
        by_cases hlt : j < N
        · have hck := HC.out j hlt
          obtain ⟨A, c', e, hll, h6, hcc, hin⟩ := HRV.out j hlt
          rw [e] at hck
          generalize R j = row at *
          have HCC := Lib.hid hcc
          have HIN := Lib.hid hin
          clear e hll hcc hin
          go_wp2_with fail
          go_loop [65] (fun i => ∃ q : Nat, q ≤ row.length ∧ i = .int .i64 (q : Int)) (fun i => row.length - (intOf i).toNat)
          case atStart => exact ⟨0, by omega, rfl⟩
          case round =>
            obtain ⟨q, hq, rfl⟩ := hrel
            by_cases hqlt : q < row.length
            · obtain ⟨b2, off2, rfl, hb2, hc2⟩ := HCC.out (by omega)
              obtain ⟨x, hc3, hx0, hx1⟩ : ∃ x, w.cell? ⟨b2, off2 + q, none⟩ = some (.int .i64 x) ∧ 0 ≤ x ∧ x < N := ⟨_, hc2 q hqlt, (HIN.out q hqlt).1, (HIN.out q hqlt).2⟩
              clear hc2
              go_wp2_with fail
              refine (within_true x 0 _ _ hx0 (by omega)).mono ?_
              rintro e w' ⟨rfl, rfl⟩
              go_wp2_with fail
              go_round
              case rel => exact ⟨q + 1, by omega, by go_num⟩
              case measure => simp [intOf]; omega
            · go_wp2_with fail
              go_round
              case rel => exact ⟨j + 1, by omega, by go_num⟩
              case measure => simp [intOf]; omega
        · go_wp2_with fail
          go_ret
          exact ⟨rfl, (Below.refl _ _).alloc (Nat.le_refl _) _⟩
end Go.Proofs.YtccknopchddicaaGreatDoor
/- contract: nfa.Check on a sound automaton. -/
namespace Go.Proofs.YtccknopchddicaaGreatDoor
open Go.RowKit Stile
theorem state_true (s n : Int) (pb : Nat) (w : World) (h0 : 0 ≤ s) (h1 : s < n) (hn : n ≤ 40) (hc : w.cell? ⟨pb, 1, none⟩ = some (.int .i64 n)) :
    Calls Tryz.prog 105 #[.int .i64 s, .pointer (some ⟨pb, 0, none⟩)] w fun e w' => e = .returned (.bool true) ∧ w = w' := by
  go_enter Tryz.func105, Tryz.ntmps105
  go_wp2_with fail
  refine (within_true s 0 _ _ h0 (by omega)).mono ?_
  rintro e w' ⟨rfl, rfl⟩
  go_wp2_with fail
  go_ret
  exact ⟨rfl, rfl⟩

set_option maxRecDepth 100000 in
set_option maxHeartbeats 2000000 in
theorem ncheck_ok (nv : Value) (n : Na) (w : World) (h : NfV w w.heap.size nv n) (hok : NaOk n) :
    Calls Tryz.prog 82 #[nv] w fun e w' => e = .returned .nilIface ∧ Below w.heap.size w w' := by
  obtain ⟨sv, mv, fv, rfl, hs, hm, hf⟩ := h
  obtain ⟨l1, l6, s1, s40, hsl, hfl, hml, hsi, hfi, hmi⟩ := hok
  have hm' := fun hp => hm.at_ hp
  obtain ⟨mA, mc, rfl, hmc, _⟩ := hm
  obtain ⟨sA, sc, rfl, hsc, hscell⟩ := hs
  obtain ⟨fA, fc, rfl, hfc, hfcell⟩ := hf
  generalize hNM : n.moves.length = NM at *
  have HL : ∀ k : Nat, k < 2 → ∃ (l : List Int) (A : Option Addr) (c : Nat), (if k = 0 then Value.slice sA n.starts.length sc else .slice fA n.final.length fc) = .slice A l.length c ∧ l.length ≤ 40 ∧
      ∀ q, q < l.length → ∃ b off x, A = some ⟨b, off, none⟩ ∧ b < w.heap.size ∧ w.cell? ⟨b, off + q, none⟩ = some (.int .i64 x) ∧ 0 ≤ x ∧ x < n.states := by
    intro k hk
    by_cases e : k = 0
    · refine ⟨n.starts, sA, sc, by simp [e], hsl, fun q hq => ?_⟩
      obtain ⟨b, off, e1, e2, e3⟩ := hscell (by omega)
      refine ⟨b, off, _, e1, e2, e3 q (by omega), ?_⟩
      refine hsi _ ?_
      rw [List.getD, List.getElem?_eq_getElem hq]; exact List.getElem_mem hq
    · refine ⟨n.final, fA, fc, by simp [e], hfl, fun q hq => ?_⟩
      obtain ⟨b, off, e1, e2, e3⟩ := hfcell (by omega)
      refine ⟨b, off, _, e1, e2, e3 q (by omega), ?_⟩
      refine hfi _ ?_
      rw [List.getD, List.getElem?_eq_getElem hq]; exact List.getElem_mem hq
  have HMV : ∀ k : Nat, k < NM → ∃ b off x y z, mA = some ⟨b, off, none⟩ ∧ b < w.heap.size ∧ w.cell? ⟨b, off + k * 3, none⟩ = some (.int .i64 x) ∧ w.cell? ⟨b, off + k * 3 + 1, none⟩ = some (.int .i64 y) ∧ w.cell? ⟨b, off + k * 3 + 2, none⟩ = some (.int .i64 z) ∧
      0 ≤ x ∧ x < n.states ∧ 0 ≤ z ∧ z < n.states ∧ 0 ≤ y ∧ y < n.letters := by
    intro k hk
    obtain ⟨b, off, c, e1, _, e2, e3⟩ := hm' (by omega)
    injection e1 with e1
    obtain ⟨c1, c2, c3⟩ := e3 k (by omega)
    have hmem : n.moves.getD k default ∈ n.moves := by rw [List.getD, List.getElem?_eq_getElem (by omega)]; exact List.getElem_mem _
    obtain ⟨a1, a2, a3, a4, a5, a6⟩ := hmi _ hmem
    exact ⟨b, off, _, _, _, e1, e2, c1, c2, c3, a1, a2, a3, a4, a5, a6⟩
  generalize hNS : n.starts.length = NS at *
  generalize hNF : n.final.length = NF at *
  generalize n.letters = L at *
  generalize n.states = M at *
  have HLL := Lib.hid HL
  have HMM := Lib.hid HMV
  clear HL HMV hm' hsi hfi hmi hscell hfcell hNM hNS hNF
  have b1 : decide (L < 1) = false := by simp; omega
  have b2 : decide (6 < L) = false := by simp; omega
  have b3 : decide (M < 1) = false := by simp; omega
  have b4 : decide (40 < M) = false := by simp; omega
  have b5 : decide ((40 : Int) < NS) = false := by simp; omega
  have b6 : decide ((40 : Int) < NF) = false := by simp; omega
  have b7 : decide ((240 : Int) < NM) = false := by simp; omega
  go_enter Tryz.func82, Tryz.ntmps82
  go_wp2_with fail
  clear b1 b2 b3 b4 b5 b6 b7
  obtain ⟨W, hW⟩ : ∃ W, (w.alloc (Obj.cells #[.int .i64 L, .int .i64 M, .slice sA NS sc, .slice mA NM mc, .slice fA NF fc] 93)).alloc (Obj.cells #[.slice sA NS sc, .slice fA NF fc] 23) = W := ⟨_, rfl⟩
  have hB : Below w.heap.size w W := by rw [← hW]; exact ((Below.refl _ _).alloc (Nat.le_refl _) _).alloc (by simp) _
  have c0 : W.cell? ⟨w.heap.size, 0, none⟩ = some (.int .i64 L) := by rw [← hW]; simp [go_sem]
  have c1 : W.cell? ⟨w.heap.size, 1, none⟩ = some (.int .i64 M) := by rw [← hW]; simp [go_sem]
  have c3 : W.cell? ⟨w.heap.size, 3, none⟩ = some (.slice mA NM mc) := by rw [← hW]; simp [go_sem]
  have hWs : W.heap.size = w.heap.size + 2 := by rw [← hW]; simp
  have ck : ∀ k : Nat, k < 2 → W.cell? ⟨w.heap.size + 1, k, none⟩ = some (if k = 0 then Value.slice sA NS sc else .slice fA NF fc) := by
    intro k hk
    rw [← hW]
    match k, hk with
    | 0, _ => simp [go_sem]
    | 1, _ => simp [go_sem]
  rw [hW]
  have CK := Lib.hid ck
  have HB := Lib.hid hB
  have HWS := Lib.hid hWs
  clear ck hW hB hWs
  go_loop [53] (fun i => ∃ k : Nat, k ≤ 2 ∧ i = .int .i64 (k : Int)) (fun i => 2 - (intOf i).toNat)
  case atStart => exact ⟨0, by omega, rfl⟩
  case round =>
    obtain ⟨k, hk, rfl⟩ := hrel
    by_cases hlt : k < 2
    · have hck := CK.out k hlt
      obtain ⟨l, A, c, e, hl40, hq⟩ := HLL.out k hlt
      rw [e] at hck
      have HQ := Lib.hid hq
      generalize l.length = n at *
      clear e hq
      go_wp2_with fail
      go_loop [59] (fun i => ∃ q : Nat, q ≤ n ∧ i = .int .i64 (q : Int)) (fun i => n - (intOf i).toNat)
      case atStart => exact ⟨0, by omega, rfl⟩
      case round =>
        obtain ⟨q, hqn, rfl⟩ := hrel
        by_cases hqlt : q < n
        · obtain ⟨b, off, x, rfl, hb, hcx, hx0, hx1⟩ := HQ.out q hqlt
          have hcx' := (HB.out.cell (p := ⟨b, off + q, none⟩) hb).trans hcx
          clear hcx
          go_wp2_with fail
          refine (state_true x M _ _ hx0 hx1 s40 c1).mono ?_
          rintro e w' ⟨rfl, rfl⟩
          go_wp2_with fail
          go_round
          case rel => exact ⟨q + 1, by omega, by go_num⟩
          case measure => simp [intOf]; omega
        · go_wp2_with fail
          go_round
          case rel => exact ⟨k + 1, by omega, by go_num⟩
          case measure => simp [intOf]; omega
    · go_wp2_with fail
      clear hlt hk
      go_loopw [73] (fun i wr => ∃ q : Nat, q ≤ NM ∧ i = .int .i64 (q : Int) ∧ Below W.heap.size W wr) (fun i _ => NM - (intOf i).toNat)
      case atStart => exact ⟨0, by omega, rfl, Below.refl _ _⟩
      case round =>
        obtain ⟨q, hqn, rfl, hbr⟩ := hrel
        have hws := HWS.out
        have c0' := (hbr.cell (p := ⟨w.heap.size, 0, none⟩) (by simp; omega)).trans c0
        have c1' := (hbr.cell (p := ⟨w.heap.size, 1, none⟩) (by simp; omega)).trans c1
        have hsz := hbr.size
        have hlt1 : w.heap.size < wr.heap.size := by omega
        have HBR := Lib.hid hbr
        clear hws hsz hbr
        by_cases hqlt : q < NM
        · obtain ⟨b, off, x, y, z, rfl, hb, m1, m2, m3, x0, x1, z0, z1, y0, y1⟩ := HMM.out q hqlt
          have hb2 := HB.out.trans (HBR.out.mono (by have := HWS.out; omega))
          have m1' := (hb2.cell (p := ⟨b, off + q * 3, none⟩) hb).trans m1
          have m2' := (hb2.cell (p := ⟨b, off + q * 3 + 1, none⟩) hb).trans m2
          have m3' := (hb2.cell (p := ⟨b, off + q * 3 + 2, none⟩) hb).trans m3
          have d1 : ∀ o, (wr.alloc o).cell? ⟨w.heap.size, 1, none⟩ = some (.int .i64 M) := fun o => (Below.cell ((Below.refl wr.heap.size wr).alloc (Nat.le_refl _) o) (p := ⟨w.heap.size, 1, none⟩) hlt1).trans c1'
          clear m1 m2 m3 hb2
          have D1 := Lib.hid d1
          clear d1
          go_wp2_with fail
          refine (state_true x M _ _ x0 x1 s40 (D1.out _)).mono ?_
          rintro e w' ⟨rfl, rfl⟩
          go_wp2_with fail
          refine (state_true z M _ _ z0 z1 s40 (D1.out _)).mono ?_
          rintro e w' ⟨rfl, rfl⟩
          go_wp2_with fail
          refine (within_true y (-1) _ _ (by omega) (by omega)).mono ?_
          rintro e w' ⟨rfl, rfl⟩
          go_wp2_with fail
          go_roundw
          case rel => exact ⟨q + 1, by omega, by go_num, HBR.out.alloc HBR.out.size _⟩
          case measure => simp [intOf]; omega
        · go_wp2_with fail
          go_ret
          exact ⟨rfl, HB.out.trans (HBR.out.mono (by have := HWS.out; omega))⟩
end Go.Proofs.YtccknopchddicaaGreatDoor
