/- contracts: stilewardsame.Ints, Bools, Rows, Dfa, where both are the same. -/
import Derived.Test.YtccknopchddicaaGreatDoorMB5
import Derived.Test.YtccknopchddicaaGreatDoorMGc
import Derived.Test.YtccknopchddicaaGreatDoorMGd
import Derived.Deep.DeepCutAuto
set_option linter.unusedSimpArgs false
set_option linter.unusedVariables false
set_option linter.unnecessarySimpa false
namespace Go.Proofs.YtccknopchddicaaGreatDoor
open Go.RowKit Stile
set_option maxRecDepth 100000 in
set_option maxHeartbeats 800000 in
theorem ints_same (av bv : Value) (B : Nat) (l : List Int) (w : World) (ha : RdI w B av l) (hb : RdI w B bv l) (hlen : l.length ≤ 1000) :
    Calls Tryz.prog 91 #[av, bv] w fun e w' => e = .returned (.bool true) ∧ ∃ n, w' = w.drewN n := by
  obtain ⟨aA, ac, rfl, hac, hacell⟩ := ha
  obtain ⟨bA, bc, rfl, hbc, hbcell⟩ := hb
  obtain ⟨n, hn⟩ : ∃ n, l.length = n := ⟨_, rfl⟩
  rw [hn] at hac hacell hbc hbcell hlen ⊢
  have HA : ∀ k : Nat, k < n → ∃ b off b2 off2 x, aA = some ⟨b, off, none⟩ ∧ bA = some ⟨b2, off2, none⟩ ∧ w.cell? ⟨b, off + k, none⟩ = some (Value.int .i64 x) ∧ w.cell? ⟨b2, off2 + k, none⟩ = some (Value.int .i64 x) := fun k hk => by
    obtain ⟨b, off, e1, _, e3⟩ := hacell (by omega)
    obtain ⟨b2, off2, e4, _, e6⟩ := hbcell (by omega)
    exact ⟨b, off, b2, off2, _, e1, e4, e3 k (by omega), e6 k (by omega)⟩
  have HH := Lib.hid HA
  clear HA hacell hbcell hn
  go_enter Tryz.func91, Tryz.ntmps91
  go_wp2_with fail
  go_loopw [5] (fun i wr => ∃ k m : Nat, k ≤ n ∧ i = .int .i64 (k : Int) ∧ wr = w.drewN m) (fun i _ => n - (intOf i).toNat)
  case atStart => exact ⟨0, 0, by omega, rfl, rfl⟩
  case round =>
    obtain ⟨k, m, hk, rfl, hwr⟩ := hrel
    by_cases hlt : k < n
    · obtain ⟨b, off, b2, off2, x, rfl, rfl, h1, h2⟩ := HH.out k hlt
      have h1' : wr.cell? ⟨b, off + k, none⟩ = some (Value.int .i64 x) := by rw [hwr]; exact h1
      have h2' : wr.cell? ⟨b2, off2 + k, none⟩ = some (Value.int .i64 x) := by rw [hwr]; exact h2
      have l1 := lt_of_cell h1'
      have l2 := lt_of_cell h2'
      dsimp only at l1 l2
      have HWR := Lib.hid hwr
      clear h1 h2 hwr
      go_upto_region 6 with fail
      go_quiet (fail)
      go_wp2_with fail
      go_roundw
      case rel => exact ⟨k + 1, m + nq, by omega, by go_num, by rw [HWR.out, World.drewN_drewN]⟩
      case measure => simp [intOf]; omega
    · have HWR := Lib.hid hwr
      clear hwr
      go_wp2_with fail
      go_ret
      exact ⟨rfl, m, HWR.out⟩
set_option maxRecDepth 100000 in
set_option maxHeartbeats 800000 in
theorem bools_same (av bv : Value) (B : Nat) (l : List Bool) (w : World) (ha : RdB w B av l) (hb : RdB w B bv l) (hlen : l.length ≤ 1000) :
    Calls Tryz.prog 63 #[av, bv] w fun e w' => e = .returned (.bool true) ∧ ∃ n, w' = w.drewN n := by
  obtain ⟨aA, ac, rfl, hac, hacell⟩ := ha
  obtain ⟨bA, bc, rfl, hbc, hbcell⟩ := hb
  obtain ⟨n, hn⟩ : ∃ n, l.length = n := ⟨_, rfl⟩
  rw [hn] at hac hacell hbc hbcell hlen ⊢
  have HA : ∀ k : Nat, k < n → ∃ b off b2 off2 x, aA = some ⟨b, off, none⟩ ∧ bA = some ⟨b2, off2, none⟩ ∧ w.cell? ⟨b, off + k, none⟩ = some (Value.bool x) ∧ w.cell? ⟨b2, off2 + k, none⟩ = some (Value.bool x) := fun k hk => by
    obtain ⟨b, off, e1, _, e3⟩ := hacell (by omega)
    obtain ⟨b2, off2, e4, _, e6⟩ := hbcell (by omega)
    exact ⟨b, off, b2, off2, _, e1, e4, e3 k (by omega), e6 k (by omega)⟩
  have HH := Lib.hid HA
  clear HA hacell hbcell hn
  go_enter Tryz.func63, Tryz.ntmps63
  go_wp2_with fail
  go_loopw [5] (fun i wr => ∃ k m : Nat, k ≤ n ∧ i = .int .i64 (k : Int) ∧ wr = w.drewN m) (fun i _ => n - (intOf i).toNat)
  case atStart => exact ⟨0, 0, by omega, rfl, rfl⟩
  case round =>
    obtain ⟨k, m, hk, rfl, hwr⟩ := hrel
    by_cases hlt : k < n
    · obtain ⟨b, off, b2, off2, x, rfl, rfl, h1, h2⟩ := HH.out k hlt
      have h1' : wr.cell? ⟨b, off + k, none⟩ = some (Value.bool x) := by rw [hwr]; exact h1
      have h2' : wr.cell? ⟨b2, off2 + k, none⟩ = some (Value.bool x) := by rw [hwr]; exact h2
      have l1 := lt_of_cell h1'
      have l2 := lt_of_cell h2'
      dsimp only at l1 l2
      have HWR := Lib.hid hwr
      clear h1 h2 hwr
      go_upto_region 6 with fail
      go_quiet (fail)
      go_wp2_with fail
      go_roundw
      case rel => exact ⟨k + 1, m + nq, by omega, by go_num, by rw [HWR.out, World.drewN_drewN]⟩
      case measure => simp [intOf]; omega
    · have HWR := Lib.hid hwr
      clear hwr
      go_wp2_with fail
      go_ret
      exact ⟨rfl, m, HWR.out⟩
set_option maxRecDepth 100000 in
set_option maxHeartbeats 800000 in
theorem rows_same (av bv : Value) (B : Nat) (l : List (List Int)) (w : World) (ha : RdRows w B av l) (hb : RdRows w B bv l) (hlen : l.length ≤ 1000) (hrow : ∀ row ∈ l, row.length ≤ 1000) :
    Calls Tryz.prog 62 #[av, bv] w fun e w' => e = .returned (.bool true) ∧ ∃ n, w' = w.drewN n := by
  obtain ⟨ra, ⟨aA, ac, rfl, hac, hacell⟩, har⟩ := ha
  obtain ⟨rb, ⟨bA, bc, rfl, hbc, hbcell⟩, hbr⟩ := hb
  have HA : ∀ k : Nat, k < l.length → ∃ b off b2 off2 xA xn xc yA yn yc, aA = some ⟨b, off, none⟩ ∧ bA = some ⟨b2, off2, none⟩ ∧ w.cell? ⟨b, off + k, none⟩ = some (.slice xA xn xc) ∧ w.cell? ⟨b2, off2 + k, none⟩ = some (.slice yA yn yc) ∧
      ∀ W, (∃ n, W = w.drewN n) → Calls Tryz.prog 91 #[.slice xA xn xc, .slice yA yn yc] W fun e w' => e = .returned (.bool true) ∧ ∃ n, w' = W.drewN n := fun k hk => by
    obtain ⟨b, off, e1, _, e3⟩ := hacell (by omega)
    obtain ⟨b2, off2, e4, _, e6⟩ := hbcell (by omega)
    have r1 := har k hk
    have r2 := hbr k hk
    have hl : (l.getD k []).length ≤ 1000 := by rw [List.getD, List.getElem?_eq_getElem hk]; exact hrow _ (List.getElem_mem hk)
    have c1 := e3 k (by omega)
    have c2 := e6 k (by omega)
    obtain ⟨xA, xc, e7, _, _⟩ := id r1
    obtain ⟨yA, yc, e8, _, _⟩ := id r2
    rw [e7] at c1 r1
    rw [e8] at c2 r2
    exact ⟨b, off, b2, off2, _, _, _, _, _, _, e1, e4, c1, c2, fun W ⟨m, hW⟩ => ints_same _ _ B _ W (by rw [hW]; exact r1) (by rw [hW]; exact r2) hl⟩
  obtain ⟨n, hn⟩ : ∃ n, l.length = n := ⟨_, rfl⟩
  rw [hn] at hac hbc hlen HA ⊢
  have HH := Lib.hid HA
  clear HA hacell hbcell hn har hbr hrow
  go_enter Tryz.func62, Tryz.ntmps62
  go_wp2_with fail
  go_loopw [5] (fun i wr => ∃ k m : Nat, k ≤ n ∧ i = .int .i64 (k : Int) ∧ wr = w.drewN m) (fun i _ => n - (intOf i).toNat)
  case atStart => exact ⟨0, 0, by omega, rfl, rfl⟩
  case round =>
    obtain ⟨k, m, hk, rfl, hwr⟩ := hrel
    by_cases hlt : k < n
    · obtain ⟨b, off, b2, off2, xA, xn, xc, yA, yn, yc, rfl, rfl, h1, h2, h3⟩ := HH.out k hlt
      have h1' : wr.cell? ⟨b, off + k, none⟩ = some (.slice xA xn xc) := by rw [hwr]; exact h1
      have h2' : wr.cell? ⟨b2, off2 + k, none⟩ = some (.slice yA yn yc) := by rw [hwr]; exact h2
      have h3' : ∀ j, Calls Tryz.prog 91 #[.slice xA xn xc, .slice yA yn yc] (wr.drewN j) fun e w' => e = .returned (.bool true) ∧ ∃ n, w' = (wr.drewN j).drewN n := fun j => h3 _ ⟨m + j, by rw [hwr, World.drewN_drewN]⟩
      have l1 := lt_of_cell h1'
      have l2 := lt_of_cell h2'
      dsimp only at l1 l2
      have HWR := Lib.hid hwr
      have H3 := Lib.hid h3'
      clear h1 h2 hwr h3 h3'
      go_upto_region 6 with fail
      go_quiet ((go_at_call 91; exact Calls.quiet_of (H3.out _)))
      go_wp2_with fail
      go_roundw
      case rel => exact ⟨k + 1, m + nq, by omega, by go_num, by rw [HWR.out, World.drewN_drewN]⟩
      case measure => simp [intOf]; omega
    · have HWR := Lib.hid hwr
      clear hwr
      go_wp2_with fail
      go_ret
      exact ⟨rfl, m, HWR.out⟩
set_option maxRecDepth 100000 in
set_option maxHeartbeats 800000 in
theorem dfa_same (av bv : Value) (d : Da) (w : World) (ha : DfV w w.heap.size av d) (hb : DfV w w.heap.size bv d) (hn : d.next.length ≤ 1000) (hf : d.final.length ≤ 1000) (hrow : ∀ row ∈ d.next, row.length ≤ 1000) :
    Calls Tryz.prog 45 #[av, bv] w fun e w' => e = .returned (.bool true) ∧ Below w.heap.size w w' := by
  obtain ⟨nv, fv, rfl, h1, h2⟩ := ha
  obtain ⟨nv2, fv2, rfl, h3, h4⟩ := hb
  have R := fun W hb => rows_same nv nv2 w.heap.size d.next W (RdRows.below h1 hb) (RdRows.below h3 hb) hn hrow
  have F := fun W hb => bools_same fv fv2 w.heap.size d.final W (Rd.below h2 hb) (Rd.below h4 hb) hf
  obtain ⟨r1, ⟨nA, nc, rfl, _⟩, _⟩ := h1
  obtain ⟨r2, ⟨nA2, nc2, rfl, _⟩, _⟩ := h3
  obtain ⟨fA, fc, rfl, _⟩ := h2
  obtain ⟨fA2, fc2, rfl, _⟩ := h4
  have HR := Lib.hid R
  have HF := Lib.hid F
  generalize d.next.length = nn at *
  generalize d.final.length = fn at *
  clear R F hrow
  go_enter Tryz.func45, Tryz.ntmps45
  go_wp2_with fail
  refine (HR.out _ (((Below.refl _ _).alloc (Nat.le_refl _) _).alloc (by simp) _)).mono ?_
  rintro e w1 ⟨rfl, m, hm⟩
  have hb1 : Below w.heap.size w w1 := by rw [hm]; exact below_drewN ((((Below.refl w.heap.size w).alloc (Nat.le_refl _) _).alloc (by simp) _)) _
  have hx : w1.cell? ⟨w.heap.size, 3, none⟩ = some (.slice fA fn fc) := by
    rw [hm]; have := fld_cell (heap_old2 w (Obj.cells #[.int .i64 d.letters, .int .i64 d.start, .slice nA nn nc, .slice fA fn fc] 59) (Obj.cells #[.int .i64 d.letters, .int .i64 d.start, .slice nA2 nn nc2, .slice fA2 fn fc2] 59)) 3; exact this
  have hy : w1.cell? ⟨w.heap.size + 1, 3, none⟩ = some (.slice fA2 fn fc2) := by
    rw [hm]; have := fld_cell (heap_new2 w (Obj.cells #[.int .i64 d.letters, .int .i64 d.start, .slice nA nn nc, .slice fA fn fc] 59) (Obj.cells #[.int .i64 d.letters, .int .i64 d.start, .slice nA2 nn nc2, .slice fA2 fn fc2] 59)) 3; exact this
  have hz : w.heap.size + 1 < w1.heap.size := lt_of_cell hy
  have H2 := HF.out w1 hb1
  have HB1 := Lib.hid hb1
  have HX := Lib.hid hx
  have HY := Lib.hid hy
  clear hm hb1 hx hy
  have hx := HX.out
  have hy := HY.out
  go_wp2_with fail
  refine H2.mono ?_
  rintro e w2 ⟨rfl, m2, hm2⟩
  have HB2 := Lib.hid (show Below w.heap.size w w2 by rw [hm2]; exact below_drewN HB1.out _)
  clear hm2 H2 hx hy
  go_wp2_with fail
  go_ret
  exact ⟨rfl, HB2.out⟩
end Go.Proofs.YtccknopchddicaaGreatDoor
