/- contract: dfa.Run. -/
import Derived.Test.YtccknopchddicaaGreatDoorMG1
import Derived.Test.YtccknopchddicaaGreatDoorMGd
import Derived.Test.YtccknopchddicaaGreatDoorMS1
import Derived.IntWalk
set_option linter.unusedSimpArgs false
set_option linter.unusedVariables false
set_option linter.unnecessarySimpa false
namespace Go.Proofs.YtccknopchddicaaGreatDoor
open Go.RowKit Stile
theorem snocI {α : Type} {P : List α → Prop} (h0 : P []) (h1 : ∀ l x, P l → P (l ++ [x])) : ∀ l, P l := snoc_ind h0 h1
theorem goes_in {d : Da} (h : DaOk d) {L : Nat} (hL : d.letters = (L : Int)) {s : Int} (h0 : 0 ≤ s) (h1 : s < d.next.length) : ∀ (u : List Int), Wrd L u → 0 ≤ goes d.next s u ∧ goes d.next s u < d.next.length := by
  intro u
  induction u using snocI with
  | h0 => intro _; exact ⟨h0, h1⟩
  | h1 u a ih =>
    intro hu
    have hi := ih (fun b hb => hu b (by simp [hb]))
    have ha := hu a (by simp)
    rw [goes_snoc, go1]
    obtain ⟨S, hS⟩ : ∃ S : Nat, goes d.next s u = S := ⟨(goes d.next s u).toNat, by omega⟩
    obtain ⟨A, hA⟩ : ∃ A : Nat, a = A := ⟨a.toNat, by have := ha.1; omega⟩
    rw [hS, hA]
    simp only [Int.toNat_natCast]
    have hlt : S < d.next.length := by omega
    have hrow := h.rowlen _ (List.getElem_mem hlt)
    have hr : (d.next.getD S []) = d.next[S] := by simp [List.getD, hlt]
    rw [hr]
    have hAl : A < (d.next[S]).length := by have := ha.2; omega
    have : (d.next[S]).getD A 0 = (d.next[S])[A] := by simp [List.getD, hAl]
    rw [this]
    exact h.rowin _ (List.getElem_mem hlt) _ (List.getElem_mem hAl)
set_option maxRecDepth 100000 in
set_option maxHeartbeats 1600000 in
theorem run_any (L : Nat) (dv lv : Value) (d : Da) (l : List Int) (w : World) (h : DfV w w.heap.size dv d) (hok : DaOk d) (hL : d.letters = (L : Int)) (hl : RdI w w.heap.size lv l) (hw : wcheckP L l = 0) :
    Calls Tryz.prog 60 #[dv, .int .i64 d.start, lv] w fun e w' => e = .returned (.tuple #[.int .i64 (goes d.next d.start l), .nilIface]) ∧ Below w.heap.size w w' := by
  have H1 := fun W hb => dcheck_ok dv d W ((DfV.below h hb).mono hb.size) hok
  have H2 := fun W hb => wcheck_any (L : Int) lv l W (Rd.mono (Rd.below hl hb) hb.size)
  simp only [hw, errV_zero] at H2
  obtain ⟨_, hln, hlin⟩ := wcheckP_ok.1 hw
  have hwr : ∀ k, Wrd L (l.take k) := fun k a ha => by have := hlin a (List.mem_of_mem_take ha); exact this
  have hgo := fun k => goes_in hok hL hok.st0 hok.st1 (l.take k) (hwr k)
  have hst0 := hok.st0
  have hst1 := hok.st1
  obtain ⟨nv, fv, rfl, ⟨rv, hn, hr⟩, hf⟩ := h
  obtain ⟨nb, no, nc, rfl, hnc, hnb, hncell⟩ := Rd.at1 hn hok.pos
  obtain ⟨fA, fc, rfl, _⟩ := hf
  obtain ⟨lA, lc, rfl, hlc, hlcell⟩ := hl
  have hstep : ∀ k (hk : k < l.length), ∃ S T x : Nat, goes d.next d.start (l.take k) = S ∧ S < d.next.length ∧ goes d.next d.start (l.take (k + 1)) = T ∧ x < L ∧ ∃ b off rb ro rc, lA = some ⟨b, off, none⟩ ∧ b < w.heap.size ∧ w.cell? ⟨b, off + k, none⟩ = some (.int .i64 (x : Int)) ∧
      w.cell? ⟨nb, no + S, none⟩ = some (.slice (some ⟨rb, ro, none⟩) L rc) ∧ rb < w.heap.size ∧ L ≤ rc ∧ w.cell? ⟨rb, ro + x, none⟩ = some (.int .i64 (T : Int)) := fun k hk => by
    have g1 := hgo k
    have g2 := hgo (k + 1)
    have hm := hlin _ (List.getElem_mem hk)
    obtain ⟨S, hS⟩ : ∃ S : Nat, goes d.next d.start (l.take k) = S := ⟨(goes d.next d.start (l.take k)).toNat, by omega⟩
    obtain ⟨T, hT⟩ : ∃ T : Nat, goes d.next d.start (l.take (k + 1)) = T := ⟨(goes d.next d.start (l.take (k + 1))).toNat, by omega⟩
    obtain ⟨x, hx⟩ : ∃ x : Nat, l[k] = x := ⟨l[k].toNat, by omega⟩
    have hSn : S < d.next.length := by omega
    obtain ⟨b, off, e1, e2, e3⟩ := hlcell (by omega)
    have hrow : (d.next.getD S []).length = L := by
      rw [List.getD, List.getElem?_eq_getElem hSn]; have := hok.rowlen _ (List.getElem_mem hSn); simp; omega
    obtain ⟨rb, ro, rc, q1, q2, q3, q4⟩ := Rd.at1 (hr S hSn) (by rw [hrow]; omega)
    rw [hrow] at q1 q2 q4
    refine ⟨S, T, x, hS, hSn, hT, by omega, b, off, rb, ro, rc, e1, e2, ?_, ?_, q3, q2, ?_⟩
    · rw [e3 k (by omega)]; simp [ints, List.getD, hk, hx]
    · rw [← q1]; exact hncell S hSn
    · rw [q4 x (by omega)]
      have : goes d.next d.start (l.take (k + 1)) = go1 d.next (goes d.next d.start (l.take k)) l[k] := by rw [List.take_succ_eq_append_getElem hk, goes_snoc]
      rw [hT, hS, hx, go1] at this
      simp only [Int.toNat_natCast] at this
      rw [this]; rfl
  have hend : l.take l.length = l := List.take_length
  generalize hlnn : l.length = ln at *
  generalize hnn : d.next.length = n at *
  generalize d.final.length = fn at *
  rw [hL] at H1 ⊢
  have hn40 := hok.le
  have hnpos := hok.pos
  rw [hnn] at hn40 hnpos
  have HH1 := Lib.hid H1
  have HH2 := Lib.hid H2
  have HST := Lib.hid hstep
  have HEND := Lib.hid hend
  clear H1 H2 hstep hend hgo hwr hlin hlcell hncell hr hn hok hw hL hlnn hnn
  generalize d.start = st at *
  go_enter Tryz.func60, Tryz.ntmps60
  go_wp2_with fail
  refine (HH1.out _ ((Below.refl _ _).alloc (Nat.le_refl _) _)).mono ?_
  rintro e w1 ⟨rfl, hb1⟩
  have hbx := (hb1.block _ (by simp)).trans (heap_new w (Obj.cells #[.int .i64 (L : Int), .int .i64 st, .slice (some ⟨nb, no, none⟩) n nc, .slice fA fn fc] 59))
  have hb1' : Below w.heap.size w w1 := ((Below.refl w.heap.size w).alloc (Nat.le_refl _) _).trans (hb1.mono (by simp))
  have b0 := fld_cell hbx 0
  have b2 := fld_cell hbx 2
  have bl := lt_blk hbx
  simp at b0 b2
  have H2 := HH2.out w1 hb1'
  have HBX := Lib.hid hbx
  have HB1 := Lib.hid hb1'
  clear hb1 hb1' hbx
  go_wp2_with fail
  refine H2.mono ?_
  rintro e w2 ⟨rfl, hb2⟩
  have hbx := (hb2.block _ bl).trans HBX.out
  have hb2' := HB1.out.trans (hb2.mono HB1.out.size)
  have b2' := fld_cell hbx 2
  have bl' := lt_blk hbx
  simp at b2'
  have HBX2 := Lib.hid hbx
  have HB2 := Lib.hid hb2'
  have hnw : IntKind.i64.wrap ((n : Int) - 1) = (n : Int) - 1 := IntWalk.i64_in _ (by omega)
  clear hb2 hb2' hbx H2 b0 b2 bl
  go_wp2_with fail
  refine (within_true st 0 ((n : Int) - 1) _ hst0 (by omega)).mono ?_
  rintro e w3 ⟨rfl, rfl⟩
  clear hnw
  go_wp2_with fail
  go_loop [1, 34] (fun s i => ∃ k : Nat, k ≤ ln ∧ i = .int .i64 (k : Int) ∧ s = .int .i64 (goes d.next st (l.take k))) (fun _ i => ln - (intOf i).toNat)
  case atStart => exact ⟨0, by omega, rfl, rfl⟩
  case round =>
    obtain ⟨k, hk, rfl, rfl⟩ := hrel
    by_cases hlt : k < ln
    · obtain ⟨S, T, x, hS, hSn, hT, hxL, b, off, rb, ro, rc, rfl, hb, c1, c2, hrb, hrc, c3⟩ := HST.out k hlt
      rw [hS]
      have hB := HB2.out
      have c1' := (hB.cell (p := ⟨b, off + k, none⟩) hb).trans c1
      have c2' := (hB.cell (p := ⟨nb, no + S, none⟩) hnb).trans c2
      have c3' := (hB.cell (p := ⟨rb, ro + x, none⟩) hrb).trans c3
      have z1 := lt_of_cell c1'
      have z2 := lt_of_cell c2'
      have z3 := lt_of_cell c3'
      dsimp only at z1 z2 z3
      have HT := Lib.hid hT
      clear hS hT hB c1 c2 c3
      go_wp2_with fail
      go_round
      case rel => exact ⟨k + 1, by omega, by go_num, by rw [HT.out]⟩
      case measure => simp [intOf]; omega
    · have hkl : k = ln := by omega
      have e : goes d.next st (l.take k) = goes d.next st l := by rw [hkl, HEND.out]
      rw [e]
      clear e hkl
      go_wp2_with fail
      go_ret2
      exact ⟨rfl, HB2.out⟩
end Go.Proofs.YtccknopchddicaaGreatDoor
