/- contract: nfa.Of. -/
import Derived.Test.YtccknopchddicaaGreatDoorMD4
set_option linter.unusedSimpArgs false
set_option linter.unusedVariables false
set_option linter.unnecessarySimpa false
namespace Go.Proofs.YtccknopchddicaaGreatDoor
open Go.RowKit Stile
theorem rowMoves_append (s : Int) : ∀ (a b : List Int) (i : Int), rowMoves s i (a ++ b) = rowMoves s i a ++ rowMoves s (i + a.length) b
  | [], b, i => by simp [rowMoves]
  | x :: a, b, i => by
    have e : i + ((x :: a).length : Int) = i + 1 + (a.length : Int) := by simp; omega
    rw [List.cons_append, rowMoves, rowMoves, e, rowMoves_append s a b (i + 1), List.cons_append]
theorem nextMoves_append : ∀ (a b : List (List Int)) (s : Int), nextMoves s (a ++ b) = nextMoves s a ++ nextMoves (s + a.length) b
  | [], b, s => by simp [nextMoves]
  | x :: a, b, s => by
    have e : s + ((x :: a).length : Int) = s + 1 + (a.length : Int) := by simp; omega
    rw [List.cons_append, nextMoves, nextMoves, e, nextMoves_append a b (s + 1), List.append_assoc]
theorem finals_append : ∀ (a b : List Bool) (s : Int), finals s (a ++ b) = finals s a ++ finals (s + a.length) b
  | [], b, s => by simp [finals]
  | x :: a, b, s => by
    have e : s + ((x :: a).length : Int) = s + 1 + (a.length : Int) := by simp; omega
    rw [List.cons_append, finals, finals, e, finals_append a b (s + 1), List.append_assoc]
theorem rowMoves_take (s : Int) (row : List Int) (k : Nat) (h : k < row.length) : rowMoves s 0 (row.take (k + 1)) = rowMoves s 0 (row.take k) ++ [⟨s, k, row.getD k 0⟩] := by
  rw [List.take_succ_eq_append_getElem h, rowMoves_append]
  simp [rowMoves, List.getD, h]; omega
theorem nextMoves_take (next : List (List Int)) (k : Nat) (h : k < next.length) : nextMoves 0 (next.take (k + 1)) = nextMoves 0 (next.take k) ++ rowMoves k 0 (next.getD k []) := by
  rw [List.take_succ_eq_append_getElem h, nextMoves_append]
  simp [nextMoves, List.getD, h, Nat.min_eq_left (Nat.le_of_lt h)]
theorem finals_take (l : List Bool) (k : Nat) (h : k < l.length) : finals 0 (l.take (k + 1)) = finals 0 (l.take k) ++ (if l.getD k false then [(k : Int)] else []) := by
  rw [List.take_succ_eq_append_getElem h, finals_append]
  simp [finals, List.getD, h, Nat.min_eq_left (Nat.le_of_lt h)]
theorem rowMoves_len (s : Int) : ∀ (row : List Int) (i : Int), (rowMoves s i row).length = row.length
  | [], _ => rfl
  | x :: row, i => by rw [rowMoves, List.length_cons, List.length_cons, rowMoves_len s row]
theorem nextMoves_len (L : Nat) : ∀ (next : List (List Int)) (s : Int), (∀ row ∈ next, row.length = L) → (nextMoves s next).length = next.length * L
  | [], _, _ => by simp [nextMoves]
  | row :: next, s, h => by
    rw [nextMoves, List.length_append, rowMoves_len, nextMoves_len L next (s + 1) (fun r hr => h r (List.mem_cons_of_mem _ hr)), h row List.mem_cons_self, List.length_cons, Nat.succ_mul]
    omega
theorem finals_len : ∀ (l : List Bool) (s : Int), (finals s l).length ≤ l.length
  | [], _ => by simp [finals]
  | b :: l, s => by
    rw [finals, List.length_append, List.length_cons]
    have := finals_len l (s + 1)
    cases b <;> simp <;> omega

def mvCells : List Mv → List Value
  | [] => []
  | m :: l => .int .i64 m.f :: .int .i64 m.l :: .int .i64 m.t :: mvCells l
theorem mvCells_append : ∀ a b : List Mv, mvCells (a ++ b) = mvCells a ++ mvCells b
  | [], b => rfl
  | x :: a, b => by simp [mvCells, mvCells_append a b]
theorem mvCells_at : ∀ (l : List Mv) (j : Nat), j < l.length * 3 → (mvCells l)[j]? = some (mvs l j)
  | [], j, h => by simp at h
  | x :: l, j, h => by
    match j with
    | 0 => simp [mvCells, mvs]
    | 1 => simp [mvCells, mvs]
    | 2 => simp [mvCells, mvs]
    | j + 3 =>
      have := mvCells_at l j (by simp at h; omega)
      simp only [mvCells, List.getElem?_cons_succ, this]
      unfold mvs
      have e1 : (j + 3) % 3 = j % 3 := by omega
      have e2 : (j + 3) / 3 = j / 3 + 1 := by omega
      rw [e1, e2]; simp [List.getD]
theorem cell_three_new (w : World) (x y z : Value) (t : TypeId) : ∀ j u, [x, y, z][j]? = some u → (w.alloc (.cells #[x, y, z] t)).cell? ((⟨w.heap.size, 0, none⟩ : Addr).add j) = some u := by
  intro j u hj
  have hc := fld_cell (heap_new w (Obj.cells #[x, y, z] t))
  match j, hj with
  | 0, hj => have := hc 0; simp at hj this; subst hj; simp [Addr.add, this]
  | 1, hj => have := hc 1; simp at hj this; subst hj; simp [Addr.add, this]
  | 2, hj => have := hc 2; simp at hj this; subst hj; simp [Addr.add, this]
theorem info_mv : (Tryz.prog.info? 127).map (fun i => (i.zero, i.size, i.bytes)) = some (some (.agg #[.int .i64 0, .int .i64 0, .int .i64 0]), 3, 24) := by kernel_rfl
theorem own_ints (l : List Int) (j : Nat) (hj : j < l.length * 1) : (l.map fun b => Value.int .i64 b)[j]? = some (ints l j) := by
  simp at hj
  simp [ints, List.getD, hj]

theorem own_shape {w : World} {base e sz n : Nat} {v : Value} {xs : List Value} (h : w.ownsRow base e sz v n xs) : ∃ A c, v = .slice A n c := by
  rcases h.2 with ⟨e, e2⟩ | ⟨g, cap, cur, e, _⟩
  · exact ⟨none, 0, by rw [e, e2]⟩
  · exact ⟨_, cap, e⟩
/-- an automaton that is being put together in block g -/
structure NfSt (W wr : World) (g : Nat) (L n : Int) (sv v3 v4 : Value) (mv : List Mv) (fl : List Int) : Prop where
  below : Below g W wr
  blk : wr.heap[g]? = some (Obj.cells #[.int .i64 L, .int .i64 n, sv, v3, v4] 93)
  mv : wr.ownsRow g 127 3 v3 mv.length (mvCells mv)
  fin : wr.ownsRow g 3 1 v4 fl.length (fl.map fun b => Value.int .i64 b)
theorem NfSt.move {W wr w2 : World} {g : Nat} {L n : Int} {sv v3 v4 v3' : Value} {mv : List Mv} {fl : List Int} {x : Mv} {o : Obj} (h : NfSt W wr g L n sv v3 v4 mv fl) (hgrow : (wr.alloc o).grownBy w2 v3.ownBlock)
    (ho : w2.ownsRow g 127 3 v3' (mv.length + 1) (mvCells mv ++ [.int .i64 x.f, .int .i64 x.l, .int .i64 x.t])) : NfSt W (w2.setCell ⟨g, 3, none⟩ v3') g L n sv v3' v4 (mv ++ [x]) fl := by
  obtain ⟨h1, h2⟩ := fld_grew (k := 3) (u := v3') h.blk h.mv hgrow ho (by decide)
  refine ⟨h.below.trans h2.below, ?_, ?_, h2.own h.blk h.fin (by decide) (by decide)⟩
  · have := fld_set (fld_keep h.blk h.mv hgrow (by decide)) 3 v3'
    simpa using this
  · rw [mvCells_append, List.length_append]; exact h1
theorem NfSt.final {W wr w2 : World} {g : Nat} {L n : Int} {sv v3 v4 v4' : Value} {mv : List Mv} {fl : List Int} {x : Int} {o : Obj} (h : NfSt W wr g L n sv v3 v4 mv fl) (hgrow : (wr.alloc o).grownBy w2 v4.ownBlock)
    (ho : w2.ownsRow g 3 1 v4' (fl.length + 1) ((fl.map fun b => Value.int .i64 b) ++ [.int .i64 x])) : NfSt W (w2.setCell ⟨g, 4, none⟩ v4') g L n sv v3 v4' mv (fl ++ [x]) := by
  obtain ⟨h1, h2⟩ := fld_grew (k := 4) (u := v4') h.blk h.fin hgrow ho (by decide)
  refine ⟨h.below.trans h2.below, ?_, h2.own h.blk h.mv (by decide) (by decide), ?_⟩
  · have := fld_set (fld_keep h.blk h.fin hgrow (by decide)) 4 v4'
    simpa using this
  · rw [List.map_append, List.length_append]; exact h1
/-- where the list of final states is nil it has no room -/
def NilFin (nv : Value) : Prop := ∀ l s sv mv c, nv = .agg #[l, s, sv, mv, .slice none 0 c] → c = 0
theorem own_nil0 {w : World} {base e sz n c : Nat} {xs : List Value} (h : w.ownsRow base e sz (.slice none n c) n xs) : c = 0 := by
  rcases h.2 with ⟨e, _⟩ | ⟨g, cap, cur, e, _⟩
  · injection e
  · cases e
set_option maxRecDepth 100000 in
set_option maxHeartbeats 4000000 in
theorem nof_any (dv : Value) (d : Da) (w : World) (h : DfV w w.heap.size dv d) (hok : DaOk d) :
    Calls Tryz.prog 56 #[dv] w fun e w' => Below w.heap.size w w' ∧ ∃ nv, e = .returned (.tuple #[nv, .nilIface]) ∧ NfV w' w'.heap.size nv (nfaOf d) ∧ NilFin nv := by
  have hchk := fun W hb => dcheck_ok dv d W ((DfV.below h hb).mono hb.size) hok
  obtain ⟨nv, fv, rfl, ⟨rv, hn, hr⟩, hf⟩ := h
  obtain ⟨L, hL⟩ : ∃ L : Nat, d.letters = (L : Int) := ⟨d.letters.toNat, by have := hok.let1; omega⟩
  have hL6 : L ≤ 6 := by have := hok.let6; omega
  have hn40 := hok.le
  have hlf := hok.lenF
  have hrl : ∀ row ∈ d.next, row.length = L := fun row h => by have := hok.rowlen row h; omega
  obtain ⟨nA, nc, rfl, hnc, hncell⟩ := hn
  obtain ⟨fA, fc, rfl, hfc, hfcell⟩ := hf
  have HN : ∀ m : Nat, m < d.next.length → ∃ b off rA rc, nA = some ⟨b, off, none⟩ ∧ b < w.heap.size ∧ w.cell? ⟨b, off + m, none⟩ = some (.slice rA L rc) ∧ L ≤ rc ∧ (d.next.getD m []).length = L ∧
      ∀ k : Nat, k < L → ∃ b2 off2 x, rA = some ⟨b2, off2, none⟩ ∧ b2 < w.heap.size ∧ w.cell? ⟨b2, off2 + k, none⟩ = some (.int .i64 x) ∧ (d.next.getD m []).getD k 0 = x := by
    intro m hm
    obtain ⟨b, off, h1, h2, h3⟩ := hncell (by omega)
    obtain ⟨rA, rc, e1, e2, e3⟩ := hr m hm
    have hlen : (d.next.getD m []).length = L := by rw [List.getD, List.getElem?_eq_getElem hm]; exact hrl _ (List.getElem_mem hm)
    refine ⟨b, off, rA, rc, h1, h2, ?_, by omega, hlen, fun k hk => ?_⟩
    · rw [h3 m (by omega), e1, hlen]
    · obtain ⟨b2, off2, q1, q2, q3⟩ := e3 (by omega)
      exact ⟨b2, off2, _, q1, q2, q3 k (by omega), rfl⟩
  have HF : ∀ m : Nat, m < d.next.length → ∃ b off bb, fA = some ⟨b, off, none⟩ ∧ b < w.heap.size ∧ w.cell? ⟨b, off + m, none⟩ = some (.bool bb) ∧ d.final.getD m false = bb := by
    intro m hm
    obtain ⟨b, off, h1, h2, h3⟩ := hfcell (by omega)
    exact ⟨b, off, _, h1, h2, h3 m (by omega), rfl⟩
  have HMT := fun m h => nextMoves_take d.next m h
  have HRT := fun (s : Int) (row : List Int) k h => rowMoves_take s row k h
  have HFT := fun m (h : m < d.next.length) => finals_take d.final m (by omega)
  have HML : ∀ m : Nat, (nextMoves 0 (d.next.take m)).length ≤ 240 := fun m => by
    rw [nextMoves_len L _ _ (fun row h => hrl row (List.mem_of_mem_take h)), List.length_take]
    have h1 : min m d.next.length ≤ 40 := by omega
    calc min m d.next.length * L ≤ 40 * 6 := Nat.mul_le_mul h1 hL6
      _ = 240 := rfl
  have HFL : ∀ m : Nat, (finals 0 (d.final.take m)).length ≤ 40 := fun m => by
    have := finals_len (d.final.take m) 0
    rw [List.length_take] at this; omega
  have HNof : nfaOf d = { letters := d.letters, states := d.next.length, starts := [d.start], moves := nextMoves 0 (d.next.take d.next.length), final := finals 0 (d.final.take d.next.length) } := by
    rw [nfaOf, List.take_length, ← hlf, List.take_length]
  rw [HNof]
  generalize hdl : d.letters = DL at *
  generalize d.start = DS at *
  generalize hnl : d.next.length = n at *
  rw [hlf] at hchk hfc ⊢
  have QN := Lib.hid HN
  have QF := Lib.hid HF
  have QMT := Lib.hid HMT
  have QRT := Lib.hid HRT
  have QFT := Lib.hid HFT
  have QML := Lib.hid HML
  have QFL := Lib.hid HFL
  have QCHK := Lib.hid hchk
  clear HN HF HMT HRT HFT HML HFL hchk HNof hncell hfcell hr hrl hok hL hdl hnl hlf
  go_enter Tryz.func56, Tryz.ntmps56
  go_wp2_with fail
  refine (QCHK.out _ (((Below.refl _ _).alloc (Nat.le_refl _) _).alloc (by simp) _)).mono ?_
  rintro e w1 ⟨rfl, hb1⟩
  have hb1' := (((Below.refl w.heap.size w).alloc (Nat.le_refl _) (Obj.cells #[.int .i64 DL, .int .i64 DS, .slice nA n nc, .slice fA n fc] 59)).alloc (by simp) (Obj.cells #[.int .i64 0, .int .i64 0, .slice none 0 0, .slice none 0 0, .slice none 0 0] 93))
  have hd1 : w1.heap[w.heap.size]? = some (Obj.cells #[.int .i64 DL, .int .i64 DS, .slice nA n nc, .slice fA n fc] 59) :=
    (hb1.block _ (by simp; omega)).trans (heap_old2 w _ _)
  have hr1 : w1.heap[w.heap.size + 1]? = some (Obj.cells #[.int .i64 0, .int .i64 0, .slice none 0 0, .slice none 0 0, .slice none 0 0] 93) :=
    (hb1.block _ (by simp)).trans (heap_new2 w _ _)
  replace hb1 := hb1'.trans (hb1.mono (by simp; omega))
  have hs1 : w.heap.size + 1 < w1.heap.size := lt_blk hr1
  have hs0 : w.heap.size < w1.heap.size := by omega
  have e0 := fld_cell hd1 0
  have e1 := fld_cell hd1 1
  have e2 := fld_cell hd1 2
  have e3 := fld_cell hd1 3
  simp at e0 e1 e2 e3
  have HD1 := Lib.hid hd1
  have HR1 := Lib.hid hr1
  have HB1 := Lib.hid hb1
  clear hd1 hr1 hb1 hb1'
  go_wp2_with fail
  obtain ⟨W, hW⟩ : ∃ W, (w1.alloc (Obj.cells #[.int .i64 DS] 3)).alloc (Obj.cells #[.int .i64 DL, .int .i64 n, .slice (some ⟨w1.heap.size, 0, none⟩) 1 1, .slice none 0 0, .slice none 0 0] 93) = W := ⟨_, rfl⟩
  have hg : W.heap[w1.heap.size + 1]? = some (Obj.cells #[.int .i64 DL, .int .i64 n, .slice (some ⟨w1.heap.size, 0, none⟩) 1 1, .slice none 0 0, .slice none 0 0] 93) := by rw [← hW]; exact heap_new2 _ _ _
  have hsb : W.heap[w1.heap.size]? = some (Obj.cells #[.int .i64 DS] 3) := by rw [← hW]; exact heap_old2 _ _ _
  have hbW : Below w1.heap.size w1 W := by rw [← hW]; exact ((Below.refl _ _).alloc (Nat.le_refl _) _).alloc (by simp) _
  rw [hW]
  clear hW
  have hst : NfSt W W (w1.heap.size + 1) DL n (.slice (some ⟨w1.heap.size, 0, none⟩) 1 1) (.slice none 0 0) (.slice none 0 0) [] [] :=
    ⟨Below.refl _ _, hg, World.ownsRow_nil _ _ _ _, World.ownsRow_nil _ _ _ _⟩
  have HST := Lib.hid hst
  have HSB := Lib.hid hsb
  have HBW := Lib.hid hbW
  have hWs : w1.heap.size + 1 < W.heap.size := lt_blk hg
  clear hst hsb hbW hg e0 e1 e2 e3
  -- a cell of the given value, seen later
  have hB0 : ∀ wr v3 v4 mv fl, NfSt W wr (w1.heap.size + 1) DL n (.slice (some ⟨w1.heap.size, 0, none⟩) 1 1) v3 v4 mv fl → Below w1.heap.size w1 wr := fun _ _ _ _ _ h => HBW.out.trans (h.below.mono (by omega))
  have hB1 : ∀ wr v3 v4 mv fl, NfSt W wr (w1.heap.size + 1) DL n (.slice (some ⟨w1.heap.size, 0, none⟩) 1 1) v3 v4 mv fl → Below w.heap.size w wr := fun _ _ _ _ _ h => HB1.out.trans ((hB0 _ _ _ _ _ h).mono (by omega))
  have QB0 := Lib.hid hB0
  have QB1 := Lib.hid hB1
  clear hB0 hB1
  obtain ⟨i0, hi, hz0, hz1, hz2⟩ := info_parts info_mv
  obtain ⟨j0, hj, hy0, hy1, hy2⟩ := info_parts info_int
  generalize hgb : w1.heap.size + 1 = g at *
  have HGB := Lib.hid hgb
  clear hgb
  go_loopw [28] (fun i wr => ∃ (m : Nat) (v3 v4 : Value) (mv : List Mv) (fl : List Int), m ≤ n ∧ i = .int .i64 (m : Int) ∧ NfSt W wr g DL n (.slice (some ⟨w1.heap.size, 0, none⟩) 1 1) v3 v4 mv fl ∧
    mv = nextMoves 0 (d.next.take m) ∧ fl = finals 0 (d.final.take m)) (fun i _ => n - (intOf i).toNat)
  case atStart => exact ⟨0, _, _, [], [], by omega, rfl, HST.out, by simp [nextMoves], by simp [finals]⟩
  case round =>
    obtain ⟨m, v3, v4, mv, fl, hm, rfl, hs, hmv, hfl⟩ := hrel
    have HS := Lib.hid hs
    have HMV := Lib.hid hmv
    have HFL := Lib.hid hfl
    clear hs hmv hfl
    by_cases hlt : m < n
    · obtain ⟨b, off, rA, rc, rfl, hb, hc, hrc, hrlen, hrow⟩ := QN.out m hlt
      have hc' := ((QB1.out _ _ _ _ _ HS.out).cell (p := ⟨b, off + m, none⟩) hb).trans hc
      have hbl : b < wr.heap.size := Nat.lt_of_lt_of_le hb (QB1.out _ _ _ _ _ HS.out).size
      have HROW := Lib.hid hrow
      have HRLEN := Lib.hid hrlen
      obtain ⟨wo, rfl⟩ : ∃ wo : World, wo = wr := ⟨_, rfl⟩
      clear hc hrow hrlen
      go_wp2_with fail
      go_loopw [35] (fun i wr => ∃ (k : Nat) (v3 : Value) (mv' : List Mv), k ≤ L ∧ i = .int .i64 (k : Int) ∧ NfSt W wr g DL n (.slice (some ⟨w1.heap.size, 0, none⟩) 1 1) v3 v4 mv' fl ∧
        mv' = mv ++ rowMoves m 0 ((d.next.getD m []).take k)) (fun i _ => L - (intOf i).toNat)
      case atStart => exact ⟨0, _, mv, by omega, rfl, HS.out, by simp [rowMoves]⟩
      case round =>
        obtain ⟨k, v3', mv', hk, rfl, hs', hmv'⟩ := hrel
        have HS' := Lib.hid hs'
        have HMV' := Lib.hid hmv'
        by_cases hltk : k < L
        · obtain ⟨b2, off2, x, rfl, hb2, hx, hxe⟩ := HROW.out k hltk
          have hx' := ((QB1.out _ _ _ _ _ hs').cell (p := ⟨b2, off2 + k, none⟩) hb2).trans hx
          have hbl2 : b2 < wr.heap.size := Nat.lt_of_lt_of_le hb2 (QB1.out _ _ _ _ _ hs').size
          have hlen : mv'.length ≤ 250 := by
            rw [hmv', List.length_append, rowMoves_len, List.length_take, HMV.out]
            have := QML.out m; omega
          have hc3 := fld_cell hs'.blk 3
          have hown := hs'.mv
          have hgl := lt_blk hs'.blk
          obtain ⟨vA, vc, rfl⟩ := own_shape hown
          have HXE := Lib.hid hxe
          simp at hc3
          clear hx hs' hmv' hxe
          go_wp2_with (at_builtin; refine wpList_append_own_at _ rfl _ _ 91 rfl g 127 i0 _ 3 24 Tryz.underlying91 hi hz0 hz1 hz2 rfl (by decide) _ mv'.length _ rfl (hown.alloc _) ⟨wr.heap.size, 0, none⟩ 1 1 [.int .i64 m, .int .i64 k, .int .i64 x] rfl rfl (cell_three_new _ _ _ _ _) (by simp [Value.oneCell']) (by unfold maxLen; omega) (by omega) (by simp; omega) ?_; intro nv' w5 hown5 hgrow5 _ hat5; obtain ⟨g', cap', rfl⟩ := own_slice hown5; have hk5 := fld_keep HS'.out.blk hown hgrow5 (by decide); have hc5 := fld_cell hk5 3; simp at hc5; have hf5 := fld_frozen hk5 3; have HK5 := Lib.hid hk5; clear hk5)
          have hnew := NfSt.move (x := ⟨m, k, x⟩) HS'.out hgrow5 hown5
          have HNEW := Lib.hid hnew
          clear hnew hown5 hgrow5 hat5 hown
          go_wp2_with fail
          go_roundw
          case rel =>
            refine ⟨k + 1, _, _, by omega, by go_num, HNEW.out, ?_⟩
            rw [HMV'.out, QRT.out m _ k (by rw [HRLEN.out]; exact hltk), HXE.out, List.append_assoc]
          case measure => simp [intOf]; omega
        · have hfull : mv' = nextMoves 0 (d.next.take (m + 1)) := by
            rw [hmv', QMT.out m hlt, HMV.out, List.take_of_length_le (l := d.next.getD m []) (by rw [HRLEN.out]; omega)]
          obtain ⟨fb, foff, bb, rfl, hfb, hfc', hbb⟩ := QF.out m hlt
          have hfc2 := ((QB1.out _ _ _ _ _ hs').cell (p := ⟨fb, foff + m, none⟩) hfb).trans hfc'
          have hfbl : fb < wr.heap.size := Nat.lt_of_lt_of_le hfb (QB1.out _ _ _ _ _ hs').size
          have hd1 := ((QB0.out _ _ _ _ _ hs').block _ hs0).trans HD1.out
          have e3 := fld_cell hd1 3
          have hdl := lt_blk hd1
          have hc4 := fld_cell hs'.blk 4
          have hown := hs'.fin
          have hgl := lt_blk hs'.blk
          have hfl := QFT.out m hlt
          rw [hbb] at hfl
          have HFL2 := Lib.hid hfl
          have HFULL := Lib.hid hfull
          have hflen : fl.length ≤ 40 := by rw [HFL.out]; exact QFL.out m
          obtain ⟨vA, vc, rfl⟩ := own_shape hown
          simp at e3 hc4
          clear hfc' hbb hfull hmv' hs' hd1 hfl
          cases bb
          · go_wp2_with fail
            go_roundw
            case rel =>
              refine ⟨m + 1, _, _, _, _, by omega, by go_num, HS'.out, HFULL.out, ?_⟩
              have := HFL2.out
              rw [HFL.out, this]; simp
            case measure => simp [intOf]; omega
          · go_wp2_with (at_builtin; refine wpList_append_own_at _ rfl _ _ 23 rfl g 3 j0 _ 1 8 Tryz.underlying23 hj hy0 hy1 hy2 rfl (by decide) _ fl.length _ rfl (hown.alloc _) ⟨wr.heap.size, 0, none⟩ 1 1 [.int .i64 m] rfl rfl (cell_one_new _ _ _) (by simp [Value.oneCell']) (by unfold maxLen; omega) (by omega) (by simp; omega) ?_; intro nv' w5 hown5 hgrow5 _ hat5; obtain ⟨g', cap', rfl⟩ := own_slice hown5; have hk5 := fld_keep HS'.out.blk hown hgrow5 (by decide); have hc5 := fld_cell hk5 4; simp at hc5; have hf5 := fld_frozen hk5 4; have HK5 := Lib.hid hk5; clear hk5)
            have hnew := NfSt.final (x := m) HS'.out hgrow5 hown5
            have HNEW := Lib.hid hnew
            clear hnew hown5 hgrow5 hat5 hown
            go_wp2_with fail
            go_roundw
            case rel =>
              refine ⟨m + 1, _, _, _, _, by omega, by go_num, HNEW.out, HFULL.out, ?_⟩
              have := HFL2.out
              rw [HFL.out, this]; simp
            case measure => simp [intOf]; omega
    · have hs := HS.out
      have hr1 := ((QB0.out _ _ _ _ _ hs).block _ hs1).trans HR1.out
      have hfz := fun k => fld_frozen hr1 k
      have hc := fun k => fld_cell hr1 k
      have hd := fun k => fld_cell hs.blk k
      have e0 := hc 0
      have e1 := hc 1
      have e2 := hc 2
      have e3 := hc 3
      have e4 := hc 4
      have f0 := hfz 0
      have f1 := hfz 1
      have f2 := hfz 2
      have f3 := hfz 3
      have f4 := hfz 4
      have d0 := hd 0
      have d1 := hd 1
      have d2 := hd 2
      have d3 := hd 3
      have d4 := hd 4
      obtain ⟨vA, vc, rfl⟩ := own_shape hs.mv
      obtain ⟨uA, uc, rfl⟩ := own_shape hs.fin
      have hgl := lt_blk hs.blk
      have hrl := lt_blk hr1
      have HR2 := Lib.hid hr1
      simp at e0 e1 e2 e3 e4 d0 d1 d2 d3 d4
      clear hc hfz hd hs hr1
      go_wp2_with fail
      have hmn : m = n := by omega
      refine bodyPost_ret (v := .tuple #[.agg #[.int .i64 DL, .int .i64 n, .slice (some ⟨w1.heap.size, 0, none⟩) 1 1, .slice vA mv.length vc, .slice uA fl.length uc], .nilIface]) (by simp [results, Tryz.results56, go_sem, e0, e1, e2, e3, e4]) rfl ⟨?_, _, rfl, ?_⟩
      · exact (((((QB1.out _ _ _ _ _ HS.out).setCell (by simp) _).setCell (by simp) _).setCell (by simp) _).setCell (by simp) _).setCell (by simp) _
      · have hs := HS.out
        have hne : w.heap.size + 1 < g := by have := HGB.out; omega
        have hsbw := (hs.below.block w1.heap.size (by have := HGB.out; omega)).trans HSB.out
        have hm1 := own_set (own_set (own_set (own_set (own_set hs.mv hne 0 (.int .i64 DL)) hne 1 (.int .i64 n)) hne 2 (.slice (some ⟨w1.heap.size, 0, none⟩) 1 1)) hne 3 (.slice vA mv.length vc)) hne 4 (.slice uA fl.length uc)
        have hf1 := own_set (own_set (own_set (own_set (own_set hs.fin hne 0 (.int .i64 DL)) hne 1 (.int .i64 n)) hne 2 (.slice (some ⟨w1.heap.size, 0, none⟩) 1 1)) hne 3 (.slice vA mv.length vc)) hne 4 (.slice uA fl.length uc)
        have hlt2 : w1.heap.size < wr.heap.size := lt_blk hsbw
        have hmv := HMV.out
        have hfl := HFL.out
        rw [hmn] at hmv hfl
        subst hmv
        subst hfl
        refine ⟨⟨.slice (some ⟨w1.heap.size, 0, none⟩) 1 1, _, _, rfl, ?_, ?_, ?_⟩, ?_⟩
        · refine ⟨_, 1, rfl, by simp, fun _ => ⟨w1.heap.size, 0, rfl, by simp; omega, fun j hj => ?_⟩⟩
          have hj0 : j = 0 := by simp at hj; omega
          subst hj0
          have hq : ∀ (X : World) k u, X.heap[w1.heap.size]? = some (Obj.cells #[.int .i64 DS] 3) → (X.setCell ⟨w.heap.size + 1, k, none⟩ u).heap[w1.heap.size]? = some (Obj.cells #[.int .i64 DS] 3) := fun X k u hX => (Below.heap_setCell X _ u _ (by simp; omega)).trans hX
          have h5 := hq _ 4 (.slice uA (finals 0 (d.final.take n)).length uc) (hq _ 3 (.slice vA (nextMoves 0 (d.next.take n)).length vc) (hq _ 2 (.slice (some ⟨w1.heap.size, 0, none⟩) 1 1) (hq _ 1 (.int .i64 n) (hq _ 0 (.int .i64 DL) hsbw))))
          have := fld_cell h5 0
          simpa [ints] using this
        · exact Rd.of_own hm1 (mvCells_at _)
        · exact Rd.of_own hf1 (own_ints _)
        · intro l s sv mv c e
          injection e with e
          have e5 : Value.slice uA (finals 0 (d.final.take n)).length uc = .slice none 0 c := by
            have := congrArg (fun a : Array Value => a[4]?) e
            simpa using this
          have h0 := hs.fin
          injection e5 with e6 e7 e8
          rw [e6, e7, e8] at h0
          exact own_nil0 h0
end Go.Proofs.YtccknopchddicaaGreatDoor
