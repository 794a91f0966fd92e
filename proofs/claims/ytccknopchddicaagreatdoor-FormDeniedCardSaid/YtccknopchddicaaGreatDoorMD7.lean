/- contract: nfa.Mirror. -/
import Derived.Test.YtccknopchddicaaGreatDoorMD6
import Derived.Laws.AppendOwnNone
set_option linter.unusedSimpArgs false
set_option linter.unusedVariables false
set_option linter.unnecessarySimpa false
namespace Go.Proofs.YtccknopchddicaaGreatDoor
open Go.RowKit Stile
/-- the mirror that is being put together in block g -/
structure MSt (W wr : World) (g : Nat) (L n : Int) (v2 v3 v4 : Value) (st : List Int) (mv : List Mv) (fl : List Int) : Prop where
  below : Below g W wr
  blk : wr.heap[g]? = some (Obj.cells #[.int .i64 L, .int .i64 n, v2, v3, v4] 93)
  st : wr.ownsRow g 3 1 v2 st.length (st.map fun b => Value.int .i64 b)
  mv : wr.ownsRow g 127 3 v3 mv.length (mvCells mv)
  fin : wr.ownsRow g 3 1 v4 fl.length (fl.map fun b => Value.int .i64 b)
theorem MSt.move {W wr w2 : World} {g : Nat} {L n : Int} {v2 v3 v4 v3' : Value} {st : List Int} {mv : List Mv} {fl : List Int} {x : Mv} {o : Obj} (h : MSt W wr g L n v2 v3 v4 st mv fl) (hgrow : (wr.alloc o).grownBy w2 v3.ownBlock)
    (ho : w2.ownsRow g 127 3 v3' (mv.length + 1) (mvCells mv ++ [.int .i64 x.f, .int .i64 x.l, .int .i64 x.t])) : MSt W (w2.setCell ⟨g, 3, none⟩ v3') g L n v2 v3' v4 st (mv ++ [x]) fl := by
  obtain ⟨h1, h2⟩ := fld_grew (k := 3) (u := v3') h.blk h.mv hgrow ho (by decide)
  refine ⟨h.below.trans h2.below, ?_, h2.own h.blk h.st (by decide) (by decide), ?_, h2.own h.blk h.fin (by decide) (by decide)⟩
  · have := fld_set (fld_keep h.blk h.mv hgrow (by decide)) 3 v3'
    simpa using this
  · rw [mvCells_append, List.length_append]; exact h1
/-- memory that is made -/
theorem own_below {w w' : World} {base e sz n : Nat} {v : Value} {xs : List Value} (h : w.ownsRow base e sz v n xs) (hb : Below w.heap.size w w') : w'.ownsRow base e sz v n xs := by
  obtain ⟨a1, a2⟩ := h
  refine ⟨a1, ?_⟩
  rcases a2 with a2 | ⟨g, cap, cur, e, hbs, hh, r⟩
  · exact .inl a2
  · exact .inr ⟨g, cap, cur, e, hbs, (hb.block _ (lt_blk hh)).trans hh, r⟩
theorem MSt.made {W wr w2 : World} {g : Nat} {L n : Int} {v2 v3 v4 : Value} {st : List Int} {mv : List Mv} {fl : List Int} (h : MSt W wr g L n v2 v3 v4 st mv fl) (hb : Below wr.heap.size wr w2) : MSt W w2 g L n v2 v3 v4 st mv fl :=
  ⟨h.below.trans (hb.mono (Nat.le_of_lt (lt_blk h.blk))), (hb.block _ (lt_blk h.blk)).trans h.blk, own_below h.st hb, own_below h.mv hb, own_below h.fin hb⟩
theorem MSt.starts {W wr w2 : World} {g : Nat} {L n : Int} {v2' : Value} {st : List Int} (h : MSt W wr g L n (.slice none 0 0) (.slice none 0 0) (.slice none 0 0) [] [] []) (hgrow : wr.grownBy w2 none)
    (ho : w2.ownsRow g 3 1 v2' st.length (st.map fun b => Value.int .i64 b)) : MSt W (w2.setCell ⟨g, 2, none⟩ v2') g L n v2' (.slice none 0 0) (.slice none 0 0) st [] [] := by
  have hb : Below wr.heap.size wr w2 := (Below.refl _ _).grown hgrow (Nat.le_refl _) (by intro b h; cases h)
  have h2 := h.made hb
  refine ⟨h2.below.setCell (Nat.le_refl _) _, ?_, ?_, World.ownsRow_nil _ _ _ _, World.ownsRow_nil _ _ _ _⟩
  · have := fld_set h2.blk 2 v2'
    simpa using this
  · obtain ⟨a1, a2⟩ := ho
    refine ⟨a1, ?_⟩
    rcases a2 with a2 | ⟨b, cap, cur, e, hbs, hh, r⟩
    · exact .inl a2
    · exact .inr ⟨b, cap, cur, e, hbs, (Below.heap_setCell w2 _ _ _ (fun e => blk_type h2.blk hh (by decide) e.symm)).trans hh, r⟩
theorem MSt.ends {W wr w2 : World} {g : Nat} {L n : Int} {v2 v4' : Value} {st fl : List Int} (h : MSt W wr g L n v2 (.slice none 0 0) (.slice none 0 0) st [] []) (hgrow : wr.grownBy w2 none)
    (ho : w2.ownsRow g 3 1 v4' fl.length (fl.map fun b => Value.int .i64 b)) : MSt W (w2.setCell ⟨g, 4, none⟩ v4') g L n v2 (.slice none 0 0) v4' st [] fl := by
  have hb : Below wr.heap.size wr w2 := (Below.refl _ _).grown hgrow (Nat.le_refl _) (by intro b h; cases h)
  have h2 := h.made hb
  have hk : ∀ {v n xs}, w2.ownsRow g 3 1 v n xs → (w2.setCell ⟨g, 4, none⟩ v4').ownsRow g 3 1 v n xs := fun ho => by
    obtain ⟨a1, a2⟩ := ho
    refine ⟨a1, ?_⟩
    rcases a2 with a2 | ⟨b, cap, cur, e, hbs, hh, r⟩
    · exact .inl a2
    · exact .inr ⟨b, cap, cur, e, hbs, (Below.heap_setCell w2 _ _ _ (fun e => blk_type h2.blk hh (by decide) e.symm)).trans hh, r⟩
  refine ⟨h2.below.setCell (Nat.le_refl _) _, ?_, hk h2.st, World.ownsRow_nil _ _ _ _, hk ho⟩
  have := fld_set h2.blk 4 v4'
  simpa using this
/-- the cells of a list that is read -/
theorem ints_src {w : World} {b off : Nat} {l : List Int} (h : ∀ j, j < l.length * 1 → w.cell? ⟨b, off + j, none⟩ = some (ints l j)) : ∀ j u, (l.map fun b => Value.int .i64 b)[j]? = some u → w.cell? ((⟨b, off, none⟩ : Addr).add j) = some u := by
  intro j u hj
  have hlt : j < l.length := by
    rcases Nat.lt_or_ge j l.length with h | h
    · exact h
    · rw [List.getElem?_eq_none (by simpa using h)] at hj; cases hj
  have e := own_ints l j (by omega)
  rw [hj] at e
  injection e with e
  rw [e]
  have := h j (by omega)
  unfold Addr.add
  split
  · rename_i e0; subst e0; simpa using this
  · exact this
/-- an automaton whose lists lie in blocks of their own, above base -/
def NfO (w : World) (base : Nat) (nv : Value) (n : Na) : Prop :=
  ∃ sv mv fv, nv = .agg #[.int .i64 n.letters, .int .i64 n.states, sv, mv, fv] ∧ w.ownsRow base 3 1 sv n.starts.length (n.starts.map fun b => Value.int .i64 b) ∧ w.ownsRow base 127 3 mv n.moves.length (mvCells n.moves) ∧
    w.ownsRow base 3 1 fv n.final.length (n.final.map fun b => Value.int .i64 b)
theorem NfO.nfv {w : World} {base : Nat} {nv : Value} {n : Na} (h : NfO w base nv n) : NfV w w.heap.size nv n := by
  obtain ⟨sv, mv, fv, e, h1, h2, h3⟩ := h
  exact ⟨sv, mv, fv, e, Rd.of_own h1 (own_ints _), Rd.of_own h2 (mvCells_at _), Rd.of_own h3 (own_ints _)⟩
theorem NfO.set {w : World} {base b : Nat} {nv : Value} {n : Na} (h : NfO w base nv n) (hb : b < base) (k : Nat) (u : Value) : NfO (w.setCell ⟨b, k, none⟩ u) base nv n := by
  obtain ⟨sv, mv, fv, e, h1, h2, h3⟩ := h
  exact ⟨sv, mv, fv, e, own_set h1 hb k u, own_set h2 hb k u, own_set h3 hb k u⟩
set_option maxRecDepth 100000 in
set_option maxHeartbeats 4000000 in
theorem nmirror_any (nv : Value) (n : Na) (w : World) (h : NfV w w.heap.size nv n) (hok : NaOk n) (hnil : NilFin nv) (hst0 : 0 < n.starts.length) :
    Calls Tryz.prog 57 #[nv] w fun e w' => Below w.heap.size w w' ∧ ∃ nv', e = .returned (.tuple #[nv', .nilIface]) ∧ ∃ base, w.heap.size ≤ base ∧ NfO w' base nv' (nfaMirror n) := by
  have hchk := fun W hb => ncheck_ok nv n W ((NfV.below h hb).mono hb.size) hok
  obtain ⟨sv, mv, fv, rfl, hs, hm, hf⟩ := h
  have hm' := fun hp => hm.at_ hp
  obtain ⟨mA, mc, rfl, hmc, _⟩ := hm
  obtain ⟨sA, sc, rfl, hsc, hscell⟩ := hs
  obtain ⟨fA, fc, rfl, hfc, hfcell⟩ := hf
  obtain ⟨sb, soff, rfl, hsb, hscell⟩ := hscell hst0
  have hml := hok.moves
  have hsl := hok.starts
  have hfl := hok.final
  have HMV : ∀ k : Nat, k < n.moves.length → ∃ b off x y z, mA = some ⟨b, off, none⟩ ∧ b < w.heap.size ∧ w.cell? ⟨b, off + k * 3, none⟩ = some (.int .i64 x) ∧ w.cell? ⟨b, off + k * 3 + 1, none⟩ = some (.int .i64 y) ∧ w.cell? ⟨b, off + k * 3 + 2, none⟩ = some (.int .i64 z) ∧
      (n.moves.take (k + 1)).map Mv.turn = (n.moves.take k).map Mv.turn ++ [⟨z, y, x⟩] := by
    intro k hk
    obtain ⟨b, off, c, e1, _, e2, e3⟩ := hm' (by omega)
    injection e1 with e1
    obtain ⟨c1, c2, c3⟩ := e3 k (by omega)
    refine ⟨b, off, _, _, _, e1, e2, c1, c2, c3, ?_⟩
    rw [List.take_succ_eq_append_getElem hk, List.map_append]
    simp [Mv.turn, List.getD, hk]
  have HFI : fA = none ∧ n.final = [] ∧ fc = 0 ∨ ∃ ad, fA = some ad ∧ ∀ wr, Below w.heap.size w wr → ∀ j u, (n.final.map fun b => Value.int .i64 b)[j]? = some u → wr.cell? (ad.add j) = some u := by
    rcases Nat.eq_zero_or_pos n.final.length with h0 | h0
    · have h0' : n.final = [] := by simpa using h0
      cases fA with
      | none =>
        left
        rw [h0'] at hnil
        exact ⟨rfl, h0', hnil _ _ _ _ fc rfl⟩
      | some a =>
        right
        refine ⟨a, rfl, fun wr _ j u hj => ?_⟩
        rw [h0'] at hj; simp at hj
    · obtain ⟨fb, foff, h1, h2, h3⟩ := hfcell h0
      refine .inr ⟨_, h1, fun wr hb => ints_src fun j hj => (hb.cell (p := ⟨fb, foff + j, none⟩) h2).trans (h3 j hj)⟩
  have HSI : ∀ wr, Below w.heap.size w wr → ∀ j u, (n.starts.map fun b => Value.int .i64 b)[j]? = some u → wr.cell? ((⟨sb, soff, none⟩ : Addr).add j) = some u :=
    fun wr hb => ints_src fun j hj => (hb.cell (p := ⟨sb, soff + j, none⟩) hsb).trans (hscell j hj)
  have HNm : nfaMirror n = { letters := n.letters, states := n.states, starts := n.final, moves := (n.moves.take n.moves.length).map Mv.turn, final := n.starts } := by
    rw [nfaMirror, List.take_length]
  rw [HNm]
  obtain ⟨MT, hMT⟩ : ∃ MT : Nat → List Mv, MT = fun k => (n.moves.take k).map Mv.turn := ⟨_, rfl⟩
  have hMT0 : MT 0 = [] := by rw [hMT]; simp
  have hMTl : ∀ k, (MT k).length ≤ 240 := fun k => by rw [hMT]; simp; omega
  simp only [show ∀ k, (n.moves.take k).map Mv.turn = MT k from fun k => by rw [hMT]] at HMV ⊢
  clear HNm hm' hMT hfcell hscell hok hnil
  generalize hsl' : n.starts = SL at *
  generalize hfl' : n.final = FL at *
  generalize n.moves.length = NM at *
  generalize n.letters = L at *
  generalize n.states = M at *
  clear hsl' hfl'
  have QMV := Lib.hid HMV
  have QFI := Lib.hid HFI
  have QSI := Lib.hid HSI
  have QM0 := Lib.hid hMT0
  have QML := Lib.hid hMTl
  have QCHK := Lib.hid hchk
  clear HMV HFI HSI hMT0 hMTl hchk
  go_enter Tryz.func57, Tryz.ntmps57
  go_wp2_with fail
  refine (QCHK.out _ (((Below.refl _ _).alloc (Nat.le_refl _) _).alloc (by simp) _)).mono ?_
  rintro e w1 ⟨rfl, hb1⟩
  have hb1' := (((Below.refl w.heap.size w).alloc (Nat.le_refl _) (Obj.cells #[.int .i64 L, .int .i64 M, .slice (some ⟨sb, soff, none⟩) SL.length sc, .slice mA NM mc, .slice fA FL.length fc] 93)).alloc (by simp) (Obj.cells #[.int .i64 0, .int .i64 0, .slice none 0 0, .slice none 0 0, .slice none 0 0] 93))
  have hd1 : w1.heap[w.heap.size]? = some (Obj.cells #[.int .i64 L, .int .i64 M, .slice (some ⟨sb, soff, none⟩) SL.length sc, .slice mA NM mc, .slice fA FL.length fc] 93) :=
    (hb1.block _ (by simp; omega)).trans (heap_old2 w _ _)
  have hr1 : w1.heap[w.heap.size + 1]? = some (Obj.cells #[.int .i64 0, .int .i64 0, .slice none 0 0, .slice none 0 0, .slice none 0 0] 93) :=
    (hb1.block _ (by simp)).trans (heap_new2 w _ _)
  replace hb1 := hb1'.trans (hb1.mono (by simp; omega))
  have hs1 : w.heap.size + 1 < w1.heap.size := lt_blk hr1
  have hs0 : w.heap.size < w1.heap.size := by omega
  have e0 := fld_cell hd1 0
  have e1 := fld_cell hd1 1
  simp at e0 e1
  have HD1 := Lib.hid hd1
  have HR1 := Lib.hid hr1
  have HB1 := Lib.hid hb1
  clear hd1 hr1 hb1 hb1'
  go_upto_region 5 with fail
  obtain ⟨W, hW⟩ : ∃ W, w1.alloc (Obj.cells #[.int .i64 L, .int .i64 M, .slice none 0 0, .slice none 0 0, .slice none 0 0] 93) = W := ⟨_, rfl⟩
  have hg : W.heap[w1.heap.size]? = some (Obj.cells #[.int .i64 L, .int .i64 M, .slice none 0 0, .slice none 0 0, .slice none 0 0] 93) := by rw [← hW]; exact heap_new _ _
  have hbW : Below w1.heap.size w1 W := by rw [← hW]; exact (Below.refl _ _).alloc (Nat.le_refl _) _
  rw [hW]
  clear hW
  have hst : MSt W W w1.heap.size L M (.slice none 0 0) (.slice none 0 0) (.slice none 0 0) [] [] [] :=
    ⟨Below.refl _ _, hg, World.ownsRow_nil _ _ _ _, World.ownsRow_nil _ _ _ _, World.ownsRow_nil _ _ _ _⟩
  have hB0 : ∀ wr v2 v3 v4 st mv fl, MSt W wr w1.heap.size L M v2 v3 v4 st mv fl → Below w1.heap.size w1 wr := fun _ _ _ _ _ _ _ h => hbW.trans h.below
  have hB1 : ∀ wr v2 v3 v4 st mv fl, MSt W wr w1.heap.size L M v2 v3 v4 st mv fl → Below w.heap.size w wr := fun _ _ _ _ _ _ _ h => HB1.out.trans ((hB0 _ _ _ _ _ _ _ h).mono (by omega))
  have QB0 := Lib.hid hB0
  have QB1 := Lib.hid hB1
  have HST := Lib.hid hst
  have HBW := Lib.hid hbW
  have hWs : w1.heap.size < W.heap.size := lt_blk hg
  obtain ⟨i0, hi, hz0, hz1, hz2⟩ := info_parts info_mv
  obtain ⟨j0, hj, hy0, hy1, hy2⟩ := info_parts info_int
  have hcW := fun k => fld_cell hg k
  have g2 := hcW 2
  have g4 := hcW 4
  have hfW := fld_frozen hg 2
  have hd1 := (hbW.block _ hs0).trans HD1.out
  have e4 := fld_cell hd1 4
  have hdl := lt_blk hd1
  simp at g2 g4 e4
  clear hst hbW hg hB0 hB1 e0 e1 hcW hd1
  go_cut [] from 19 to 24 (fun wx => ∃ v2, MSt W wx w1.heap.size L M v2 (.slice none 0 0) (.slice none 0 0) FL [] [])
  case first =>
    rcases QFI.out with ⟨rfl, rfl, rfl⟩ | ⟨ad, rfl, had⟩
    · go_wp2_with (at_builtin; refine wpList_append_own_none rfl _ _ 23 rfl w1.heap.size 3 j0 1 Tryz.underlying23 hj _ 0 [] rfl (World.ownsRow_nil _ _ _ _) rfl ?_)
      go_meet
      exact ⟨_, MSt.starts HST.out (by exact World.grownBy.refl _ _) (World.ownsRow_nil _ _ _ _)⟩
    · have hadW := had W (QB1.out _ _ _ _ _ _ _ HST.out)
      have HAD := Lib.hid hadW
      clear hadW had
      go_wp2_with (at_builtin; refine wpList_append_own_at _ rfl _ _ 23 rfl w1.heap.size 3 j0 _ 1 8 Tryz.underlying23 hj hy0 hy1 hy2 rfl (by decide) (.slice none 0 0) 0 [] rfl (World.ownsRow_nil _ _ _ _) ad FL.length fc (FL.map fun b => Value.int .i64 b) rfl (by simp) HAD.out (by simp [Value.oneCell']) (by unfold maxLen; omega) (by omega) (by omega) ?_; intro v2 w5 hown5 hgrow5 _ _; obtain ⟨vA, vc, rfl⟩ := own_shape hown5; have hk5 := (hgrow5.block _ hWs (by simp [Value.ownBlock])).trans HST.out.blk; have hc5 := fld_cell hk5 2; simp at hc5; have hf5 := fld_frozen hk5 2; have HK5 := Lib.hid hk5; clear hk5)
      go_meet
      exact ⟨_, MSt.starts HST.out hgrow5 (by simpa using hown5)⟩
  case rest =>
    obtain ⟨v2, hs⟩ := hcut
    obtain ⟨wo, rfl⟩ : ∃ wo : World, wo = wc := ⟨_, rfl⟩
    have HS := Lib.hid hs
    have hcW := fun k => fld_cell hs.blk k
    have g2 := hcW 2
    have g4 := hcW 4
    have hfW := fld_frozen hs.blk 4
    have hglt := lt_blk hs.blk
    have hd1 := ((QB0.out _ _ _ _ _ _ _ hs).block _ hs0).trans HD1.out
    have e2 := fld_cell hd1 2
    have e3 := fld_cell hd1 3
    have hdl := lt_blk hd1
    have hsrc := QSI.out wo (QB1.out _ _ _ _ _ _ _ hs)
    have HSRC := Lib.hid hsrc
    obtain ⟨A2, C2, rfl⟩ := own_shape hs.st
    have hSL : SL.length ≤ 40 := hsl
    simp at g2 g4 e2 e3
    clear hcW hd1 hs hsrc
    go_wp2_with (at_builtin; refine wpList_append_own_at _ rfl _ _ 23 rfl w1.heap.size 3 j0 _ 1 8 Tryz.underlying23 hj hy0 hy1 hy2 rfl (by decide) (.slice none 0 0) 0 [] rfl (World.ownsRow_nil _ _ _ _) ⟨sb, soff, none⟩ SL.length sc (SL.map fun b => Value.int .i64 b) rfl (by simp) HSRC.out (by simp [Value.oneCell']) (by unfold maxLen; omega) (by omega) (by omega) ?_; intro v4 w5 hown5 hgrow5 _ _; obtain ⟨A4, C4, rfl⟩ := own_shape hown5; have hk5 := (hgrow5.block _ hglt (by simp [Value.ownBlock])).trans HS.out.blk; have hc5 := fld_cell hk5 4; simp at hc5; have hf5 := fld_frozen hk5 4; have HS5 := Lib.hid (MSt.ends HS.out hgrow5 (by simpa using hown5)); have hd5 := ((QB0.out _ _ _ _ _ _ _ (HS.out.made ((Below.refl _ _).grown hgrow5 (Nat.le_refl _) (by intro b h; cases h)))).block _ hs0).trans HD1.out; have e35 := fld_cell hd5 3; simp at e35; have hdl5 := lt_blk hd5; clear hk5 hd5)
    clear hown5 hgrow5 hc5 hf5 e2 e3 g2 g4 hfW e4 e35 hdl5 hfl hsl
    go_loopw [34] (fun i wr => ∃ (k : Nat) (v3 : Value), k ≤ NM ∧ i = .int .i64 (k : Int) ∧ MSt W wr w1.heap.size L M (.slice A2 FL.length C2) v3 (.slice A4 SL.length C4) FL (MT k) SL) (fun i _ => NM - (intOf i).toNat)
    case atStart => exact ⟨0, _, by omega, rfl, by rw [QM0.out]; exact HS5.out⟩
    case round =>
      obtain ⟨k, v3, hk, rfl, hs⟩ := hrel
      have HS := Lib.hid hs
      by_cases hlt : k < NM
      · obtain ⟨b, off, x, y, z, rfl, hb, m1, m2, m3, hmt⟩ := QMV.out k hlt
        have hb1 := QB1.out _ _ _ _ _ _ _ hs
        have m1' := (hb1.cell (p := ⟨b, off + k * 3, none⟩) hb).trans m1
        have m2' := (hb1.cell (p := ⟨b, off + k * 3 + 1, none⟩) hb).trans m2
        have m3' := (hb1.cell (p := ⟨b, off + k * 3 + 2, none⟩) hb).trans m3
        have hbl : b < wr.heap.size := Nat.lt_of_lt_of_le hb hb1.size
        have hgl := lt_blk hs.blk
        have HMT := Lib.hid hmt
        have hmtl := QML.out k
        obtain ⟨wo, rfl⟩ : ∃ wo : World, wo = wr := ⟨_, rfl⟩
        clear m1 m2 m3 hb1 hs hmt
        go_upto_region 10 with fail
        obtain ⟨w6, hw6⟩ : ∃ w6, wo.alloc (Obj.cells #[.int .i64 x, .int .i64 y, .int .i64 z] 127) = w6 := ⟨_, rfl⟩
        have hn6 : w6.heap[wo.heap.size]? = some (Obj.cells #[.int .i64 x, .int .i64 y, .int .i64 z] 127) := by rw [← hw6]; exact heap_new _ _
        have hb6 : Below wo.heap.size wo w6 := by rw [← hw6]; exact (Below.refl _ _).alloc (Nat.le_refl _) _
        rw [hw6]
        have hc6 := fun k => fld_cell hn6 k
        have c60 := hc6 0
        have c62 := hc6 2
        have f60 := fld_frozen hn6 0
        have f62 := fld_frozen hn6 2
        have hl6 := lt_blk hn6
        simp at c60 c62
        have HN6 := Lib.hid hn6
        have HB6 := Lib.hid hb6
        clear hc6 hw6 hn6 hb6 m1' m2' m3'
        go_upto_region 11 with fail
        obtain ⟨w7, hw7⟩ : ∃ w7, (w6.setCell ⟨wo.heap.size, 0, none⟩ (.int .i64 z)).setCell ⟨wo.heap.size, 2, none⟩ (.int .i64 x) = w7 := ⟨_, rfl⟩
        have hn7 : w7.heap[wo.heap.size]? = some (Obj.cells #[.int .i64 z, .int .i64 y, .int .i64 x] 127) := by
          have := fld_set (fld_set HN6.out 0 (.int .i64 z)) 2 (.int .i64 x)
          rw [hw7] at this
          simpa using this
        have hb7 : Below wo.heap.size wo w7 := by rw [← hw7]; exact (HB6.out.setCell (Nat.le_refl _) _).setCell (Nat.le_refl _) _
        rw [hw7]
        have hs7 := HS.out.made hb7
        have hc7 := fun k => fld_cell hn7 k
        have c70 := hc7 0
        have c71 := hc7 1
        have c72 := hc7 2
        have hl7 := lt_blk hn7
        have hgl7 := lt_blk hs7.blk
        have hcg := fld_cell hs7.blk 3
        have hown := hs7.mv
        obtain ⟨A3, C3, rfl⟩ := own_shape hown
        have HS7 := Lib.hid hs7
        simp at c70 c71 c72 hcg
        clear hw7 hn7 hb7 hs7 hc7 c60 c62 f60 f62
        go_wp2_with (at_builtin; refine wpList_append_own_at _ rfl _ _ 91 rfl w1.heap.size 127 i0 _ 3 24 Tryz.underlying91 hi hz0 hz1 hz2 rfl (by decide) _ (MT k).length _ rfl (hown.alloc _) ⟨w7.heap.size, 0, none⟩ 1 1 [.int .i64 z, .int .i64 y, .int .i64 x] rfl rfl (cell_three_new _ _ _ _ _) (by simp [Value.oneCell']) (by unfold maxLen; omega) (by omega) (by simp; omega) ?_; intro nv' w8 hown8 hgrow8 _ hat8; obtain ⟨g', cap', rfl⟩ := own_slice hown8; have hk8 := fld_keep HS7.out.blk hown hgrow8 (by decide); have hc8 := fld_cell hk8 3; simp at hc8; have hf8 := fld_frozen hk8 3; have HK8 := Lib.hid hk8; clear hk8)
        have hnew := MSt.move (x := ⟨z, y, x⟩) HS7.out hgrow8 hown8
        have HNEW := Lib.hid hnew
        clear hnew hown8 hgrow8 hat8 hown
        go_wp2_with fail
        go_roundw
        case rel =>
          refine ⟨k + 1, .slice (some ⟨g', 0, none⟩) ((MT k).length + 1) cap', by omega, by go_num, ?_⟩
          rw [HMT.out]
          exact HNEW.out
        case measure => simp [intOf]; omega
      · have hr1 := ((QB0.out _ _ _ _ _ _ _ hs).block _ hs1).trans HR1.out
        have hfz := fun k => fld_frozen hr1 k
        have hc := fun k => fld_cell hr1 k
        have hd := fun k => fld_cell hs.blk k
        have e0 := hc 0
        have e1 := hc 1
        have e2 := hc 2
        have e3 := hc 3
        have e4 := hc 4
        have f0 := hfz 0
        have f1 := hfz 1
        have f2 := hfz 2
        have f3 := hfz 3
        have f4 := hfz 4
        have d0 := hd 0
        have d1 := hd 1
        have d2 := hd 2
        have d3 := hd 3
        have d4 := hd 4
        have hkn : k = NM := by omega
        subst hkn
        obtain ⟨vA, vc, rfl⟩ := own_shape hs.mv
        have hgl := lt_blk hs.blk
        have hrl := lt_blk hr1
        have HR2 := Lib.hid hr1
        simp at e0 e1 e2 e3 e4 d0 d1 d2 d3 d4
        clear hc hfz hd hs hr1
        go_wp2_with fail
        refine bodyPost_ret (v := .tuple #[.agg #[.int .i64 L, .int .i64 M, .slice A2 FL.length C2, .slice vA (MT k).length vc, .slice A4 SL.length C4], .nilIface]) (by simp [results, Tryz.results57, go_sem, e0, e1, e2, e3, e4]) rfl ⟨?_, _, rfl, ?_⟩
        · exact (((((QB1.out _ _ _ _ _ _ _ HS.out).setCell (by simp) _).setCell (by simp) _).setCell (by simp) _).setCell (by simp) _).setCell (by simp) _
        · have hs := HS.out
          have ho : ∀ {e sz n v xs}, wr.ownsRow w1.heap.size e sz v n xs → _ := fun {e sz n v xs} h => own_set (own_set (own_set (own_set (own_set h hs1 0 (.int .i64 L)) hs1 1 (.int .i64 M)) hs1 2 (.slice A2 FL.length C2)) hs1 3 (.slice vA (MT k).length vc)) hs1 4 (.slice A4 SL.length C4)
          exact ⟨w1.heap.size, by omega, _, _, _, rfl, ho hs.st, ho hs.mv, ho hs.fin⟩
end Go.Proofs.YtccknopchddicaaGreatDoor
