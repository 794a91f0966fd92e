/- contracts: nfa.Make's step, nfa.Make. -/
import Derived.Test.YtccknopchddicaaGreatDoorMD3
import Derived.Test.YtccknopchddicaaGreatDoorMGc
import Derived.Test.YtccknopchddicaaGreatDoorMGd
import Derived.Deep.RegionHeld3
import Derived.Deep.DeepCutAuto
set_option linter.unusedSimpArgs false
set_option linter.unusedVariables false
set_option linter.unnecessarySimpa false
namespace Go.Proofs.YtccknopchddicaaGreatDoor
open Go.RowKit Stile
/-- the automaton lies in the block pn -/
structure NfAt (w : World) (pn : Nat) (L M : Int) (sv mv fv : Value) : Prop where
  c0 : w.cell? ⟨pn, 0, none⟩ = some (.int .i64 L)
  c1 : w.cell? ⟨pn, 1, none⟩ = some (.int .i64 M)
  c2 : w.cell? ⟨pn, 2, none⟩ = some sv
  c3 : w.cell? ⟨pn, 3, none⟩ = some mv
  c4 : w.cell? ⟨pn, 4, none⟩ = some fv
  lt : pn < w.heap.size
theorem NfAt.below {w w' : World} {pn B : Nat} {L M : Int} {sv mv fv : Value} (h : NfAt w pn L M sv mv fv) (hb : Below B w w') (hlt : pn < B) : NfAt w' pn L M sv mv fv :=
  ⟨(hb.cell (p := ⟨pn, 0, none⟩) hlt).trans h.c0, (hb.cell (p := ⟨pn, 1, none⟩) hlt).trans h.c1, (hb.cell (p := ⟨pn, 2, none⟩) hlt).trans h.c2,
    (hb.cell (p := ⟨pn, 3, none⟩) hlt).trans h.c3, (hb.cell (p := ⟨pn, 4, none⟩) hlt).trans h.c4, Nat.lt_of_lt_of_le h.lt hb.size⟩

theorem NfAt.of_blk {w : World} {pn : Nat} {L M : Int} {sv mv fv : Value} (h : w.heap[pn]? = some (Obj.cells #[.int .i64 L, .int .i64 M, sv, mv, fv] 93)) : NfAt w pn L M sv mv fv := by
  refine ⟨?_, ?_, ?_, ?_, ?_, lt_blk h⟩ <;> simp [World.cell?, h]
theorem mstep_any (L M : Int) (sA mA fA : Option Addr) (sn sc mn mc fn fc : Nat) (n : Na) (S a : Nat) (pn : Nat) (w : World) (h : NfV w w.heap.size (.agg #[.int .i64 L, .int .i64 M, .slice sA sn sc, .slice mA mn mc, .slice fA fn fc]) n) (hat : NfAt w pn L M (.slice sA sn sc) (.slice mA mn mc) (.slice fA fn fc)) (hS : S < 18446744073709551616) (hl : ∀ m ∈ n.moves, 0 ≤ m.l ∧ 0 ≤ m.f ∧ m.f < 40 ∧ 0 ≤ m.t ∧ m.t < 40) (hml : n.moves.length ≤ 240) :
    Calls Tryz.prog 85 #[.int .u64 (S : Int), .int .i64 (a : Int), .pointer (some ⟨pn, 0, none⟩)] w fun e w' => e = .returned (.int .u64 ((stepN n.moves S a : Nat) : Int)) ∧ Below w.heap.size w w' := by
  have H := step_any _ n S a w h hS hl hml
  obtain ⟨c0, c1, c2, c3, c4, hlt⟩ := hat
  have HH := Lib.hid H
  clear H h hl
  go_enter Tryz.func85, Tryz.ntmps85
  go_wp2_with fail
  refine (HH.out).mono ?_
  rintro e w' ⟨rfl, hb⟩
  go_wp2_with fail
  go_ret
  exact ⟨rfl, hb⟩

theorem bools_of_take (f : Nat → Bool) (ks : List Nat) (m : Nat) (h : m < ks.length) : (ks.take (m + 1)).map f = (ks.take m).map f ++ [f (ks.getD m 0)] := by
  rw [List.take_succ_eq_append_getElem h, List.map_append]; simp [List.getD, h]
theorem own_bools (l : List Bool) (j : Nat) (hj : j < l.length * 1) : (l.map fun b => Value.bool b)[j]? = some (bools l j) := by
  simp at hj
  simp [bools, List.getD, hj]
theorem own_set {w : World} {base e sz n b : Nat} {v : Value} {xs : List Value} (h : w.ownsRow base e sz v n xs) (hb : b < base) (k : Nat) (u : Value) : (w.setCell ⟨b, k, none⟩ u).ownsRow base e sz v n xs := by
  obtain ⟨a1, a2⟩ := h
  refine ⟨a1, ?_⟩
  rcases a2 with a2 | ⟨g, cap, cur, e, hbs, hh, r⟩
  · exact .inl a2
  · exact .inr ⟨g, cap, cur, e, hbs, (Below.heap_setCell w _ _ _ (fun (h : g = b) => by subst h; exact absurd hbs (by omega))).trans hh, r⟩
theorem RdRows.of4 {w : World} {base : Nat} {nv : Value} {L : Nat} {next : List (List Int)} {rs : List Nat} {b t : Nat} {cs : Array Value} (h : Nxt w base nv L next rs) (hb : w.heap[b]? = some (.cells cs t (0, 0))) (ht : t ≠ 23)
    (hne : ∀ j, j < next.length → rs.getD j 0 ≠ b) (hl : ∀ row ∈ next, row.length = L) (u0 u1 u2 u3 : Value) :
    RdRows ((((w.setCell ⟨b, 0, none⟩ u0).setCell ⟨b, 1, none⟩ u1).setCell ⟨b, 2, none⟩ u2).setCell ⟨b, 3, none⟩ u3) ((((w.setCell ⟨b, 0, none⟩ u0).setCell ⟨b, 1, none⟩ u1).setCell ⟨b, 2, none⟩ u2).setCell ⟨b, 3, none⟩ u3).heap.size nv next := by
  have h1 := h.store hb ht hne 0 u0
  have b1 := fld_set hb 0 u0
  have h2 := h1.store b1 ht hne 1 u1
  have b2 := fld_set b1 1 u1
  have h3 := h2.store b2 ht hne 2 u2
  have b3 := fld_set b2 2 u2
  exact (h3.store b3 ht hne 3 u3).rows_ hl
/-- an automaton whose lists lie in blocks of their own -/
def DfT (w : World) (dv : Value) (d : Da) : Prop :=
  ∃ (base base2 L : Nat) (rs : List Nat) (nv fv : Value), dv = .agg #[.int .i64 d.letters, .int .i64 d.start, nv, fv] ∧ Nxt w base nv L d.next rs ∧ (∀ row ∈ d.next, row.length = L) ∧
    w.ownsRow base2 4 1 fv d.final.length (d.final.map fun b => Value.bool b)
theorem DfT.dfv {w : World} {dv : Value} {d : Da} (h : DfT w dv d) : DfV w w.heap.size dv d := by
  obtain ⟨base, base2, L, rs, nv, fv, e, h1, h2, h3⟩ := h
  exact ⟨nv, fv, e, h1.rows_ h2, Rd.of_own h3 (own_bools _)⟩
theorem DfT.set {w : World} {dv : Value} {d : Da} (h : DfT w dv d) {b : Nat} {cs : Array Value} (hb : w.heap[b]? = some (.cells cs 59 (0, 0))) (k : Nat) (u : Value) : DfT (w.setCell ⟨b, k, none⟩ u) dv d := by
  obtain ⟨base, base2, L, rs, nv, fv, e, h1, h2, h3⟩ := h
  refine ⟨base, base2, L, rs, nv, fv, e, h1.store hb (by decide) (fun j hj e => ?_) k u, h2, ?_⟩
  · obtain ⟨cs', hcs⟩ := rowIs_blk (h1.rows j hj)
    exact blk_type hcs hb (by decide) e
  · obtain ⟨a1, a2⟩ := h3
    refine ⟨a1, ?_⟩
    rcases a2 with a2 | ⟨g, cap, cur, e, hbs, hh, r⟩
    · exact .inl a2
    · exact .inr ⟨g, cap, cur, e, hbs, (Below.heap_setCell w _ _ _ (fun e => blk_type hb hh (by decide) e.symm)).trans hh, r⟩
theorem DfT.set4 {w : World} {dv : Value} {d : Da} (h : DfT w dv d) {b : Nat} {cs : Array Value} (hb : w.heap[b]? = some (.cells cs 59 (0, 0))) (u0 u1 u2 u3 : Value) :
    DfT ((((w.setCell ⟨b, 0, none⟩ u0).setCell ⟨b, 1, none⟩ u1).setCell ⟨b, 2, none⟩ u2).setCell ⟨b, 3, none⟩ u3) dv d :=
  (((h.set hb 0 u0).set (fld_set hb 0 u0) 1 u1).set (fld_set (fld_set hb 0 u0) 1 u1) 2 u2).set (fld_set (fld_set (fld_set hb 0 u0) 1 u1) 2 u2) 3 u3
set_option maxRecDepth 100000 in
set_option maxHeartbeats 2000000 in
theorem nmake_any (nv : Value) (n : Na) (w : World) (h : NfV w w.heap.size nv n) (hok : NaOk n) :
    Calls Tryz.prog 58 #[nv] w fun e w' => Below w.heap.size w w' ∧ ∃ dv, e = .returned (.tuple #[dv, if (nfaMake n).isSome then .nilIface else errV 4]) ∧ (nfaMake n = none → dv = .agg #[.int .i64 0, .int .i64 0, .slice none 0 0, .slice none 0 0]) ∧ ∀ d, nfaMake n = some d → DfT w' dv d := by
  have hchk := fun W hb => ncheck_ok nv n W ((NfV.below h hb).mono hb.size) hok
  have hnv := h
  obtain ⟨sv, mv, fv, rfl, hs, hm, hf⟩ := h
  have hs' := hs
  have hf' := hf
  obtain ⟨mA, mc, rfl, _, _⟩ := hm
  obtain ⟨sA, sc, rfl, _, _⟩ := hs
  obtain ⟨fA, fc, rfl, _, _⟩ := hf
  obtain ⟨L, hL⟩ : ∃ L : Nat, n.letters = (L : Int) := ⟨n.letters.toNat, by have := hok.let1; omega⟩
  have hL6 : L ≤ 6 := by have := hok.let6; omega
  have hmv : ∀ m ∈ n.moves, 0 ≤ m.l ∧ 0 ≤ m.f ∧ m.f < 40 ∧ 0 ≤ m.t ∧ m.t < 40 := fun m hm => by
    obtain ⟨a1, a2, a3, a4, a5, a6⟩ := hok.movin m hm
    have := hok.st40
    omega
  have hsin : ∀ s ∈ n.starts, 0 ≤ s ∧ s < 40 := fun s hs => by have := hok.startin s hs; have := hok.st40; omega
  have hfin : ∀ s ∈ n.final, 0 ≤ s ∧ s < 40 := fun s hs => by have := hok.finin s hs; have := hok.st40; omega
  have hslen := hok.starts
  have hflen := hok.final
  have hmlen := hok.moves
  obtain ⟨st, hst⟩ : ∃ st, stepN n.moves = st := ⟨_, rfl⟩
  obtain ⟨s0, hs0⟩ : ∃ s0, setN n.starts = s0 := ⟨_, rfl⟩
  obtain ⟨f0, hf0⟩ : ∃ f0, setN n.final = f0 := ⟨_, rfl⟩
  have hs0lt : s0 < 1099511627776 := by rw [← hs0]; exact setN_le _ hsin
  have hf0lt : f0 < 1099511627776 := by rw [← hf0]; exact setN_le _ hfin
  have hstlt : ∀ k a, st k a < 1099511627776 := fun k a => by rw [← hst]; exact stepN_lt _ _ _ fun m hm => (hmv m hm).2.2.2
  have hmk : nfaMake n = (explored st s0 L 40).map fun r => { letters := n.letters, start := 0, next := r.2, final := r.1.map fun s => decide (s &&& f0 ≠ 0) } := by
    rw [nfaMake, hst, hs0, hf0, hL]; simp
  obtain ⟨R, hR⟩ : ∃ R, explored st s0 L 40 = R := ⟨_, rfl⟩
  have hspec : ∀ ks next, R = some (ks, next) → ks.length ≤ 40 ∧ (∀ row ∈ next, row.length = L) ∧ (∀ k ∈ ks, k < 1099511627776) := by
    intro ks next e
    have hx := explored_spec (by decide) (hR.trans e)
    refine ⟨hx.lenle, ?_, ?_⟩
    · intro row hrow
      obtain ⟨i, hi, rfl⟩ := List.getElem_of_mem hrow
      exact (hx.rows i hi).1
    · intro k hk
      obtain ⟨u, _, hu⟩ := hx.reach k hk
      rw [← hu]
      rcases List.eq_nil_or_concat u with rfl | ⟨u', a, rfl⟩
      · exact hs0lt
      · rw [List.concat_eq_append, run_snoc]; exact hstlt _ _
  -- the calls
  have H1 : ∀ W, Below w.heap.size w W → Calls Tryz.prog 84 #[.slice sA n.starts.length sc] W fun e w' => e = .returned (.int .u64 (s0 : Int)) ∧ W = w' := fun W hb => by
    rw [← hs0]; exact set_any _ n.starts W (Rd.mono (Rd.below hs' hb) hb.size) hsin (by omega)
  have H1' : ∀ W, Below w.heap.size w W → Calls Tryz.prog 84 #[.slice fA n.final.length fc] W fun e w' => e = .returned (.int .u64 (f0 : Int)) ∧ W = w' := fun W hb => by
    rw [← hf0]; exact set_any _ n.final W (Rd.mono (Rd.below hf' hb) hb.size) hfin (by omega)
  have H2 : ∀ W, Below w.heap.size w W → Calls Tryz.prog 83 #[.agg #[.int .i64 n.letters, .int .i64 n.states, .slice sA n.starts.length sc, .slice mA n.moves.length mc, .slice fA n.final.length fc], .int .u64 (s0 : Int)] W fun e w' => e = .returned (.int .u64 (s0 : Int)) ∧ Below W.heap.size W w' := fun W hb =>
    silent_any _ n s0 W ((hnv.below hb).mono hb.size) (fun m hm => (hmv m hm).1) hmlen
  have H3 : ∀ (pn : Nat) W, Below w.heap.size w W → NfAt W pn n.letters n.states (.slice sA n.starts.length sc) (.slice mA n.moves.length mc) (.slice fA n.final.length fc) →
      Calls Tryz.prog 77 #[.int .u64 (s0 : Int), .int .i64 n.letters, .int .i64 40, .func (.func 85) #[] #[.pointer (some ⟨pn, 0, none⟩)]] W fun e w' => Below W.heap.size W w' ∧ ∃ kv nv, e = .returned (.tuple #[kv, nv, .bool R.isSome]) ∧
        ∀ ks next, R = some (ks, next) → RdW w' w'.heap.size kv ks ∧ ∃ base rs, Nxt w' base nv L next rs := fun pn W hb hat => by
    have := explore_any st s0 L 85 #[.pointer (some ⟨pn, 0, none⟩)] (fun k => k < 1099511627776) W hL6 hs0lt (fun k a _ _ => hstlt k a) (fun k hk => by omega) (fun args W => rfl) (fun k a W' hk ha hb' => by
      have hb2 := hb.trans (hb'.mono hb.size)
      have := mstep_any n.letters n.states sA mA fA _ sc _ mc _ fc n k a pn W' ((hnv.below hb2).mono hb2.size) (hat.below hb' hat.lt) (by omega) hmv hmlen
      rw [hst] at this
      exact this)
    rw [hR, ← hL] at this
    refine this.mono ?_
    rintro e w' ⟨h1, kv, nv, h2, h3⟩
    refine ⟨h1, kv, nv, h2, fun ks next e => ?_⟩
    obtain ⟨base, Bb, mb, rs, h4, h5⟩ := h3 ks next e
    exact ⟨h4.rdw, base, rs, h5⟩
  rw [hR] at hmk
  rw [hmk]
  have HSP := Lib.hid hspec
  have HR := Lib.hid hR
  have HLL := Lib.hid hL
  have hHF := Lib.hid hf0lt
  clear hmk hst hs0 hf0 hstlt hspec hsin hfin hok hnv hs' hf' hmv hL hR hs0lt hslen hflen hmlen hf0lt
  generalize n.starts.length = sn at *
  generalize n.moves.length = mn at *
  generalize n.final.length = fn at *
  generalize n.letters = LL at *
  generalize n.states = MM at *
  have HCHK := Lib.hid hchk
  have HH1 := Lib.hid H1
  have HH1' := Lib.hid H1'
  have HH2 := Lib.hid H2
  have HH3 := Lib.hid H3
  clear hchk H1 H2 H3 H1'
  go_enter Tryz.func58, Tryz.ntmps58
  go_wp2_with fail
  refine (HCHK.out _ (((Below.refl _ _).alloc (Nat.le_refl _) _).alloc (by simp) _)).mono ?_
  rintro e w1 ⟨rfl, hb1⟩
  have hb1' := (((Below.refl w.heap.size w).alloc (Nat.le_refl _) (Obj.cells #[.int .i64 LL, .int .i64 MM, .slice sA sn sc, .slice mA mn mc, .slice fA fn fc] 93)).alloc (by simp) (Obj.cells #[.int .i64 0, .int .i64 0, .slice none 0 0, .slice none 0 0] 59))
  have hat1 : NfAt w1 w.heap.size LL MM (.slice sA sn sc) (.slice mA mn mc) (.slice fA fn fc) := by
    exact NfAt.below (NfAt.of_blk (heap_old2 w _ _)) hb1 (by simp; omega)
  have hr1 : w1.heap[w.heap.size + 1]? = some (Obj.cells #[.int .i64 0, .int .i64 0, .slice none 0 0, .slice none 0 0] 59) := by
    exact (hb1.block _ (by simp)).trans (heap_new2 w _ _)
  replace hb1 := hb1'.trans (hb1.mono (by simp; omega))
  have hs1 : w.heap.size + 1 < w1.heap.size := lt_blk hr1
  clear hb1'
  obtain ⟨d0, d1, d2, d3, d4, _⟩ := hat1
  have hat1 : (w1.cell? ⟨w.heap.size, 0, none⟩ = some (.int .i64 LL) ∧ w1.cell? ⟨w.heap.size, 1, none⟩ = some (.int .i64 MM) ∧ w1.cell? ⟨w.heap.size, 2, none⟩ = some (.slice sA sn sc) ∧ w1.cell? ⟨w.heap.size, 3, none⟩ = some (.slice mA mn mc) ∧ w1.cell? ⟨w.heap.size, 4, none⟩ = some (.slice fA fn fc) ∧ Below (w.heap.size + 2) w1 w1) := ⟨d0, d1, d2, d3, d4, Below.refl _ _⟩
  have HT : ∀ W W', (W.cell? ⟨w.heap.size, 0, none⟩ = some (.int .i64 LL) ∧ W.cell? ⟨w.heap.size, 1, none⟩ = some (.int .i64 MM) ∧ W.cell? ⟨w.heap.size, 2, none⟩ = some (.slice sA sn sc) ∧ W.cell? ⟨w.heap.size, 3, none⟩ = some (.slice mA mn mc) ∧ W.cell? ⟨w.heap.size, 4, none⟩ = some (.slice fA fn fc) ∧ Below (w.heap.size + 2) w1 W) → Below W.heap.size W W' → (W'.cell? ⟨w.heap.size, 0, none⟩ = some (.int .i64 LL) ∧ W'.cell? ⟨w.heap.size, 1, none⟩ = some (.int .i64 MM) ∧ W'.cell? ⟨w.heap.size, 2, none⟩ = some (.slice sA sn sc) ∧ W'.cell? ⟨w.heap.size, 3, none⟩ = some (.slice mA mn mc) ∧ W'.cell? ⟨w.heap.size, 4, none⟩ = some (.slice fA fn fc) ∧ Below (w.heap.size + 2) w1 W') := fun W W' h h' => by
    obtain ⟨a0, a1, a2, a3, a4, a5⟩ := h
    have hl : w.heap.size < W.heap.size := by have := a5.size; omega
    exact ⟨(h'.cell (p := ⟨w.heap.size, 0, none⟩) hl).trans a0, (h'.cell (p := ⟨w.heap.size, 1, none⟩) hl).trans a1, (h'.cell (p := ⟨w.heap.size, 2, none⟩) hl).trans a2, (h'.cell (p := ⟨w.heap.size, 3, none⟩) hl).trans a3,
      (h'.cell (p := ⟨w.heap.size, 4, none⟩) hl).trans a4, a5.trans (h'.mono (by have := a5.size; omega))⟩
  have HW : ∀ W, (W.cell? ⟨w.heap.size, 0, none⟩ = some (.int .i64 LL) ∧ W.cell? ⟨w.heap.size, 1, none⟩ = some (.int .i64 MM) ∧ W.cell? ⟨w.heap.size, 2, none⟩ = some (.slice sA sn sc) ∧ W.cell? ⟨w.heap.size, 3, none⟩ = some (.slice mA mn mc) ∧ W.cell? ⟨w.heap.size, 4, none⟩ = some (.slice fA fn fc) ∧ Below (w.heap.size + 2) w1 W) → Below w.heap.size w W := fun W h => hb1.trans (h.2.2.2.2.2.mono (by omega))
  have G1 : ∀ W, (W.cell? ⟨w.heap.size, 0, none⟩ = some (.int .i64 LL) ∧ W.cell? ⟨w.heap.size, 1, none⟩ = some (.int .i64 MM) ∧ W.cell? ⟨w.heap.size, 2, none⟩ = some (.slice sA sn sc) ∧ W.cell? ⟨w.heap.size, 3, none⟩ = some (.slice mA mn mc) ∧ W.cell? ⟨w.heap.size, 4, none⟩ = some (.slice fA fn fc) ∧ Below (w.heap.size + 2) w1 W) → Calls Tryz.prog 84 #[.slice sA sn sc] W fun e w' => e = .returned (.int .u64 (s0 : Int)) ∧ W = w' := fun W h => HH1.out W (HW W h)
  have G2 : ∀ W, (W.cell? ⟨w.heap.size, 0, none⟩ = some (.int .i64 LL) ∧ W.cell? ⟨w.heap.size, 1, none⟩ = some (.int .i64 MM) ∧ W.cell? ⟨w.heap.size, 2, none⟩ = some (.slice sA sn sc) ∧ W.cell? ⟨w.heap.size, 3, none⟩ = some (.slice mA mn mc) ∧ W.cell? ⟨w.heap.size, 4, none⟩ = some (.slice fA fn fc) ∧ Below (w.heap.size + 2) w1 W) → Calls Tryz.prog 83 #[.agg #[.int .i64 LL, .int .i64 MM, .slice sA sn sc, .slice mA mn mc, .slice fA fn fc], .int .u64 (s0 : Int)] W fun e w' => e = .returned (.int .u64 (s0 : Int)) ∧ (w'.cell? ⟨w.heap.size, 0, none⟩ = some (.int .i64 LL) ∧ w'.cell? ⟨w.heap.size, 1, none⟩ = some (.int .i64 MM) ∧ w'.cell? ⟨w.heap.size, 2, none⟩ = some (.slice sA sn sc) ∧ w'.cell? ⟨w.heap.size, 3, none⟩ = some (.slice mA mn mc) ∧ w'.cell? ⟨w.heap.size, 4, none⟩ = some (.slice fA fn fc) ∧ Below (w.heap.size + 2) w1 w') := fun W h =>
    (HH2.out W (HW W h)).mono fun e w' ⟨e1, e2⟩ => ⟨e1, HT _ _ h e2⟩
  have G3 : ∀ W, (W.cell? ⟨w.heap.size, 0, none⟩ = some (.int .i64 LL) ∧ W.cell? ⟨w.heap.size, 1, none⟩ = some (.int .i64 MM) ∧ W.cell? ⟨w.heap.size, 2, none⟩ = some (.slice sA sn sc) ∧ W.cell? ⟨w.heap.size, 3, none⟩ = some (.slice mA mn mc) ∧ W.cell? ⟨w.heap.size, 4, none⟩ = some (.slice fA fn fc) ∧ Below (w.heap.size + 2) w1 W) → Calls Tryz.prog 77 #[.int .u64 (s0 : Int), .int .i64 LL, .int .i64 40, .func (.func 85) #[] #[.pointer (some ⟨w.heap.size, 0, none⟩)]] W fun e w' => ∃ kv nv, e = .returned (.tuple #[kv, nv, .bool R.isSome]) ∧
      (∀ ks next, R = some (ks, next) → RdW w' w'.heap.size kv ks ∧ ∃ base rs, Nxt w' base nv L next rs) ∧ (w'.cell? ⟨w.heap.size, 0, none⟩ = some (.int .i64 LL) ∧ w'.cell? ⟨w.heap.size, 1, none⟩ = some (.int .i64 MM) ∧ w'.cell? ⟨w.heap.size, 2, none⟩ = some (.slice sA sn sc) ∧ w'.cell? ⟨w.heap.size, 3, none⟩ = some (.slice mA mn mc) ∧ w'.cell? ⟨w.heap.size, 4, none⟩ = some (.slice fA fn fc) ∧ Below (w.heap.size + 2) w1 w') := fun W h =>
    (HH3.out w.heap.size W (HW W h) ⟨h.1, h.2.1, h.2.2.1, h.2.2.2.1, h.2.2.2.2.1, by have := h.2.2.2.2.2.size; omega⟩).mono fun e w' ⟨e1, kv, nv, e2, e3⟩ => ⟨kv, nv, e2, e3, HT _ _ h e1⟩
  clear HT HW d0 d1 d2 d3 d4
  have HR1 := Lib.hid hr1
  have HB1 := Lib.hid hb1
  clear hr1 hb1
  go_upto_region 4 with fail
  go_cut [5, 6, 7] from 18 to 30 (fun k n o wx => o = .bool R.isSome ∧ (∀ ks next, R = some (ks, next) → RdW wx wx.heap.size k ks ∧ ∃ base rs, Nxt wx base n L next rs) ∧ (wx.cell? ⟨w.heap.size, 0, none⟩ = some (.int .i64 LL) ∧ wx.cell? ⟨w.heap.size, 1, none⟩ = some (.int .i64 MM) ∧ wx.cell? ⟨w.heap.size, 2, none⟩ = some (.slice sA sn sc) ∧ wx.cell? ⟨w.heap.size, 3, none⟩ = some (.slice mA mn mc) ∧ wx.cell? ⟨w.heap.size, 4, none⟩ = some (.slice fA fn fc) ∧ Below (w.heap.size + 2) w1 wx))
  case first =>
    go_region_held3 (fun w' => (w'.cell? ⟨w.heap.size, 0, none⟩ = some (.int .i64 LL) ∧ w'.cell? ⟨w.heap.size, 1, none⟩ = some (.int .i64 MM) ∧ w'.cell? ⟨w.heap.size, 2, none⟩ = some (.slice sA sn sc) ∧ w'.cell? ⟨w.heap.size, 3, none⟩ = some (.slice mA mn mc) ∧ w'.cell? ⟨w.heap.size, 4, none⟩ = some (.slice fA fn fc) ∧ Below (w.heap.size + 2) w1 w')) (first | assumption | exact ⟨hat1.1, hat1.2.1, hat1.2.2.1, hat1.2.2.2.1, hat1.2.2.2.2.1, (Below.refl _ _).drew⟩)
      (first
        | (go_at_call 84; refine (G1 _ (by assumption)).mono ?_; rintro en w2 ⟨rfl, rfl⟩)
        | (go_at_call 83; refine (G2 _ (by assumption)).mono ?_; rintro en w2 ⟨rfl, hb2⟩)
        | (go_at_call 77; refine (G3 _ (by assumption)).mono ?_; rintro en w3 ⟨kv, nv, rfl, hk3, hb3⟩))
    all_goals (go_wp2_with fail; go_meet; exact ⟨rfl, hk3, hb3⟩)
  case rest =>
    obtain ⟨rfl, hk, c0, c1, c2, c3, c4, hb⟩ := hcut
    clear G1 G2 G3 hat1
    have hblk := (hb.block _ (by omega)).trans HR1.out
    have hc := fun k => fld_cell hblk k
    have hfz := fun k => fld_frozen hblk k
    have e0 := hc 0
    have e1 := hc 1
    have e2 := hc 2
    have e3 := hc 3
    have f0' := hfz 0
    have f1' := hfz 1
    have f2' := hfz 2
    have f3' := hfz 3
    simp at e0 e1 e2 e3
    clear hc hfz
    have HBL := Lib.hid hblk
    have HB2 := Lib.hid hb
    have HK := Lib.hid hk
    have hwlt := lt_blk hblk
    have hwlt0 : w.heap.size < wc.heap.size := by omega
    clear hblk hb hk
    obtain ⟨wo, rfl⟩ : ∃ wo : World, wo = wc := ⟨_, rfl⟩
    obtain _ | ⟨ks, next⟩ := R
    · go_wp2_with fail
      exact bodyPost_ret (v := .tuple #[.agg #[.int .i64 0, .int .i64 0, .slice none 0 0, .slice none 0 0], errV 4]) (by simp [results, Tryz.results58, go_sem, errV, e0, e1, e2, e3]) rfl ⟨((((HB1.out.trans (HB2.out.mono (by omega))).setCell (by simp) _).setCell (by simp) _).setCell (by simp) _).setCell (by simp) _, rfl⟩
    · obtain ⟨hkv, base, rs, hnv⟩ := HK.out ks next rfl
      obtain ⟨hk40, hrl, hklt⟩ := HSP.out ks next rfl
      have hnv' := hnv
      obtain ⟨rv, ⟨nA, nc, rfl, _, _⟩, _⟩ := hnv.rows_ hrl
      obtain ⟨kA, kc, rfl, _, hkc⟩ := hkv
      have HKC : ∀ k, k < ks.length → ∃ b off, ∃ x : Nat, kA = some ⟨b, off, none⟩ ∧ b < wo.heap.size ∧ wo.cell? ⟨b, off + k, none⟩ = some (.int .u64 (x : Int)) ∧ ks.getD k 0 = x ∧ x < 18446744073709551616 := fun k hk => by
        obtain ⟨b, off, h1, h2, h3⟩ := hkc (by omega)
        refine ⟨b, off, _, h1, h2, h3 k (by omega), rfl, ?_⟩
        have := hklt (ks.getD k 0) (by rw [List.getD, List.getElem?_eq_getElem hk]; exact List.getElem_mem hk)
        omega
      have HKK := Lib.hid HKC
      have HNV := Lib.hid hnv'
      have HRL := Lib.hid hrl
      clear HKC hnv' hkc hklt hrl
      go_wp2_with fail
      refine (HH1'.out _ (by have hb := HB1.out.trans (HB2.out.mono (by omega)); exact hb.alloc hb.size _)).mono ?_
      rintro e w' ⟨rfl, rfl⟩
      obtain ⟨W, hW⟩ : ∃ W, wo.alloc (Obj.cells #[.int .i64 LL, .int .i64 0, .slice nA next.length nc, .slice none 0 0] 59) = W := ⟨_, rfl⟩
      have hg : W.heap[wo.heap.size]? = some (Obj.cells #[.int .i64 LL, .int .i64 0, .slice nA next.length nc, .slice none 0 0] 59) := by rw [← hW]; exact heap_new _ _
      have hbW : Below wo.heap.size wo W := by rw [← hW]; exact (Below.refl _ _).alloc (Nat.le_refl _) _
      have HG := Lib.hid hg
      have HBW := Lib.hid hbW
      rw [hW]
      clear hg hbW hW e0 e1 e2 e3 f0' f1' f2' f3' c0 c1 c2 c3 c4
      generalize hnl : next.length = NN
      have HNL := Lib.hid hnl
      clear hnl
      obtain ⟨i0, hi, hz0, hz1, hz2⟩ := info_parts info_bool
      go_wp2_with fail
      go_loopw [44] (fun i wr => ∃ m : Nat, ∃ v : Value, m ≤ ks.length ∧ i = .int .i64 (m : Int) ∧ Below wo.heap.size W wr ∧ wr.heap[wo.heap.size]? = some (Obj.cells #[.int .i64 LL, .int .i64 0, .slice nA NN nc, v] 59) ∧
        wr.ownsRow wo.heap.size 4 1 v m (((ks.take m).map fun s => decide (s &&& f0 ≠ 0)).map fun b => Value.bool b)) (fun i _ => ks.length - (intOf i).toNat)
      case atStart => exact ⟨0, _, by omega, rfl, Below.refl _ _, HNL.out ▸ HG.out, World.ownsRow_nil _ _ _ _⟩
      case round =>
        obtain ⟨m, v, hm, rfl, hbr, hgr, hown⟩ := hrel
        have HBR := Lib.hid hbr
        have HGR := Lib.hid hgr
        by_cases hlt : m < ks.length
        · obtain ⟨b, off, x, rfl, hb, hx, hxe, hxlt⟩ := HKK.out m hlt
          have hb2 := HBW.out.trans hbr
          have hx' := (hb2.cell (p := ⟨b, off + m, none⟩) hb).trans hx
          have hbl : b < wr.heap.size := Nat.lt_of_lt_of_le hb hb2.size
          have hc3 := fld_cell hgr 3
          have hf3 := fld_frozen hgr 3
          have hglt := lt_blk hgr
          simp at hc3
          obtain ⟨B, hB⟩ : ∃ B, decide (x &&& f0 ≠ 0) = B := ⟨_, rfl⟩
          have hbb : (bits .and .u64 (x : Int) (f0 : Int) != 0) = B := by
            rw [u64_and_nat x f0 hxlt (by have := hHF.out; omega), ← hB, Bool.eq_iff_iff]; simp
          have HB := Lib.hid hB
          have HXE := Lib.hid hxe
          obtain ⟨vA, vc, rfl⟩ : ∃ vA vc, v = .slice vA m vc := by
            rcases hown.2 with ⟨e, e2⟩ | ⟨g, cap, cur, e, _⟩
            · exact ⟨none, 0, by rw [e, e2]⟩
            · exact ⟨_, cap, e⟩
          clear hx hbr hgr hb2 hB hxe
          go_wp2_with (at_builtin; refine wpList_append_own_at _ rfl _ _ 57 rfl wo.heap.size 4 i0 _ 1 1 Tryz.underlying57 hi hz0 hz1 hz2 rfl (by decide) _ m _ rfl (hown.alloc _) ⟨wr.heap.size, 0, none⟩ 1 1 [.bool B] rfl rfl (cell_one_new _ _ _) (by simp [Value.oneCell']) (by unfold maxLen; omega) (by omega) (by simp; omega) ?_; intro nv' w5 hown5 hgrow5 _ hat5; obtain ⟨g', cap', rfl⟩ := own_slice hown5; have hk5 := fld_keep HGR.out hown hgrow5 (by decide); have hc5 := fld_cell hk5 3; simp at hc5; have hf5 := fld_frozen hk5 3; have HK5 := Lib.hid hk5; clear hk5)
          obtain ⟨hr1, hr2⟩ := fld_grew (k := 3) (u := .slice (some ⟨g', 0, none⟩) (m + 1) cap') HGR.out hown hgrow5 hown5 (by decide)
          have hr3 := fld_set HK5.out 3 (.slice (some ⟨g', 0, none⟩) (m + 1) cap')
          have HR1' := Lib.hid hr1
          have HR2 := Lib.hid hr2.below
          have HR3 := Lib.hid hr3
          clear hr1 hr2 hr3 hown5 hgrow5 hat5 hown
          go_wp2_with fail
          go_roundw
          case rel =>
            refine ⟨m + 1, _, by omega, by go_num, HBR.out.trans HR2.out, by simpa using HR3.out, ?_⟩
            rw [bools_of_take _ _ _ hlt, HXE.out, HB.out, List.map_append]
            exact HR1'.out
          case measure => simp [intOf]; omega
        · have hbelow := HBW.out.trans hbr
          have hblk2 := (hbelow.block _ hwlt).trans HBL.out
          have hc := fun k => fld_cell hblk2 k
          have hfz := fun k => fld_frozen hblk2 k
          have hd := fun k => fld_cell hgr k
          have e0 := hc 0
          have e1 := hc 1
          have e2 := hc 2
          have e3 := hc 3
          have f0' := hfz 0
          have f1' := hfz 1
          have f2' := hfz 2
          have f3' := hfz 3
          have d0 := hd 0
          have d1 := hd 1
          have d2 := hd 2
          have d3 := hd 3
          simp at e0 e1 e2 e3 d0 d1 d2 d3
          clear hc hfz hd
          have HBL2 := Lib.hid hblk2
          have HBE := Lib.hid hbelow
          obtain ⟨vA, vc, rfl⟩ : ∃ vA vc, v = .slice vA m vc := by
            rcases hown.2 with ⟨e, e2⟩ | ⟨g, cap, cur, e, _⟩
            · exact ⟨none, 0, by rw [e, e2]⟩
            · exact ⟨_, cap, e⟩
          have HOWN := Lib.hid hown
          have hwlt2 : w.heap.size + 1 < wr.heap.size := lt_blk hblk2
          have hglt := lt_blk hgr
          have hmk : m = ks.length := by omega
          have HMK := Lib.hid hmk
          clear hbr hgr hown hblk2 hbelow hmk
          go_wp2_with fail
          refine bodyPost_ret (v := .tuple #[.agg #[.int .i64 LL, .int .i64 0, .slice nA NN nc, .slice vA m vc], .nilIface]) (by simp [results, Tryz.results58, go_sem, e0, e1, e2, e3]) rfl ⟨?_, _, rfl, ?_⟩
          · exact (((((HB1.out.trans (HB2.out.mono (by omega))).trans (HBE.out.mono (by omega))).setCell (by simp) _).setCell (by simp) _).setCell (by simp) _).setCell (by simp) _
          · obtain rfl := HNL.out
            have hown := HOWN.out
            have hmk := HMK.out
            have hnx := (HNV.out.below HBE.out)
            rw [hmk, List.take_length] at hown
            refine DfT.set4 ⟨base, wo.heap.size, L, rs, .slice nA next.length nc, .slice vA m vc, by simp, hnx, HRL.out, ?_⟩ HBL2.out _ _ _ _
            rw [List.length_map]
            rw [hmk]
            first | exact hown | simpa using hown
end Go.Proofs.YtccknopchddicaaGreatDoor
