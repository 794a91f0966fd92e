/- trees in memory, as they are read. -/
import Derived.Test.YtccknopchddicaaGreatDoorMD6
import Derived.Test.YtccknopchddicaaGreatDoorMK2
import Derived.Test.YtccknopchddicaaGreatDoorMT1
import Derived.Deep.AppendLies
import Derived.Deep.RegionLaw
import Derived.Deep.DeepCutAuto
set_option linter.unusedSimpArgs false
set_option linter.unusedVariables false
set_option linter.unnecessarySimpa false
namespace Go.Proofs.YtccknopchddicaaGreatDoor
open Go.RowKit Stile
/-- the part v lies at place j of block g -/
def KidAt (w : World) (g j : Nat) (v : Value) : Prop :=
  ∃ c0 c1 c2 cur, v = .agg #[c0, c1, c2] ∧ w.heap[g]? = some (.cells cur 29 (0, 0)) ∧ cur[3 * j]? = some c0 ∧ cur[3 * j + 1]? = some c1 ∧ cur[3 * j + 2]? = some c2
/-- v reads as the tree; its blocks lie from lo on, below hi -/
def Td (w : World) (lo hi : Nat) : W → Value → Prop
  | .n0 k s, v => v = .agg #[.int .i64 k, .int .i64 s, .slice none 0 0]
  | .n1 k x, v => ∃ g c a, v = .agg #[.int .i64 k, .int .i64 0, .slice (some ⟨g, 0, none⟩) 1 c] ∧ 1 ≤ c ∧ lo ≤ g ∧ g < hi ∧ KidAt w g 0 a ∧ Td w lo hi x a
  | .n2 k x y, v => ∃ g c a b, v = .agg #[.int .i64 k, .int .i64 0, .slice (some ⟨g, 0, none⟩) 2 c] ∧ 2 ≤ c ∧ lo ≤ g ∧ g < hi ∧ KidAt w g 0 a ∧ KidAt w g 1 b ∧ Td w lo hi x a ∧ Td w lo hi y b
theorem KidAt.keep {w w' : World} {g j : Nat} {v : Value} (h : KidAt w g j v) (hg : w'.heap[g]? = w.heap[g]?) : KidAt w' g j v := by
  obtain ⟨c0, c1, c2, cur, e, h1, h2⟩ := h
  exact ⟨c0, c1, c2, cur, e, hg.trans h1, h2⟩
/-- a step that keeps each block of nodes -/
theorem Td.keep {w w' : World} {lo hi : Nat} (hk : ∀ g, lo ≤ g → g < hi → ∀ cur, w.heap[g]? = some (.cells cur 29 (0, 0)) → w'.heap[g]? = w.heap[g]?) : ∀ (t : W) (v : Value), Td w lo hi t v → Td w' lo hi t v := by
  intro t
  induction t with
  | n0 k s => intro v h; exact h
  | n1 k x ih =>
    rintro v ⟨g, c, a, e, h1, h2, h3, h4, h5⟩
    obtain ⟨_, _, _, cur, _, hb, _⟩ := id h4
    exact ⟨g, c, a, e, h1, h2, h3, h4.keep (hk g h2 h3 cur hb), ih a h5⟩
  | n2 k x y ih1 ih2 =>
    rintro v ⟨g, c, a, b, e, h1, h2, h3, h4, h5, h6, h7⟩
    obtain ⟨_, _, _, cur, _, hb, _⟩ := id h4
    exact ⟨g, c, a, b, e, h1, h2, h3, h4.keep (hk g h2 h3 cur hb), h5.keep (hk g h2 h3 cur hb), ih1 a h6, ih2 b h7⟩
theorem Td.below {w w' : World} {lo hi : Nat} {t : W} {v : Value} (h : Td w lo hi t v) (hb : Below hi w w') : Td w' lo hi t v :=
  Td.keep (fun g _ h2 _ _ => hb.block g h2) t v h
theorem Td.grew {w w' : World} {lo hi g E : Nat} {t : W} {v : Value} {cs : Array Value} {T : Nat} (h : Td w lo hi t v) (hg : Grew g E w w') (hE : E ≠ 29) (hb : w.heap[g]? = some (.cells cs T (0, 0))) (hT : T ≠ 29) : Td w' lo hi t v :=
  Td.keep (fun b _ _ cur hc => hg.other b _ _ hc (fun e => hE e.symm) (fun e => by subst e; exact blk_type hb hc hT rfl)) t v h
theorem Td.mono {w : World} {lo hi lo' hi' : Nat} (h1 : lo' ≤ lo) (h2 : hi ≤ hi') : ∀ (t : W) (v : Value), Td w lo hi t v → Td w lo' hi' t v := by
  intro t
  induction t with
  | n0 k s => intro v h; exact h
  | n1 k x ih =>
    rintro v ⟨g, c, a, e, q1, q2, q3, q4, q5⟩
    exact ⟨g, c, a, e, q1, by omega, by omega, q4, ih a q5⟩
  | n2 k x y ih1 ih2 =>
    rintro v ⟨g, c, a, b, e, q1, q2, q3, q4, q5, q6, q7⟩
    exact ⟨g, c, a, b, e, q1, by omega, by omega, q4, q5, ih1 a q6, ih2 b q7⟩
theorem Td.shape {w : World} {lo hi : Nat} {t : W} {v : Value} (h : Td w lo hi t v) : ∃ k s A n c, v = .agg #[.int .i64 k, .int .i64 s, .slice A n c] := by
  cases t with
  | n0 k s => exact ⟨_, _, _, _, _, h⟩
  | n1 k x => obtain ⟨g, c, a, e, _⟩ := h; exact ⟨_, _, _, _, _, e⟩
  | n2 k x y => obtain ⟨g, c, a, b, e, _⟩ := h; exact ⟨_, _, _, _, _, e⟩
theorem KidAt.cells {w : World} {g j : Nat} {k s : Int} {A : Option Addr} {n c : Nat} (h : KidAt w g j (.agg #[.int .i64 k, .int .i64 s, .slice A n c])) :
    w.cell? ⟨g, 3 * j, none⟩ = some (.int .i64 k) ∧ w.cell? ⟨g, 3 * j + 1, none⟩ = some (.int .i64 s) ∧ w.cell? ⟨g, 3 * j + 2, none⟩ = some (.slice A n c) ∧ g < w.heap.size := by
  obtain ⟨c0, c1, c2, cur, e, h1, h2, h3, h4⟩ := h
  injection e with e
  have e0 := congrArg (fun a : Array Value => a[0]?) e
  have e1 := congrArg (fun a : Array Value => a[1]?) e
  have e2 := congrArg (fun a : Array Value => a[2]?) e
  simp at e0 e1 e2
  subst e0; subst e1; subst e2
  exact ⟨by rw [fld_cell h1]; exact h2, by rw [fld_cell h1]; exact h3, by rw [fld_cell h1]; exact h4, lt_blk h1⟩

/-- the list that is being put together lies in a variable of block po -/
structure OutAt (w : World) (po : Nat) (sv : Value) (f : List Nd) : Prop where
  blk : w.heap[po]? = some (Obj.cells #[sv] 22)
  own : w.ownsRow po 71 3 sv f.length (ndCells f)
theorem OutAt.made {w w' : World} {po : Nat} {sv : Value} {f : List Nd} (h : OutAt w po sv f) (hb : Below w.heap.size w w') : OutAt w' po sv f := by
  refine ⟨(hb.block _ (lt_blk h.blk)).trans h.blk, ?_⟩
  obtain ⟨a1, a2⟩ := h.own
  refine ⟨a1, ?_⟩
  rcases a2 with a2 | ⟨g, cap, cur, e, hbs, hh, r⟩
  · exact .inl a2
  · exact .inr ⟨g, cap, cur, e, hbs, (hb.block _ (lt_blk hh)).trans hh, r⟩
theorem Grew.trans {g E : Nat} {w w1 w2 : World} (h : Grew g E w w1) (h2 : Grew g E w1 w2) : Grew g E w w2 :=
  ⟨h.below.trans h2.below, fun b t cs hb ht hne => (h2.other b t cs ((h.other b t cs hb ht hne).trans hb) ht hne).trans (h.other b t cs hb ht hne)⟩
theorem Grew.made {g E : Nat} {w w' : World} (hb : Below w.heap.size w w') (hg : g ≤ w.heap.size) : Grew g E w w' :=
  ⟨hb.mono hg, fun b t cs h _ _ => hb.block b (lt_blk h)⟩
end Go.Proofs.YtccknopchddicaaGreatDoor
/- contract: wFlat. -/
namespace Go.Proofs.YtccknopchddicaaGreatDoor
open Go.RowKit Stile
/-- a step that changes the variable po and the block of its list alone -/
structure Fl (po : Nat) (w w' : World) (sv sv' : Value) : Prop where
  below : Below po w w'
  other : ∀ b, b < w.heap.size → b ≠ po → some b ≠ sv.ownBlock → w'.heap[b]? = w.heap[b]?
  fresh : sv'.ownBlock = sv.ownBlock ∨ ∀ g, sv'.ownBlock = some g → w.heap.size ≤ g
theorem Fl.refl (po : Nat) (w : World) (sv : Value) : Fl po w w sv sv := ⟨Below.refl _ _, fun _ _ _ _ => rfl, .inl rfl⟩
theorem Fl.trans {po : Nat} {w w1 w2 : World} {sv sv1 sv2 : Value} (h : Fl po w w1 sv sv1) (h2 : Fl po w1 w2 sv1 sv2) : Fl po w w2 sv sv2 := by
  refine ⟨h.below.trans h2.below, fun b hb hne hs => ?_, ?_⟩
  · refine (h2.other b (Nat.lt_of_lt_of_le hb h.below.size) hne ?_).trans (h.other b hb hne hs)
    rcases h.fresh with e | e
    · rw [e]; exact hs
    · intro e2
      have := e b e2.symm
      omega
  · rcases h2.fresh with e | e
    · rw [e]; exact h.fresh
    · exact .inr fun g hg => Nat.le_trans h.below.size (e g hg)
theorem Fl.made {po : Nat} {w w' : World} {sv : Value} (hb : Below w.heap.size w w') (hpo : po ≤ w.heap.size) : Fl po w w' sv sv :=
  ⟨hb.mono hpo, fun b h _ _ => hb.block b h, .inl rfl⟩
theorem Fl.td {po : Nat} {w w' : World} {sv sv' : Value} {f : List Nd} (h : Fl po w w' sv sv') (ho : OutAt w po sv f) {lo hi : Nat} {t : W} {v : Value} (ht : Td w lo hi t v) : Td w' lo hi t v := by
  refine Td.keep (fun g _ _ cur hc => h.other g (lt_blk hc) ?_ ?_) t v ht
  · intro e; subst e; exact blk_type ho.blk hc (by decide) rfl
  · intro e
    obtain ⟨cur', hc'⟩ := own_blk ho.own e.symm
    exact blk_type hc hc' (by decide) rfl
theorem OutAt.drew {w : World} {po : Nat} {sv : Value} {f : List Nd} (h : OutAt w po sv f) : OutAt w.drew po sv f := ⟨h.blk, h.own⟩
theorem fl_append {w w5 : World} {po g n : Nat} {sv : Value} {f : List Nd} {x : Nd} {cap : Nat} {o : Obj} (hn : f.length = n) (ho : OutAt w po sv f) (hgrow : (w.alloc o).grownBy w5 sv.ownBlock)
    (hown : w5.ownsRow po 71 3 (.slice (some ⟨g, 0, none⟩) (n + 1) cap) (n + 1) (ndCells f ++ [.int .i64 x.k, .int .i64 x.a, .int .i64 x.b])) (hg : sv.ownBlock = some g ∨ g = w.heap.size + 1) :
    OutAt (w5.setCell ⟨po, 0, none⟩ (.slice (some ⟨g, 0, none⟩) (n + 1) cap)) po (.slice (some ⟨g, 0, none⟩) (n + 1) cap) (f ++ [x]) ∧
    Fl po w (w5.setCell ⟨po, 0, none⟩ (.slice (some ⟨g, 0, none⟩) (n + 1) cap)) sv (.slice (some ⟨g, 0, none⟩) (n + 1) cap) := by
  subst hn
  obtain ⟨h1, h2⟩ := fld_grew (k := 0) (u := .slice (some ⟨g, 0, none⟩) (f.length + 1) cap) ho.blk ho.own hgrow hown (by decide)
  have hk := fld_keep ho.blk ho.own hgrow (by decide)
  refine ⟨⟨?_, ?_⟩, h2.below, fun b hb hne hs => ?_, ?_⟩
  · have := fld_set hk 0 (.slice (some ⟨g, 0, none⟩) (f.length + 1) cap)
    simpa using this
  · rw [ndCells_append, List.length_append]; exact h1
  · exact (Below.heap_setCell w5 _ _ _ hne).trans ((hgrow.block b (by simp; omega) hs).trans (Below.heap_alloc w o b hb))
  · rcases hg with e | e
    · exact .inl e.symm
    · refine .inr fun g' hg' => ?_
      have : g = g' := by simpa [Value.ownBlock] using hg'
      omega
theorem Fl.set {po b k : Nat} {w w' : World} {sv sv' u : Value} (h : Fl po w w' sv sv') (hb : w.heap.size ≤ b) (hpo : po ≤ b) : Fl po w (w'.setCell ⟨b, k, none⟩ u) sv sv' :=
  ⟨h.below.setCell hpo _, fun c hc hne hs => (Below.heap_setCell w' _ _ _ (fun (e : c = b) => by omega)).trans (h.other c hc hne hs), h.fresh⟩
theorem OutAt.set {po b k : Nat} {w : World} {sv u : Value} {f : List Nd} (h : OutAt w po sv f) (h1 : b ≠ po) (h2 : sv.ownBlock ≠ some b) : OutAt (w.setCell ⟨b, k, none⟩ u) po sv f := by
  refine ⟨(Below.heap_setCell w _ _ _ (fun (e : po = b) => h1 e.symm)).trans h.blk, ?_⟩
  obtain ⟨a1, a2⟩ := h.own
  refine ⟨a1, ?_⟩
  rcases a2 with a2 | ⟨g, cap, cur, e, hbs, hh, r⟩
  · exact .inl a2
  · refine .inr ⟨g, cap, cur, e, hbs, (Below.heap_setCell w _ _ _ (fun (e2 : g = b) => h2 ?_)).trans hh, r⟩
    rw [e, ← e2]; rfl
/-- what wFlat does at a tree -/
def FlatOk (t : W) : Prop := ∀ (v sv : Value) (f : List Nd) (po hi : Nat) (w : World), Td w 0 hi t v → hi ≤ w.heap.size → OutAt w po sv f → f.length + t.size ≤ 100000 →
  Calls Tryz.prog 46 #[v, .pointer (some ⟨po, 0, none⟩)] w fun e w' => e = .returned (.int .i64 ((f.length : Int) + t.size - 1)) ∧ ∃ sv', OutAt w' po sv' (f ++ t.flat f.length) ∧ Fl po w w' sv sv'
set_option maxRecDepth 100000 in
theorem flat_n0 (k s : Int) : FlatOk (.n0 k s) := by
  intro v sv f po hi w hv hhi ho hlen
  obtain rfl := hv
  have hlen : f.length + 1 ≤ 100000 := hlen
  have HO := Lib.hid ho
  clear ho
  go_enter Tryz.func46, Tryz.ntmps46
  go_upto_region 6 with fail
  obtain ⟨W6, hW6⟩ : ∃ W6, (w.alloc (Obj.cells #[.int .i64 k, .int .i64 s, .slice none 0 0] 29)).alloc (Obj.cells #[.int .i64 k, .int .i64 s, .int .i64 0] 71) = W6 := ⟨_, rfl⟩
  have hb6 : Below w.heap.size w W6 := by rw [← hW6]; exact ((Below.refl _ _).alloc (Nat.le_refl _) _).alloc (by simp) _
  have htb : W6.heap[w.heap.size + 1]? = some (Obj.cells #[.int .i64 k, .int .i64 s, .int .i64 0] 71) := by rw [← hW6]; exact heap_new2 _ _ _
  rw [hW6]
  obtain ⟨F, hF⟩ : ∃ F, f = F := ⟨_, rfl⟩
  have ho6 := HO.out.made hb6
  rw [hF] at ho6 hlen
  have HF := Lib.hid hF
  have HO6 := Lib.hid ho6
  have HF6 := Lib.hid (Fl.made (sv := sv) hb6 (Nat.le_of_lt (lt_blk HO.out.blk)))
  have htc := fun j => fld_cell htb j
  have t0 := htc 0
  have t1 := htc 1
  have t2 := htc 2
  have htl := lt_blk htb
  simp at t0 t1 t2
  clear htc htb hW6 hb6 ho6 hF
  obtain ⟨i0, hi0, hz0, hz1, hz2⟩ := info_parts info_nd
  obtain ⟨A6, C6, rfl⟩ := own_shape HO6.out.own
  have hown := HO6.out.own
  have hcp := fld_cell HO6.out.blk 0
  simp at hcp
  have hpl : po < W6.heap.size := lt_blk HO6.out.blk
  generalize hfl : F.length = n6 at *
  have HN6 := Lib.hid hfl
  clear hfl
  go_region_law (first
    | (refine step_append_lies _ (by rfl) _ _ _ (by rfl) po 71 i0 _ 3 24 Tryz.underlying22 hi0 hz0 hz1 hz2 (by rfl) (by decide) (.slice A6 n6 C6) n6 _ (by rfl) (hown.alloc _) ⟨W6.heap.size, 0, none⟩ 1 1 [.int .i64 k, .int .i64 s, .int .i64 0] (by rfl) (by rfl) (cell_three_new _ _ _ _ _) (by simp [Value.oneCell']) (by decide) (by unfold maxLen; omega) (by omega) (by simp; omega) _ (by rfl) ?_; intro g' cap' w5 hown5 hgrow5 hat5 hlt5; have hk5 := fld_keep (w := W6.drew) HO6.out.blk HO6.out.own hgrow5 (by decide); have hc5 := fld_cell hk5 0; simp at hc5; have hf5 := fld_frozen hk5 0; have hl5 := lt_blk hk5; clear hk5))
  all_goals
    obtain ⟨hq1, hq2⟩ := fl_append (w := W6.drew) (x := ⟨k, s, 0⟩) (g := g') (cap := cap') HN6.out HO6.out.drew hgrow5 hown5 (by rcases hat5 with e | e; exact .inl e; exact .inr (by rw [e]; simp))
    have HQ1 := Lib.hid hq1
    have HQ2 := Lib.hid hq2
    clear hq1 hq2 hown5 hgrow5 hat5
    go_wp2_with fail
    go_ret
    obtain rfl := HN6.out
    refine ⟨?_, .slice (some ⟨g', 0, none⟩) (F.length + 1) cap', ?_, HF6.out.trans ((Fl.made (Below.refl W6.heap.size W6).drew (Nat.le_of_lt hpl)).trans HQ2.out)⟩
    · have e : (F.length : Int) = (f.length : Int) + ((W.n0 k s).size : Nat) - 1 := by rw [← HF.out]; simp [W.size, W.flat_len] <;> omega
      rw [← e]; rfl
    · have e2 : f ++ (W.n0 k s).flat f.length = F ++ [⟨k, s, 0⟩] := by rw [← HF.out]; simp [W.flat]
      rw [e2]; exact HQ1.out
set_option maxRecDepth 100000 in
set_option maxHeartbeats 800000 in
theorem flat_n1 (k : Int) (x : W) (ih : FlatOk x) : FlatOk (.n1 k x) := by
  intro v sv f po hi w hv hhi ho hlen
  obtain ⟨g, c, a, rfl, hc1, _, hg, hkid, htd⟩ := hv
  obtain ⟨ak, as1, aA, an, ac, rfl⟩ := htd.shape
  obtain ⟨q0, q1, q2, hgl⟩ := hkid.cells
  have hlen : f.length + (x.size + 1) ≤ 100000 := hlen
  have hop := lt_blk ho.blk
  have HO := Lib.hid ho
  have HTD := Lib.hid htd
  have HIH := Lib.hid ih
  clear ho htd hkid ih
  simp at q0 q1 q2
  go_enter Tryz.func46, Tryz.ntmps46
  go_wp2_with fail
  obtain ⟨W6, hW6⟩ : ∃ W6, (w.alloc (Obj.cells #[.int .i64 k, .int .i64 0, .slice (some ⟨g, 0, none⟩) 1 c] 29)).alloc (Obj.cells #[.int .i64 k, .int .i64 0, .int .i64 0] 71) = W6 := ⟨_, rfl⟩
  have hb6 : Below w.heap.size w W6 := by rw [← hW6]; exact ((Below.refl _ _).alloc (Nat.le_refl _) _).alloc (by simp) _
  have htb : W6.heap[w.heap.size + 1]? = some (Obj.cells #[.int .i64 k, .int .i64 0, .int .i64 0] 71) := by rw [← hW6]; exact heap_new2 _ _ _
  have hxb : W6.heap[w.heap.size]? = some (Obj.cells #[.int .i64 k, .int .i64 0, .slice (some ⟨g, 0, none⟩) 1 c] 29) := by rw [← hW6]; exact heap_old2 _ _ _
  rw [hW6]
  have ho6 := HO.out.made hb6
  have hf6 := Fl.made (sv := sv) hb6 (Nat.le_of_lt hop)
  refine (HIH.out _ sv f po hi W6 (HTD.out.below (hb6.mono hhi)) (by have := hb6.size; omega) ho6 (by omega)).mono ?_
  rintro e w7 ⟨rfl, sv7, ho7, hf7⟩
  have hsv : sv.ownBlock ≠ some (w.heap.size + 1) := fun e => by have := (HO.out.own.lt _ e).2; omega
  have hsv0 : sv.ownBlock ≠ some w.heap.size := fun e => by have := (HO.out.own.lt _ e).2; omega
  have htb7 := (hf7.other (w.heap.size + 1) (lt_blk htb) (by omega) (fun e => hsv e.symm)).trans htb
  have hxb7 := (hf7.other w.heap.size (lt_blk hxb) (by omega) (fun e => hsv0 e.symm)).trans hxb
  have hsv7 : sv7.ownBlock ≠ some (w.heap.size + 1) := by
    rcases hf7.fresh with e | e
    · rw [e]; exact hsv
    · intro e2; have h1 := e _ e2; have h2 := lt_blk htb; omega
  have hf67 := hf6.trans hf7
  have HHF := Lib.hid hf67
  have htc := fun j => fld_cell htb7 j
  have s1 := htc 1
  have s1f := fld_frozen htb7 1
  have hxc := fld_cell hxb7 2
  have hxl := lt_blk hxb7
  have htl7 := lt_blk htb7
  simp at s1 hxc
  have HTB7 := Lib.hid htb7
  have HO7 := Lib.hid ho7
  have HSV7 := Lib.hid hsv7
  clear htc htb7 hxb7 ho7 hsv7 hf67 hf6 hf7 hsv hsv0 ho6 htb hxb hb6 hW6
  obtain ⟨xa, hxa⟩ : ∃ xa, (f.length : Int) + x.size - 1 = xa := ⟨_, rfl⟩
  rw [hxa]
  have HXA := Lib.hid hxa
  clear hxa
  go_upto_region 6 with fail
  obtain ⟨W6, hW6⟩ : ∃ W6, w7.setCell ⟨w.heap.size + 1, 1, none⟩ (.int .i64 xa) = W6 := ⟨_, rfl⟩
  rw [hW6]
  have htb : W6.heap[w.heap.size + 1]? = some (Obj.cells #[.int .i64 k, .int .i64 xa, .int .i64 0] 71) := by
    have := fld_set HTB7.out 1 (.int .i64 xa)
    rw [hW6] at this; simpa using this
  have ho6 := HO7.out.set (k := 1) (u := .int .i64 xa) (b := w.heap.size + 1) (by omega) HSV7.out
  have hf6 := HHF.out.set (k := 1) (u := .int .i64 xa) (b := w.heap.size + 1) (by omega) (by omega)
  rw [hW6] at ho6 hf6
  obtain ⟨F, hF⟩ : ∃ F, f ++ x.flat f.length = F := ⟨_, rfl⟩
  have hlenF : F.length ≤ 99999 := by rw [← hF, List.length_append, W.flat_len]; omega
  rw [hF] at ho6
  have HF := Lib.hid hF
  have HO6 := Lib.hid ho6
  have HF6 := Lib.hid hf6
  have htc := fun j => fld_cell htb j
  have t0 := htc 0
  have t1 := htc 1
  have t2 := htc 2
  have htl := lt_blk htb
  simp at t0 t1 t2
  clear htc htb hW6 ho6 hF hf6 s1 s1f hxc q0 q1 q2
  obtain ⟨i0, hi0, hz0, hz1, hz2⟩ := info_parts info_nd
  obtain ⟨A6, C6, rfl⟩ := own_shape HO6.out.own
  have hown := HO6.out.own
  have hcp := fld_cell HO6.out.blk 0
  simp at hcp
  have hpl : po < W6.heap.size := lt_blk HO6.out.blk
  generalize hfl : F.length = n6 at *
  have HN6 := Lib.hid hfl
  clear hfl
  go_region_law (first
    | (refine step_append_lies _ (by rfl) _ _ _ (by rfl) po 71 i0 _ 3 24 Tryz.underlying22 hi0 hz0 hz1 hz2 (by rfl) (by decide) (.slice A6 n6 C6) n6 _ (by rfl) (hown.alloc _) ⟨W6.heap.size, 0, none⟩ 1 1 [.int .i64 k, .int .i64 xa, .int .i64 0] (by rfl) (by rfl) (cell_three_new _ _ _ _ _) (by simp [Value.oneCell']) (by decide) (by unfold maxLen; omega) (by omega) (by simp; omega) _ (by rfl) ?_; intro g' cap' w5 hown5 hgrow5 hat5 hlt5; have hk5 := fld_keep (w := W6.drew) HO6.out.blk HO6.out.own hgrow5 (by decide); have hc5 := fld_cell hk5 0; simp at hc5; have hf5 := fld_frozen hk5 0; have hl5 := lt_blk hk5; clear hk5))
  all_goals
    obtain ⟨hq1, hq2⟩ := fl_append (w := W6.drew) (x := ⟨k, xa, 0⟩) (g := g') (cap := cap') HN6.out HO6.out.drew hgrow5 hown5 (by rcases hat5 with e | e; exact .inl e; exact .inr (by rw [e]; simp))
    have HQ1 := Lib.hid hq1
    have HQ2 := Lib.hid hq2
    clear hq1 hq2 hown5 hgrow5 hat5
    go_wp2_with fail
    go_ret
    obtain rfl := HN6.out
    refine ⟨?_, .slice (some ⟨g', 0, none⟩) (F.length + 1) cap', ?_, HF6.out.trans ((Fl.made (Below.refl W6.heap.size W6).drew (Nat.le_of_lt hpl)).trans HQ2.out)⟩
    · have e : (F.length : Int) = (f.length : Int) + ((W.n1 k x).size : Nat) - 1 := by rw [← HF.out]; simp [W.size, W.flat_len] <;> omega
      rw [← e]; rfl
    · have e2 : f ++ (W.n1 k x).flat f.length = F ++ [⟨k, xa, 0⟩] := by rw [← HF.out, ← HXA.out]; simp [W.flat]
      rw [e2]; exact HQ1.out
set_option maxRecDepth 100000 in
set_option maxHeartbeats 1600000 in
theorem flat_n2 (k : Int) (x y : W) (ih : FlatOk x) (ih2 : FlatOk y) : FlatOk (.n2 k x y) := by
  intro v sv f po hi w hv hhi ho hlen
  obtain ⟨g, c, a, b, rfl, hc1, _, hg, hkid, hkid2, htd, htd2⟩ := hv
  obtain ⟨_, _, _, cur, _, hgb, _⟩ := id hkid
  obtain ⟨ak, as1, aA, an, ac, rfl⟩ := htd.shape
  obtain ⟨q0, q1, q2, hgl⟩ := hkid.cells
  obtain ⟨bk, bs, bA, bn, bc, rfl⟩ := htd2.shape
  obtain ⟨r0, r1, r2, _⟩ := hkid2.cells
  have hlen : f.length + (x.size + y.size + 1) ≤ 100000 := hlen
  have hop := lt_blk ho.blk
  have HO := Lib.hid ho
  have HTD := Lib.hid htd
  have HIH := Lib.hid ih
  have HTD2 := Lib.hid htd2
  have HIH2 := Lib.hid ih2
  have hgpo : g ≠ po := fun e => by subst e; exact blk_type HO.out.blk hgb (by decide) rfl
  have hgown : sv.ownBlock ≠ some g := fun e => by obtain ⟨cur', hc'⟩ := own_blk HO.out.own e; exact blk_type hgb hc' (by decide) rfl
  simp at q0 q1 q2 r0 r1 r2
  have HR0 := Lib.hid r0
  have HR1 := Lib.hid r1
  have HR2 := Lib.hid r2
  clear ho htd hkid ih htd2 hkid2 ih2 hgb r0 r1 r2
  go_enter Tryz.func46, Tryz.ntmps46
  go_wp2_with fail
  obtain ⟨W6, hW6⟩ : ∃ W6, (w.alloc (Obj.cells #[.int .i64 k, .int .i64 0, .slice (some ⟨g, 0, none⟩) 2 c] 29)).alloc (Obj.cells #[.int .i64 k, .int .i64 0, .int .i64 0] 71) = W6 := ⟨_, rfl⟩
  have hb6 : Below w.heap.size w W6 := by rw [← hW6]; exact ((Below.refl _ _).alloc (Nat.le_refl _) _).alloc (by simp) _
  have htb : W6.heap[w.heap.size + 1]? = some (Obj.cells #[.int .i64 k, .int .i64 0, .int .i64 0] 71) := by rw [← hW6]; exact heap_new2 _ _ _
  have hxb : W6.heap[w.heap.size]? = some (Obj.cells #[.int .i64 k, .int .i64 0, .slice (some ⟨g, 0, none⟩) 2 c] 29) := by rw [← hW6]; exact heap_old2 _ _ _
  rw [hW6]
  have ho6 := HO.out.made hb6
  have hf6 := Fl.made (sv := sv) hb6 (Nat.le_of_lt hop)
  refine (HIH.out _ sv f po hi W6 (HTD.out.below (hb6.mono hhi)) (by have := hb6.size; omega) ho6 (by omega)).mono ?_
  rintro e w7 ⟨rfl, sv7, ho7, hf7⟩
  have hsv : sv.ownBlock ≠ some (w.heap.size + 1) := fun e => by have := (HO.out.own.lt _ e).2; omega
  have hsv0 : sv.ownBlock ≠ some w.heap.size := fun e => by have := (HO.out.own.lt _ e).2; omega
  have htb7 := (hf7.other (w.heap.size + 1) (lt_blk htb) (by omega) (fun e => hsv e.symm)).trans htb
  have hxb7 := (hf7.other w.heap.size (lt_blk hxb) (by omega) (fun e => hsv0 e.symm)).trans hxb
  have hsv7 : sv7.ownBlock ≠ some (w.heap.size + 1) := by
    rcases hf7.fresh with e | e
    · rw [e]; exact hsv
    · intro e2; have h1 := e _ e2; have h2 := lt_blk htb; omega
  have hf67 := hf6.trans hf7
  have HHF := Lib.hid hf67
  have htc := fun j => fld_cell htb7 j
  have s1 := htc 1
  have s1f := fld_frozen htb7 1
  have hxc := fld_cell hxb7 2
  have hxl := lt_blk hxb7
  have htl7 := lt_blk htb7
  simp at s1 hxc
  have HTB7 := Lib.hid htb7
  have HXB7 := Lib.hid hxb7
  have HO7 := Lib.hid ho7
  have HSV7 := Lib.hid hsv7
  clear htc htb7 hxb7 ho7 hsv7 hf67 hf6 hf7 hsv hsv0 ho6 htb hxb hb6 hW6
  obtain ⟨xa, hxa⟩ : ∃ xa, (f.length : Int) + x.size - 1 = xa := ⟨_, rfl⟩
  rw [hxa]
  have HXA := Lib.hid hxa
  clear hxa
  go_upto_region 4 with fail
  obtain ⟨W8, hW8⟩ : ∃ W8, w7.setCell ⟨w.heap.size + 1, 1, none⟩ (.int .i64 xa) = W8 := ⟨_, rfl⟩
  rw [hW8]
  have htb : W8.heap[w.heap.size + 1]? = some (Obj.cells #[.int .i64 k, .int .i64 xa, .int .i64 0] 71) := by
    have := fld_set HTB7.out 1 (.int .i64 xa)
    rw [hW8] at this; simpa using this
  have hxb8 : W8.heap[w.heap.size]? = some (Obj.cells #[.int .i64 k, .int .i64 0, .slice (some ⟨g, 0, none⟩) 2 c] 29) := by
    rw [← hW8]; exact (Below.heap_setCell w7 _ _ _ (by simp)).trans HXB7.out
  have ho8 := HO7.out.set (k := 1) (u := .int .i64 xa) (b := w.heap.size + 1) (by omega) HSV7.out
  have hf8 := HHF.out.set (k := 1) (u := .int .i64 xa) (b := w.heap.size + 1) (by omega) (by omega)
  rw [hW8] at ho8 hf8
  obtain ⟨F1, hF1⟩ : ∃ F1, f ++ x.flat f.length = F1 := ⟨_, rfl⟩
  have hlF1 : F1.length = f.length + x.size := by rw [← hF1, List.length_append, W.flat_len]
  rw [hF1] at ho8
  have e8 := hf8.other g hgl hgpo (fun e => hgown e.symm)
  have r0 := (World.cell?_of_block (w := w) e8).trans HR0.out
  have r1 := (World.cell?_of_block (w := w) e8).trans HR1.out
  have r2 := (World.cell?_of_block (w := w) e8).trans HR2.out
  have hgl8 : g < W8.heap.size := Nat.lt_of_lt_of_le hgl hf8.below.size
  have hxc8 := fld_cell hxb8 2
  have hxl8 := lt_blk hxb8
  have htl8 := lt_blk htb
  have htd8 := Td.keep (w' := W8) (fun b h1 h2 cur hc => hf8.other b (lt_blk hc) (fun e => by subst e; exact blk_type HO.out.blk hc (by decide) rfl) (fun e => by obtain ⟨cur', hc'⟩ := own_blk HO.out.own e.symm; exact blk_type hc hc' (by decide) rfl)) y _ HTD2.out
  simp at hxc8
  have HW8 := Lib.hid hW8
  have HTB8 := Lib.hid htb
  have HO8 := Lib.hid ho8
  have HF8 := Lib.hid hf8
  have HF1 := Lib.hid hF1
  have HLF1 := Lib.hid hlF1
  have HTD8 := Lib.hid htd8
  clear hW8 htb hxb8 ho8 hf8 hF1 hlF1 e8 htd8 s1 s1f hxc q0 q1 q2 HTB7 HXB7
  go_wp2_with fail
  refine (HIH2.out _ sv7 F1 po hi W8 HTD8.out (by have := HF8.out.below.size; omega) HO8.out (by have := HLF1.out; omega)).mono ?_
  rintro e w9 ⟨rfl, sv9, ho9, hf9⟩
  have htb9 := (hf9.other (w.heap.size + 1) (lt_blk HTB8.out) (by omega) (fun e => HSV7.out e.symm)).trans HTB8.out
  have hsv9 : sv9.ownBlock ≠ some (w.heap.size + 1) := by
    rcases hf9.fresh with e | e
    · rw [e]; exact HSV7.out
    · intro e2; have h1 := e _ e2; omega
  have hf69 := HF8.out.trans hf9
  have HHF9 := Lib.hid hf69
  have u2 := fld_cell htb9 2
  have u2f := fld_frozen htb9 2
  have htl9 := lt_blk htb9
  simp at u2
  have HTB9 := Lib.hid htb9
  have HO9 := Lib.hid ho9
  have HSV9 := Lib.hid hsv9
  obtain ⟨xb, hxb⟩ : ∃ xb, (F1.length : Int) + y.size - 1 = xb := ⟨_, rfl⟩
  rw [hxb]
  have HXB := Lib.hid hxb
  clear hxb htb9 ho9 hsv9 hf69 hf9 hxc8 r0 r1 r2
  go_upto_region 6 with fail
  obtain ⟨W6, hW6⟩ : ∃ W6, w9.setCell ⟨w.heap.size + 1, 2, none⟩ (.int .i64 xb) = W6 := ⟨_, rfl⟩
  rw [hW6]
  have htb : W6.heap[w.heap.size + 1]? = some (Obj.cells #[.int .i64 k, .int .i64 xa, .int .i64 xb] 71) := by
    have := fld_set HTB9.out 2 (.int .i64 xb)
    rw [hW6] at this; simpa using this
  have ho6 := HO9.out.set (k := 2) (u := .int .i64 xb) (b := w.heap.size + 1) (by omega) HSV9.out
  have hf6 := HHF9.out.set (k := 2) (u := .int .i64 xb) (b := w.heap.size + 1) (by omega) (by omega)
  rw [hW6] at ho6 hf6
  obtain ⟨F, hF⟩ : ∃ F, F1 ++ y.flat F1.length = F := ⟨_, rfl⟩
  have hlenF : F.length ≤ 99999 := by rw [← hF, List.length_append, W.flat_len, HLF1.out]; omega
  rw [hF] at ho6
  have HF := Lib.hid hF
  have HO6 := Lib.hid ho6
  have HF6 := Lib.hid hf6
  have htc := fun j => fld_cell htb j
  have t0 := htc 0
  have t1 := htc 1
  have t2 := htc 2
  have htl := lt_blk htb
  simp at t0 t1 t2
  clear htc htb hW6 ho6 hF hf6 u2 u2f
  obtain ⟨i0, hi0, hz0, hz1, hz2⟩ := info_parts info_nd
  obtain ⟨A6, C6, rfl⟩ := own_shape HO6.out.own
  have hown := HO6.out.own
  have hcp := fld_cell HO6.out.blk 0
  simp at hcp
  have hpl : po < W6.heap.size := lt_blk HO6.out.blk
  generalize hfl : F.length = n6 at *
  have HN6 := Lib.hid hfl
  clear hfl
  go_region_law (first
    | (refine step_append_lies _ (by rfl) _ _ _ (by rfl) po 71 i0 _ 3 24 Tryz.underlying22 hi0 hz0 hz1 hz2 (by rfl) (by decide) (.slice A6 n6 C6) n6 _ (by rfl) (hown.alloc _) ⟨W6.heap.size, 0, none⟩ 1 1 [.int .i64 k, .int .i64 xa, .int .i64 xb] (by rfl) (by rfl) (cell_three_new _ _ _ _ _) (by simp [Value.oneCell']) (by decide) (by unfold maxLen; omega) (by omega) (by simp; omega) _ (by rfl) ?_; intro g' cap' w5 hown5 hgrow5 hat5 hlt5; have hk5 := fld_keep (w := W6.drew) HO6.out.blk HO6.out.own hgrow5 (by decide); have hc5 := fld_cell hk5 0; simp at hc5; have hf5 := fld_frozen hk5 0; have hl5 := lt_blk hk5; clear hk5))
  all_goals
    obtain ⟨hq1, hq2⟩ := fl_append (w := W6.drew) (x := ⟨k, xa, xb⟩) (g := g') (cap := cap') HN6.out HO6.out.drew hgrow5 hown5 (by rcases hat5 with e | e; exact .inl e; exact .inr (by rw [e]; simp))
    have HQ1 := Lib.hid hq1
    have HQ2 := Lib.hid hq2
    clear hq1 hq2 hown5 hgrow5 hat5
    go_wp2_with fail
    go_ret
    obtain rfl := HN6.out
    refine ⟨?_, .slice (some ⟨g', 0, none⟩) (F.length + 1) cap', ?_, HF6.out.trans ((Fl.made (Below.refl W6.heap.size W6).drew (Nat.le_of_lt hpl)).trans HQ2.out)⟩
    · have e : (F.length : Int) = (f.length : Int) + ((W.n2 k x y).size : Nat) - 1 := by rw [← HF.out, List.length_append, W.flat_len, HLF1.out]; simp [W.size] <;> omega
      rw [← e]; rfl
    · have e2 : f ++ (W.n2 k x y).flat f.length = F ++ [⟨k, xa, xb⟩] := by rw [← HF.out, ← HXA.out, ← HXB.out, HLF1.out, ← HF1.out]; simp [W.flat]
      rw [e2]; exact HQ1.out
theorem flat_all : ∀ t : W, FlatOk t
  | .n0 k s => flat_n0 k s
  | .n1 k x => flat_n1 k x (flat_all x)
  | .n2 k x y => flat_n2 k x y (flat_all x) (flat_all y)
end Go.Proofs.YtccknopchddicaaGreatDoor
/- contract: wOf. -/
namespace Go.Proofs.YtccknopchddicaaGreatDoor
open Go.RowKit Stile
/-- v is the tree; the lists of its parts lie in blocks of their own, from lo on, below hi -/
def Tk (w : World) : W → Nat → Nat → Value → Prop
  | .n0 k s, lo, hi, v => v = .agg #[.int .i64 k, .int .i64 s, .slice none 0 0] ∧ lo ≤ hi
  | .n1 k x, lo, hi, v => ∃ g c a, v = .agg #[.int .i64 k, .int .i64 0, .slice (some ⟨g, 0, none⟩) 1 c] ∧ 1 ≤ c ∧ lo ≤ g ∧ g < hi ∧ KidAt w g 0 a ∧ Tk w x lo g a
  | .n2 k x y, lo, hi, v => ∃ g c m a b, v = .agg #[.int .i64 k, .int .i64 0, .slice (some ⟨g, 0, none⟩) 2 c] ∧ 2 ≤ c ∧ lo ≤ m ∧ m ≤ g ∧ g < hi ∧ KidAt w g 0 a ∧ KidAt w g 1 b ∧ Tk w x lo m a ∧ Tk w y m g b
theorem Tk.td {w : World} : ∀ (t : W) (lo hi : Nat) (v : Value), Tk w t lo hi v → Td w lo hi t v := by
  intro t
  induction t with
  | n0 k s => intro lo hi v h; exact h.1
  | n1 k x ih =>
    rintro lo hi v ⟨g, c, a, e, h1, h2, h3, h4, h5⟩
    exact ⟨g, c, a, e, h1, h2, h3, h4, Td.mono (Nat.le_refl _) (by omega) _ _ (ih lo g a h5)⟩
  | n2 k x y ih1 ih2 =>
    rintro lo hi v ⟨g, c, m, a, b, e, h1, h2, h3, h4, h5, h6, h7, h8⟩
    exact ⟨g, c, a, b, e, h1, by omega, h4, h5, h6, Td.mono (Nat.le_refl _) (by omega) _ _ (ih1 lo m a h7), Td.mono h2 (by omega) _ _ (ih2 m g b h8)⟩
theorem Tk.keep {w w' : World} : ∀ (t : W) (lo hi : Nat) (v : Value), (∀ g, lo ≤ g → g < hi → w'.heap[g]? = w.heap[g]?) → Tk w t lo hi v → Tk w' t lo hi v := by
  intro t
  induction t with
  | n0 k s => intro lo hi v _ h; exact h
  | n1 k x ih =>
    rintro lo hi v hk ⟨g, c, a, e, h1, h2, h3, h4, h5⟩
    exact ⟨g, c, a, e, h1, h2, h3, h4.keep (hk g h2 h3), ih lo g a (fun b q1 q2 => hk b q1 (by omega)) h5⟩
  | n2 k x y ih1 ih2 =>
    rintro lo hi v hk ⟨g, c, m, a, b, e, h1, h2, h3, h4, h5, h6, h7, h8⟩
    exact ⟨g, c, m, a, b, e, h1, h2, h3, h4, h5.keep (hk g (by omega) h4), h6.keep (hk g (by omega) h4), ih1 lo m a (fun b q1 q2 => hk b q1 (by omega)) h7, ih2 m g b (fun b q1 q2 => hk b (by omega) (by omega)) h8⟩
theorem Tk.mono {w : World} : ∀ (t : W) (lo hi lo' hi' : Nat) (v : Value), lo' ≤ lo → hi ≤ hi' → Tk w t lo hi v → Tk w t lo' hi' v := by
  intro t
  induction t with
  | n0 k s => intro lo hi lo' hi' v h1 h2 h; exact ⟨h.1, by have := h.2; omega⟩
  | n1 k x ih =>
    rintro lo hi lo' hi' v q1 q2 ⟨g, c, a, e, h1, h2, h3, h4, h5⟩
    exact ⟨g, c, a, e, h1, by omega, by omega, h4, ih lo g lo' g a q1 (Nat.le_refl _) h5⟩
  | n2 k x y ih1 ih2 =>
    rintro lo hi lo' hi' v q1 q2 ⟨g, c, m, a, b, e, h1, h2, h3, h4, h5, h6, h7, h8⟩
    exact ⟨g, c, m, a, b, e, h1, by omega, h3, by omega, h5, h6, ih1 lo m lo' m a q1 (Nat.le_refl _) h7, h8⟩
/-- the counter lies in block pl -/
def LeftAt (w : World) (pl : Nat) (l : Int) : Prop := w.heap[pl]? = some (Obj.cells #[.int .i64 l] 3)
/-- a step that changes block pl alone -/
structure Op (pl : Nat) (w w' : World) : Prop where
  below : Below pl w w'
  other : ∀ b, b < w.heap.size → b ≠ pl → w'.heap[b]? = w.heap[b]?
theorem Op.refl (pl : Nat) (w : World) : Op pl w w := ⟨Below.refl _ _, fun _ _ _ => rfl⟩
theorem Op.trans {pl : Nat} {w w1 w2 : World} (h : Op pl w w1) (h2 : Op pl w1 w2) : Op pl w w2 :=
  ⟨h.below.trans h2.below, fun b hb hne => (h2.other b (Nat.lt_of_lt_of_le hb h.below.size) hne).trans (h.other b hb hne)⟩
theorem Op.made {pl : Nat} {w w' : World} (hb : Below w.heap.size w w') (hp : pl ≤ w.heap.size) : Op pl w w' := ⟨hb.mono hp, fun b h _ => hb.block b h⟩
theorem Op.setNew {pl b k : Nat} {w w' : World} {u : Value} (h : Op pl w w') (hb : w.heap.size ≤ b) (hp : pl ≤ b) : Op pl w (w'.setCell ⟨b, k, none⟩ u) :=
  ⟨h.below.setCell hp _, fun c hc hne => (Below.heap_setCell w' _ _ _ (fun (e : c = b) => by omega)).trans (h.other c hc hne)⟩
theorem Op.setLeft {pl : Nat} {w w' : World} {u : Value} (h : Op pl w w') : Op pl w (w'.setCell ⟨pl, 0, none⟩ u) :=
  ⟨h.below.setCell (Nat.le_refl _) _, fun c hc hne => (Below.heap_setCell w' _ _ _ hne).trans (h.other c hc hne)⟩
/-- what wOf makes at node k -/
def OfPost (t : W) (k : Nat) (pl : Nat) (l : Int) (w : World) (v : Value) (w' : World) : Prop :=
  Op pl w w' ∧ (∃ k' s A n c, v = .agg #[.int .i64 k', .int .i64 s, .slice A n c]) ∧
    ((t.size ≤ l ∧ LeftAt w' pl (l - t.size) ∧ Tk w' t w.heap.size w'.heap.size v) ∨
     (l < t.size ∧ ∃ l', LeftAt w' pl l' ∧ l' < 0 ∧ (l < 0 → l' = l - 1) ∧ (0 ≤ l → -((k : Int) + 1) ≤ l')))
def OfOk (f : List Nd) (k : Nat) : Prop := ∀ (fv : Value) (pl : Nat) (l : Int) (w : World), RdN w pl fv f → LeftAt w pl l → -1000 ≤ l → l ≤ 100 →
  Calls Tryz.prog 29 #[fv, .int .i64 (k : Int), .pointer (some ⟨pl, 0, none⟩)] w fun e w' => ∃ v, e = .returned v ∧ OfPost (getW (treesL f) k) k pl l w v w'
theorem three_new (w : World) (o1 o2 o3 : Obj) : (((w.alloc o1).alloc o2).alloc o3).heap[w.heap.size]? = some o1 ∧ (((w.alloc o1).alloc o2).alloc o3).heap[w.heap.size + 1]? = some o2 ∧ (((w.alloc o1).alloc o2).alloc o3).heap[w.heap.size + 2]? = some o3 := by
  refine ⟨(Below.heap_alloc _ o3 _ (by simp; omega)).trans (heap_old2 w o1 o2), (Below.heap_alloc _ o3 _ (by simp)).trans (heap_new2 w o1 o2), ?_⟩
  have h := heap_new ((w.alloc o1).alloc o2) o3
  rwa [show ((w.alloc o1).alloc o2).heap.size = w.heap.size + 2 from by simp] at h
/-- the three blocks that wOf makes at its head, and the counter -/
structure OfHead (w W : World) (pl : Nat) (l xk xs xa xb : Int) (v : Value) : Prop where
  op : Op pl w W
  left : LeftAt W pl l
  res : W.heap[w.heap.size]? = some (Obj.cells #[.int .i64 0, .int .i64 0, .slice none 0 0] 29)
  node : W.heap[w.heap.size + 1]? = some (Obj.cells #[.int .i64 xk, .int .i64 xa, .int .i64 xb] 71)
  tree : W.heap[w.heap.size + 2]? = some (Obj.cells #[.int .i64 xk, .int .i64 xs, v] 29)
theorem of_head {w W3 : World} {pl : Nat} {l xk xa xb : Int} (hl : LeftAt w pl l) (hW : (((w.alloc (Obj.cells #[.int .i64 0, .int .i64 0, .slice none 0 0] 29)).alloc (Obj.cells #[.int .i64 xk, .int .i64 xa, .int .i64 xb] 71)).alloc (Obj.cells #[.int .i64 xk, .int .i64 0, .slice none 0 0] 29)) = W3) :
    OfHead w (W3.setCell ⟨pl, 0, none⟩ (.int .i64 (l - 1))) pl (l - 1) xk 0 xa xb (.slice none 0 0) := by
  subst hW
  have hb3 : Below w.heap.size w (((w.alloc (Obj.cells #[.int .i64 0, .int .i64 0, .slice none 0 0] 29)).alloc (Obj.cells #[.int .i64 xk, .int .i64 xa, .int .i64 xb] 71)).alloc (Obj.cells #[.int .i64 xk, .int .i64 0, .slice none 0 0] 29)) := (((Below.refl _ _).alloc (Nat.le_refl _) _).alloc (by simp) _).alloc (by simp; omega) _
  have hpl := lt_blk hl
  obtain ⟨h1, h2, h3⟩ := three_new w (Obj.cells #[.int .i64 0, .int .i64 0, .slice none 0 0] 29) (Obj.cells #[.int .i64 xk, .int .i64 xa, .int .i64 xb] 71) (Obj.cells #[.int .i64 xk, .int .i64 0, .slice none 0 0] 29)
  refine ⟨(Op.made hb3 (by omega)).setLeft, ?_, ?_, ?_, ?_⟩
  · have := fld_set ((hb3.block _ hpl).trans hl) 0 (.int .i64 (l - 1))
    simpa [LeftAt] using this
  · exact (Below.heap_setCell _ _ _ _ (fun (e : w.heap.size = pl) => by omega)).trans h1
  · exact (Below.heap_setCell _ _ _ _ (fun (e : w.heap.size + 1 = pl) => by omega)).trans h2
  · exact (Below.heap_setCell _ _ _ _ (fun (e : w.heap.size + 2 = pl) => by omega)).trans h3
theorem OfHead.fin {w W : World} {pl : Nat} {l xk xs xa xb : Int} {v : Value} (h : OfHead w W pl l xk xs xa xb v) (hpl : pl < w.heap.size) :
    Op pl w (((W.setCell ⟨w.heap.size, 0, none⟩ (.int .i64 xk)).setCell ⟨w.heap.size, 1, none⟩ (.int .i64 xs)).setCell ⟨w.heap.size, 2, none⟩ v) ∧
    LeftAt (((W.setCell ⟨w.heap.size, 0, none⟩ (.int .i64 xk)).setCell ⟨w.heap.size, 1, none⟩ (.int .i64 xs)).setCell ⟨w.heap.size, 2, none⟩ v) pl l ∧
    (((W.setCell ⟨w.heap.size, 0, none⟩ (.int .i64 xk)).setCell ⟨w.heap.size, 1, none⟩ (.int .i64 xs)).setCell ⟨w.heap.size, 2, none⟩ v).heap.size = W.heap.size ∧
    ∀ b, b ≠ w.heap.size → (((W.setCell ⟨w.heap.size, 0, none⟩ (.int .i64 xk)).setCell ⟨w.heap.size, 1, none⟩ (.int .i64 xs)).setCell ⟨w.heap.size, 2, none⟩ v).heap[b]? = W.heap[b]? := by
  have hk : ∀ b, b ≠ w.heap.size → (((W.setCell ⟨w.heap.size, 0, none⟩ (.int .i64 xk)).setCell ⟨w.heap.size, 1, none⟩ (.int .i64 xs)).setCell ⟨w.heap.size, 2, none⟩ v).heap[b]? = W.heap[b]? := fun b hb =>
    (Below.heap_setCell _ _ _ _ hb).trans ((Below.heap_setCell _ _ _ _ hb).trans (Below.heap_setCell _ _ _ _ hb))
  exact ⟨((h.op.setNew (Nat.le_refl _) (by omega)).setNew (Nat.le_refl _) (by omega)).setNew (Nat.le_refl _) (by omega), (hk pl (by omega)).trans h.left, by simp [World.setCell], hk⟩
set_option maxRecDepth 100000 in
set_option maxHeartbeats 1600000 in
theorem of_stop (f : List Nd) (k : Nat) (hk : k < f.length) (t : W) (fv : Value) (pl : Nat) (l : Int) (w : World) (hf : RdN w pl fv f) (hl : LeftAt w pl l) (h0 : -1000 ≤ l) (h1 : l ≤ 0) :
    Calls Tryz.prog 29 #[fv, .int .i64 (k : Int), .pointer (some ⟨pl, 0, none⟩)] w fun e w' => ∃ v, e = .returned v ∧ OfPost t k pl l w v w' := by
  obtain ⟨b, off, c, rfl, hlc, hb, hcell⟩ := hf.at_ (by omega)
  obtain ⟨c1, c2, c3⟩ := hcell k hk
  have hpl := lt_blk hl
  have hbl : b < w.heap.size := by omega
  have lc := fld_cell hl 0
  have lf := fld_frozen hl 0
  simp at lc
  have HL := Lib.hid hl
  have hneg : decide (l - 1 < 0) = true := by simp; omega
  obtain ⟨x, hx⟩ : ∃ x, nd f k = x := ⟨_, rfl⟩
  rw [hx] at c1 c2 c3
  obtain ⟨xk, xa, xb⟩ := x
  dsimp only at c1 c2 c3
  have e1 : (l : Int) = l := rfl
  generalize f.length = n at *
  clear hcell hf hl hx
  go_enter Tryz.func29, Tryz.ntmps29
  go_upto_region 3 with fail
  obtain ⟨W3, hW3⟩ : ∃ W3, (((w.alloc (Obj.cells #[.int .i64 0, .int .i64 0, .slice none 0 0] 29)).alloc (Obj.cells #[.int .i64 xk, .int .i64 xa, .int .i64 xb] 71)).alloc (Obj.cells #[.int .i64 xk, .int .i64 0, .slice none 0 0] 29)) = W3 := ⟨_, rfl⟩
  rw [hW3]
  have hb3 : Below w.heap.size w W3 := by rw [← hW3]; exact (((Below.refl _ _).alloc (Nat.le_refl _) _).alloc (by simp) _).alloc (by simp; omega) _
  have hl3 : LeftAt W3 pl l := (hb3.block _ hpl).trans HL.out
  have lc3 : W3.cell? ⟨pl, 0, none⟩ = some (.int .i64 l) := by have := fld_cell hl3 0; simpa using this
  have lf3 := fld_frozen hl3 0
  have hh := of_head HL.out hW3
  clear lc lf hb3 hl3 hW3
  go_upto_region 5 with fail
  obtain ⟨W4, hW4⟩ : ∃ W4, W3.setCell ⟨pl, 0, none⟩ (.int .i64 (l - 1)) = W4 := ⟨_, rfl⟩
  rw [hW4] at hh ⊢
  have ht := fun k => fld_cell hh.tree k
  have t0 := ht 0
  have t1 := ht 1
  have t2 := ht 2
  have hr := fun k => fld_cell hh.res k
  have r0 := hr 0
  have r1 := hr 1
  have r2 := hr 2
  have hf := fun k => fld_frozen hh.res k
  have f0 := hf 0
  have f1 := hf 1
  have f2 := hf 2
  have s1 := lt_blk hh.res
  have s2 := lt_blk hh.tree
  simp at t0 t1 t2 r0 r1 r2
  have HH := Lib.hid hh
  clear ht hr hf hh hW4 lc3 lf3
  go_wp2_with fail
  obtain ⟨g1, g2, g3, g4⟩ := HH.out.fin hpl
  have hsz := t.size_pos
  exact bodyPost_ret (v := .agg #[.int .i64 xk, .int .i64 0, .slice none 0 0]) (by simp [results, Tryz.results29, go_sem, r0, r1, r2]) rfl ⟨_, rfl, g1, ⟨_, _, _, _, _, rfl⟩, .inr ⟨by omega, l - 1, g2, by omega, fun _ => rfl, fun _ => by omega⟩⟩
set_option maxRecDepth 100000 in
set_option maxHeartbeats 1600000 in
theorem of_leaf (f : List Nd) (k : Nat) (hk : k < f.length) (fv : Value) (pl : Nat) (l : Int) (w : World) (hf : RdN w pl fv f) (hl : LeftAt w pl l) (h0 : 1 ≤ l) (h1 : l ≤ 100) (hkind : (nd f k).k = 0 ∨ (nd f k).k = 1 ∨ (nd f k).k = 2) :
    Calls Tryz.prog 29 #[fv, .int .i64 (k : Int), .pointer (some ⟨pl, 0, none⟩)] w fun e w' => ∃ v, e = .returned v ∧ OfPost (.n0 (nd f k).k (if (nd f k).k = 2 then (nd f k).a else 0)) k pl l w v w' := by
  obtain ⟨b, off, c, rfl, hlc, hb, hcell⟩ := hf.at_ (by omega)
  obtain ⟨c1, c2, c3⟩ := hcell k hk
  have hpl := lt_blk hl
  have hbl : b < w.heap.size := by omega
  have lc := fld_cell hl 0
  have lf := fld_frozen hl 0
  simp at lc
  have HL := Lib.hid hl
  have hneg : decide (l - 1 < 0) = false := by simp; omega
  obtain ⟨x, hx⟩ : ∃ x, nd f k = x := ⟨_, rfl⟩
  rw [hx] at c1 c2 c3
  rw [hx] at hkind ⊢
  obtain ⟨xk, xa, xb⟩ := x
  dsimp only at c1 c2 c3 hkind ⊢
  have e1 : (l : Int) = l := rfl
  generalize f.length = n at *
  clear hcell hf hl hx
  go_enter Tryz.func29, Tryz.ntmps29
  go_upto_region 3 with fail
  obtain ⟨W3, hW3⟩ : ∃ W3, (((w.alloc (Obj.cells #[.int .i64 0, .int .i64 0, .slice none 0 0] 29)).alloc (Obj.cells #[.int .i64 xk, .int .i64 xa, .int .i64 xb] 71)).alloc (Obj.cells #[.int .i64 xk, .int .i64 0, .slice none 0 0] 29)) = W3 := ⟨_, rfl⟩
  rw [hW3]
  have hb3 : Below w.heap.size w W3 := by rw [← hW3]; exact (((Below.refl _ _).alloc (Nat.le_refl _) _).alloc (by simp) _).alloc (by simp; omega) _
  have hl3 : LeftAt W3 pl l := (hb3.block _ hpl).trans HL.out
  have lc3 : W3.cell? ⟨pl, 0, none⟩ = some (.int .i64 l) := by have := fld_cell hl3 0; simpa using this
  have lf3 := fld_frozen hl3 0
  have hh := of_head HL.out hW3
  clear lc lf hb3 hl3 hW3
  go_upto_region 6 with fail
  obtain ⟨W4, hW4⟩ : ∃ W4, W3.setCell ⟨pl, 0, none⟩ (.int .i64 (l - 1)) = W4 := ⟨_, rfl⟩
  rw [hW4] at hh ⊢
  have ht := fun k => fld_cell hh.tree k
  have t0 := ht 0
  have t1 := ht 1
  have t2 := ht 2
  have hr := fun k => fld_cell hh.res k
  have r0 := hr 0
  have r1 := hr 1
  have r2 := hr 2
  have hf := fun k => fld_frozen hh.res k
  have f0 := hf 0
  have f1 := hf 1
  have f2 := hf 2
  have ft1 := fld_frozen hh.tree 1
  have hn := fun k => fld_cell hh.node k
  have n0 := hn 0
  have n1 := hn 1
  have s1 := lt_blk hh.res
  have s2 := lt_blk hh.tree
  have s3 := lt_blk hh.node
  simp at t0 t1 t2 r0 r1 r2 n0 n1
  have HH := Lib.hid hh
  clear ht hr hf hh hW4 lc3 lf3 hn
  have hsz : W4.heap.size = W4.heap.size := rfl
  rcases hkind with rfl | rfl | rfl
  · go_wp2_with fail
    obtain ⟨g1, g2, g3, g4⟩ := HH.out.fin hpl
    exact bodyPost_ret (v := .agg #[.int .i64 0, .int .i64 0, .slice none 0 0]) (by simp [results, Tryz.results29, go_sem, r0, r1, r2]) rfl ⟨_, rfl, g1, ⟨_, _, _, _, _, rfl⟩, .inl ⟨by simp [W.size]; omega, by simpa [W.size] using g2, by simp [Tk], by rw [g3]; exact Nat.le_of_lt s1⟩⟩
  · go_wp2_with fail
    obtain ⟨g1, g2, g3, g4⟩ := HH.out.fin hpl
    exact bodyPost_ret (v := .agg #[.int .i64 1, .int .i64 0, .slice none 0 0]) (by simp [results, Tryz.results29, go_sem, r0, r1, r2]) rfl ⟨_, rfl, g1, ⟨_, _, _, _, _, rfl⟩, .inl ⟨by simp [W.size]; omega, by simpa [W.size] using g2, by simp [Tk], by rw [g3]; exact Nat.le_of_lt s1⟩⟩
  · go_upto_region 17 with fail
    obtain ⟨W5, hW5⟩ : ∃ W5, W4.setCell ⟨w.heap.size + 2, 1, none⟩ (.int .i64 xa) = W5 := ⟨_, rfl⟩
    have hh5 : OfHead w W5 pl (l - 1) 2 xa xa xb (.slice none 0 0) := by
      rw [← hW5]
      refine ⟨HH.out.op.setNew (by omega) (by omega), (Below.heap_setCell _ _ _ _ (fun (e : pl = w.heap.size + 2) => by omega)).trans HH.out.left, (Below.heap_setCell _ _ _ _ (fun (e : w.heap.size = w.heap.size + 2) => by omega)).trans HH.out.res, (Below.heap_setCell _ _ _ _ (fun (e : w.heap.size + 1 = w.heap.size + 2) => by omega)).trans HH.out.node, ?_⟩
      have := fld_set HH.out.tree 1 (.int .i64 xa)
      simpa using this
    rw [hW5]
    have u0 := fld_cell hh5.tree 0
    have u1 := fld_cell hh5.tree 1
    have u2 := fld_cell hh5.tree 2
    have v0 := fld_cell hh5.res 0
    have v1 := fld_cell hh5.res 1
    have v2 := fld_cell hh5.res 2
    have w0 := fld_frozen hh5.res 0
    have w1 := fld_frozen hh5.res 1
    have w2 := fld_frozen hh5.res 2
    have x1 := lt_blk hh5.res
    have x2 := lt_blk hh5.tree
    simp at u0 u1 u2 v0 v1 v2
    have HH5 := Lib.hid hh5
    clear hh5 hW5
    go_wp2_with fail
    obtain ⟨g1, g2, g3, g4⟩ := HH5.out.fin hpl
    exact bodyPost_ret (v := .agg #[.int .i64 2, .int .i64 xa, .slice none 0 0]) (by simp [results, Tryz.results29, go_sem, v0, v1, v2]) rfl ⟨_, rfl, g1, ⟨_, _, _, _, _, rfl⟩, .inl ⟨by simp [W.size]; omega, by simpa [W.size] using g2, by simp [Tk], by rw [g3]; exact Nat.le_of_lt x1⟩⟩
theorem of_kids {w w5 W6 : World} {pl n c : Nat} {l5 xk xa xb : Int} (cs : Array Value) (hop : Op pl w w5) (hpl : pl < w.heap.size) (hleft : LeftAt w5 pl l5)
    (hres : w5.heap[w.heap.size]? = some (Obj.cells #[.int .i64 0, .int .i64 0, .slice none 0 0] 29)) (hnode : w5.heap[w.heap.size + 1]? = some (Obj.cells #[.int .i64 xk, .int .i64 xa, .int .i64 xb] 71))
    (htree : w5.heap[w.heap.size + 2]? = some (Obj.cells #[.int .i64 xk, .int .i64 0, .slice none 0 0] 29))
    (hW : (w5.setCell ⟨w.heap.size + 1 + 1, 2, none⟩ (.slice (some ⟨w5.heap.size, 0, none⟩) n c)).alloc (Obj.cells cs 29) = W6) :
    OfHead w W6 pl l5 xk 0 xa xb (.slice (some ⟨w5.heap.size, 0, none⟩) n c) ∧ W6.heap[w5.heap.size]? = some (Obj.cells cs 29) ∧ W6.heap.size = w5.heap.size + 1 ∧ ∀ b, b < w5.heap.size → b ≠ w.heap.size + 2 → W6.heap[b]? = w5.heap[b]? := by
  subst hW
  have hs5 : w.heap.size + 2 < w5.heap.size := lt_blk htree
  have hsz : (w5.setCell ⟨w.heap.size + 1 + 1, 2, none⟩ (.slice (some ⟨w5.heap.size, 0, none⟩) n c)).heap.size = w5.heap.size := by simp [World.setCell]
  have hk : ∀ b, b < w5.heap.size → b ≠ w.heap.size + 2 → ((w5.setCell ⟨w.heap.size + 1 + 1, 2, none⟩ (.slice (some ⟨w5.heap.size, 0, none⟩) n c)).alloc (Obj.cells cs 29)).heap[b]? = w5.heap[b]? := fun b hb hne =>
    (Below.heap_alloc _ _ b (by rw [hsz]; exact hb)).trans (Below.heap_setCell _ _ _ _ (fun (e : b = w.heap.size + 1 + 1) => by omega))
  refine ⟨⟨?_, (hk pl (by omega) (by omega)).trans hleft, (hk _ (by omega) (by omega)).trans hres, (hk _ (by omega) (by omega)).trans hnode, ?_⟩, ?_, ?_, hk⟩
  · have h1 := hop.setNew (k := 2) (u := .slice (some ⟨w5.heap.size, 0, none⟩) n c) (b := w.heap.size + 1 + 1) (by omega) (by omega)
    exact h1.trans (Op.made ((Below.refl _ _).alloc (Nat.le_refl _) _) (by rw [hsz]; omega))
  · refine (Below.heap_alloc _ _ _ (by rw [hsz]; omega)).trans ?_
    have := fld_set htree 2 (.slice (some ⟨w5.heap.size, 0, none⟩) n c)
    simpa using this
  · have := heap_new (w5.setCell ⟨w.heap.size + 1 + 1, 2, none⟩ (.slice (some ⟨w5.heap.size, 0, none⟩) n c)) (Obj.cells cs 29)
    rwa [hsz] at this
  · show (Array.push _ _).size = _
    rw [Array.size_push, hsz]
set_option maxRecDepth 100000 in
set_option maxHeartbeats 1600000 in
theorem of_one (f : List Nd) (k : Nat) (hk : k < f.length) (ih : ∀ j, j < k → OfOk f j) (fv : Value) (pl : Nat) (l : Int) (w : World) (hf : RdN w pl fv f) (hl : LeftAt w pl l) (h0 : 1 ≤ l) (h1 : l ≤ 100) (hkind : (nd f k).k = 3 ∨ (nd f k).k = 6 ∨ (nd f k).k = 7 ∨ (nd f k).k = 10) (ha0 : 0 ≤ (nd f k).a) (hak : (nd f k).a < k) :
    Calls Tryz.prog 29 #[fv, .int .i64 (k : Int), .pointer (some ⟨pl, 0, none⟩)] w fun e w' => ∃ v, e = .returned v ∧ OfPost (.n1 (nd f k).k (getW (treesL f) (nd f k).a)) k pl l w v w' := by
  obtain ⟨b, off, c, rfl, hlc, hb, hcell⟩ := hf.at_ (by omega)
  obtain ⟨c1, c2, c3⟩ := hcell k hk
  have hpl := lt_blk hl
  have hbl : b < w.heap.size := by omega
  have lc := fld_cell hl 0
  have lf := fld_frozen hl 0
  simp at lc
  have HL := Lib.hid hl
  have hneg : decide (l - 1 < 0) = false := by simp; omega
  obtain ⟨x, hx⟩ : ∃ x, nd f k = x := ⟨_, rfl⟩
  rw [hx] at c1 c2 c3
  rw [hx] at hkind ha0 hak ⊢
  obtain ⟨xk, xa, xb⟩ := x
  dsimp only at c1 c2 c3 hkind ha0 hak ⊢
  obtain ⟨xa, rfl⟩ := Int.eq_ofNat_of_zero_le ha0
  have ih1 := fun W (hb : Below pl w W) => ih xa (by omega) (.slice (some ⟨b, off, none⟩) f.length c) pl (l - 1) W (Rd.below hf hb)
  obtain ⟨T1, hT1⟩ : ∃ T1, getW (treesL f) (xa : Int) = T1 := ⟨_, rfl⟩
  rw [hT1] at ih1 ⊢
  have HIH := Lib.hid ih1
  clear ih ih1 hT1
  have e1 : (l : Int) = l := rfl
  generalize f.length = n at *
  clear hcell hf hl hx
  go_enter Tryz.func29, Tryz.ntmps29
  go_upto_region 3 with fail
  obtain ⟨W3, hW3⟩ : ∃ W3, (((w.alloc (Obj.cells #[.int .i64 0, .int .i64 0, .slice none 0 0] 29)).alloc (Obj.cells #[.int .i64 xk, .int .i64 (xa : Int), .int .i64 xb] 71)).alloc (Obj.cells #[.int .i64 xk, .int .i64 0, .slice none 0 0] 29)) = W3 := ⟨_, rfl⟩
  rw [hW3]
  have hb3 : Below w.heap.size w W3 := by rw [← hW3]; exact (((Below.refl _ _).alloc (Nat.le_refl _) _).alloc (by simp) _).alloc (by simp; omega) _
  have hl3 : LeftAt W3 pl l := (hb3.block _ hpl).trans HL.out
  have lc3 : W3.cell? ⟨pl, 0, none⟩ = some (.int .i64 l) := by have := fld_cell hl3 0; simpa using this
  have lf3 := fld_frozen hl3 0
  have hh := of_head HL.out hW3
  clear lc lf hb3 hl3 hW3
  go_upto_region 6 with fail
  obtain ⟨W4, hW4⟩ : ∃ W4, W3.setCell ⟨pl, 0, none⟩ (.int .i64 (l - 1)) = W4 := ⟨_, rfl⟩
  rw [hW4] at hh ⊢
  have ht := fun k => fld_cell hh.tree k
  have t0 := ht 0
  have t1 := ht 1
  have t2 := ht 2
  have hr := fun k => fld_cell hh.res k
  have r0 := hr 0
  have r1 := hr 1
  have r2 := hr 2
  have hf := fun k => fld_frozen hh.res k
  have f0 := hf 0
  have f1 := hf 1
  have f2 := hf 2
  have ft1 := fld_frozen hh.tree 1
  have hn := fun k => fld_cell hh.node k
  have n0 := hn 0
  have n1 := hn 1
  have s1 := lt_blk hh.res
  have s2 := lt_blk hh.tree
  have s3 := lt_blk hh.node
  simp at t0 t1 t2 r0 r1 r2 n0 n1
  have HH := Lib.hid hh
  clear ht hr hf hh hW4 lc3 lf3 hn
  have hcall := HIH.out W4 HH.out.op.below HH.out.left (by omega) (by omega)
  have HC := Lib.hid hcall
  clear hcall
  rcases hkind with rfl | rfl | rfl | rfl
  all_goals
    go_wp2_with fail
    refine HC.out.mono ?_
    rintro e w5 ⟨v1, rfl, hop, ⟨k1, s1', A1, n1', c1', rfl⟩, hd⟩
    have hres := (hop.other w.heap.size s1 (by omega)).trans HH.out.res
    have hnode := (hop.other (w.heap.size + 1) s3 (by omega)).trans HH.out.node
    have htree := (hop.other (w.heap.size + 2) s2 (by omega)).trans HH.out.tree
    have y2 := fld_cell htree 2
    have y2f := fld_frozen htree 2
    have hl5 := lt_blk htree
    simp at y2
    have HOP := Lib.hid hop
    have HD := Lib.hid hd
    have HRES := Lib.hid hres
    have HNODE := Lib.hid hnode
    have HTREE := Lib.hid htree
    clear hop hd hres hnode htree
    go_upto_region 17 with fail
    obtain ⟨W6, hW6⟩ : ∃ W6, (w5.setCell ⟨w.heap.size + 1 + 1, 2, none⟩ (.slice (some ⟨w5.heap.size, 0, none⟩) 1 1)).alloc (Obj.cells #[.int .i64 k1, .int .i64 s1', .slice A1 n1' c1'] 29) = W6 := ⟨_, rfl⟩
    rw [hW6]
    obtain ⟨l5, hl5', hdd⟩ : ∃ l5, LeftAt w5 pl l5 ∧ ((T1.size ≤ l - 1 ∧ l5 = l - 1 - T1.size ∧ Tk w5 T1 W4.heap.size w5.heap.size (.agg #[.int .i64 k1, .int .i64 s1', .slice A1 n1' c1'])) ∨ (l - 1 < T1.size ∧ l5 < 0 ∧ -((xa : Int) + 1) ≤ l5)) := by
      rcases HD.out with ⟨d1, d2, d3⟩ | ⟨d1, l', d2, d3, d4, d5⟩
      · exact ⟨_, d2, .inl ⟨d1, rfl, d3⟩⟩
      · exact ⟨l', d2, .inr ⟨d1, d3, d5 (by omega)⟩⟩
    obtain ⟨hh6, hg6, hsz6, hk6⟩ := of_kids #[.int .i64 k1, .int .i64 s1', .slice A1 n1' c1'] (HH.out.op.trans HOP.out) hpl hl5' HRES.out HNODE.out HTREE.out hW6
    have u0 := fld_cell hh6.tree 0
    have u1 := fld_cell hh6.tree 1
    have u2 := fld_cell hh6.tree 2
    have v0 := fld_cell hh6.res 0
    have v1 := fld_cell hh6.res 1
    have v2 := fld_cell hh6.res 2
    have w0 := fld_frozen hh6.res 0
    have w1 := fld_frozen hh6.res 1
    have w2 := fld_frozen hh6.res 2
    have x1 := lt_blk hh6.res
    have x2 := lt_blk hh6.tree
    simp at u0 u1 u2 v0 v1 v2
    have HH6 := Lib.hid hh6
    have HG6 := Lib.hid hg6
    have HSZ6 := Lib.hid hsz6
    have HK6 := Lib.hid hk6
    have HDD := Lib.hid hdd
    clear hh6 hW6 hg6 hsz6 hk6 hdd hl5'
    go_wp2_with fail
    obtain ⟨g1, g2, g3, g4⟩ := HH6.out.fin hpl
    refine bodyPost_ret (v := .agg #[.int .i64 _, .int .i64 0, .slice (some ⟨w5.heap.size, 0, none⟩) 1 1]) (by simp [results, Tryz.results29, go_sem, v0, v1, v2]; rfl) rfl ⟨_, rfl, g1, ⟨_, _, _, _, _, rfl⟩, ?_⟩
    rcases HDD.out with ⟨d1, d2, d3⟩ | ⟨d1, d2, d3⟩
    · left
      refine ⟨by simp [W.size]; omega, by rw [d2] at g2; simpa [W.size, Int.sub_sub, Int.add_comm] using g2, w5.heap.size, 1, .agg #[.int .i64 k1, .int .i64 s1', .slice A1 n1' c1'], rfl, by omega, by omega, by rw [g3, HSZ6.out]; omega, ?_, ?_⟩
      · exact ⟨_, _, _, #[.int .i64 k1, .int .i64 s1', .slice A1 n1' c1'], rfl, (g4 _ (by omega)).trans HG6.out, by simp, by simp, by simp⟩
      · refine Tk.mono _ _ _ _ _ _ (by omega) (Nat.le_refl _) (Tk.keep _ _ _ _ (fun b q1 q2 => (g4 b (by omega)).trans (HK6.out b q2 (by omega))) d3)
    · right
      exact ⟨by simp [W.size]; omega, l5, g2, d2, fun h => by omega, fun _ => by omega⟩
end Go.Proofs.YtccknopchddicaaGreatDoor
