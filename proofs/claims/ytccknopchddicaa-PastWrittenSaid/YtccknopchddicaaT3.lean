/- contract: wFlat. -/
import Derived.Test.YtccknopchddicaaT2
namespace Go.Proofs.Ytccknopchddicaa
open Go.RowKit Stile
/-- a step that changes the variable po and the block of its list alone -/
structure Fl (po : Nat) (w w' : World) (sv sv' : Value) : Prop where
  below : Below po w w'
  other : ∀ b, b < w.heap.size → b ≠ po → some b ≠ sv.ownBlock → w'.heap[b]? = w.heap[b]?
  fresh : sv'.ownBlock = sv.ownBlock ∨ ∀ g, sv'.ownBlock = some g → w.heap.size ≤ g
theorem Fl.refl (po : Nat) (w : World) (sv : Value) : Fl po w w sv sv := ⟨Below.refl _ _, fun _ _ _ _ => rfl, .inl rfl⟩
theorem Fl.trans {po : Nat} {w w1 w2 : World} {sv sv1 sv2 : Value} (h : Fl po w w1 sv sv1) (h2 : Fl po w1 w2 sv1 sv2) : Fl po w w2 sv sv2 := by
  refine ⟨h.below.trans h2.below, fun b hb hne hs => ?_, ?_⟩
  · refine (h2.other b (Nat.lt_of_lt_of_le hb h.below.size) hne ?_).trans (h.other b hb hne hs)
    rcases h.fresh with e | e
    · rw [e]; exact hs
    · intro e2
      have := e b e2.symm
      omega
  · rcases h2.fresh with e | e
    · rw [e]; exact h.fresh
    · exact .inr fun g hg => Nat.le_trans h.below.size (e g hg)
theorem Fl.made {po : Nat} {w w' : World} {sv : Value} (hb : Below w.heap.size w w') (hpo : po ≤ w.heap.size) : Fl po w w' sv sv :=
  ⟨hb.mono hpo, fun b h _ _ => hb.block b h, .inl rfl⟩
theorem Fl.td {po : Nat} {w w' : World} {sv sv' : Value} {f : List Nd} (h : Fl po w w' sv sv') (ho : OutAt w po sv f) {lo hi : Nat} {t : W} {v : Value} (ht : Td w lo hi t v) : Td w' lo hi t v := by
  refine Td.keep (fun g _ _ cur hc => h.other g (lt_blk hc) ?_ ?_) t v ht
  · intro e; subst e; exact blk_type ho.blk hc (by decide) rfl
  · intro e
    obtain ⟨cur', hc'⟩ := own_blk ho.own e.symm
    exact blk_type hc hc' (by decide) rfl
theorem OutAt.drew {w : World} {po : Nat} {sv : Value} {f : List Nd} (h : OutAt w po sv f) : OutAt w.drew po sv f := ⟨h.blk, h.own⟩
theorem fl_append {w w5 : World} {po g n : Nat} {sv : Value} {f : List Nd} {x : Nd} {cap : Nat} {o : Obj} (hn : f.length = n) (ho : OutAt w po sv f) (hgrow : (w.alloc o).grownBy w5 sv.ownBlock)
    (hown : w5.ownsRow po 49 3 (.slice (some ⟨g, 0, none⟩) (n + 1) cap) (n + 1) (ndCells f ++ [.int .i64 x.k, .int .i64 x.a, .int .i64 x.b])) (hg : sv.ownBlock = some g ∨ g = w.heap.size + 1) :
    OutAt (w5.setCell ⟨po, 0, none⟩ (.slice (some ⟨g, 0, none⟩) (n + 1) cap)) po (.slice (some ⟨g, 0, none⟩) (n + 1) cap) (f ++ [x]) ∧
    Fl po w (w5.setCell ⟨po, 0, none⟩ (.slice (some ⟨g, 0, none⟩) (n + 1) cap)) sv (.slice (some ⟨g, 0, none⟩) (n + 1) cap) := by
  subst hn
  obtain ⟨h1, h2⟩ := fld_grew (k := 0) (u := .slice (some ⟨g, 0, none⟩) (f.length + 1) cap) ho.blk ho.own hgrow hown (by decide)
  have hk := fld_keep ho.blk ho.own hgrow (by decide)
  refine ⟨⟨?_, ?_⟩, h2.below, fun b hb hne hs => ?_, ?_⟩
  · have := fld_set hk 0 (.slice (some ⟨g, 0, none⟩) (f.length + 1) cap)
    simpa using this
  · rw [ndCells_append, List.length_append]; exact h1
  · exact (Below.heap_setCell w5 _ _ _ hne).trans ((hgrow.block b (by simp; omega) hs).trans (Below.heap_alloc w o b hb))
  · rcases hg with e | e
    · exact .inl e.symm
    · refine .inr fun g' hg' => ?_
      have : g = g' := by simpa [Value.ownBlock] using hg'
      omega
theorem Fl.set {po b k : Nat} {w w' : World} {sv sv' u : Value} (h : Fl po w w' sv sv') (hb : w.heap.size ≤ b) (hpo : po ≤ b) : Fl po w (w'.setCell ⟨b, k, none⟩ u) sv sv' :=
  ⟨h.below.setCell hpo _, fun c hc hne hs => (Below.heap_setCell w' _ _ _ (fun (e : c = b) => by omega)).trans (h.other c hc hne hs), h.fresh⟩
theorem OutAt.set {po b k : Nat} {w : World} {sv u : Value} {f : List Nd} (h : OutAt w po sv f) (h1 : b ≠ po) (h2 : sv.ownBlock ≠ some b) : OutAt (w.setCell ⟨b, k, none⟩ u) po sv f := by
  refine ⟨(Below.heap_setCell w _ _ _ (fun (e : po = b) => h1 e.symm)).trans h.blk, ?_⟩
  obtain ⟨a1, a2⟩ := h.own
  refine ⟨a1, ?_⟩
  rcases a2 with a2 | ⟨g, cap, cur, e, hbs, hh, r⟩
  · exact .inl a2
  · refine .inr ⟨g, cap, cur, e, hbs, (Below.heap_setCell w _ _ _ (fun (e2 : g = b) => h2 ?_)).trans hh, r⟩
    rw [e, ← e2]; rfl
/-- what wFlat does at a tree -/
def FlatOk (t : W) : Prop := ∀ (v sv : Value) (f : List Nd) (po hi : Nat) (w : World), Td w 0 hi t v → hi ≤ w.heap.size → OutAt w po sv f → f.length + t.size ≤ 100000 →
  Calls Try.prog 19 #[v, .pointer (some ⟨po, 0, none⟩)] w fun e w' => e = .returned (.int .i64 ((f.length : Int) + t.size - 1)) ∧ ∃ sv', OutAt w' po sv' (f ++ t.flat f.length) ∧ Fl po w w' sv sv'
set_option maxRecDepth 100000 in
theorem flat_n0 (k s : Int) : FlatOk (.n0 k s) := by
  intro v sv f po hi w hv hhi ho hlen
  obtain rfl := hv
  have hlen : f.length + 1 ≤ 100000 := hlen
  have HO := Lib.hid ho
  clear ho
  go_enter Try.func19, Try.ntmps19
  go_upto_region 6 with fail
  obtain ⟨W6, hW6⟩ : ∃ W6, (w.alloc (Obj.cells #[.int .i64 k, .int .i64 s, .slice none 0 0] 33)).alloc (Obj.cells #[.int .i64 k, .int .i64 s, .int .i64 0] 49) = W6 := ⟨_, rfl⟩
  have hb6 : Below w.heap.size w W6 := by rw [← hW6]; exact ((Below.refl _ _).alloc (Nat.le_refl _) _).alloc (by simp) _
  have htb : W6.heap[w.heap.size + 1]? = some (Obj.cells #[.int .i64 k, .int .i64 s, .int .i64 0] 49) := by rw [← hW6]; exact heap_new2 _ _ _
  rw [hW6]
  obtain ⟨F, hF⟩ : ∃ F, f = F := ⟨_, rfl⟩
  have ho6 := HO.out.made hb6
  rw [hF] at ho6 hlen
  have HF := Lib.hid hF
  have HO6 := Lib.hid ho6
  have HF6 := Lib.hid (Fl.made (sv := sv) hb6 (Nat.le_of_lt (lt_blk HO.out.blk)))
  have htc := fun j => fld_cell htb j
  have t0 := htc 0
  have t1 := htc 1
  have t2 := htc 2
  have htl := lt_blk htb
  simp at t0 t1 t2
  clear htc htb hW6 hb6 ho6 hF
  obtain ⟨i0, hi0, hz0, hz1, hz2⟩ := info_parts info_nd
  obtain ⟨A6, C6, rfl⟩ := own_shape HO6.out.own
  have hown := HO6.out.own
  have hcp := fld_cell HO6.out.blk 0
  simp at hcp
  have hpl : po < W6.heap.size := lt_blk HO6.out.blk
  generalize hfl : F.length = n6 at *
  have HN6 := Lib.hid hfl
  clear hfl
  go_region_law (first
    | (refine step_append_lies _ (by rfl) _ _ _ (by rfl) po 49 i0 _ 3 24 Try.underlying22 hi0 hz0 hz1 hz2 (by rfl) (by decide) (.slice A6 n6 C6) n6 _ (by rfl) (hown.alloc _) ⟨W6.heap.size, 0, none⟩ 1 1 [.int .i64 k, .int .i64 s, .int .i64 0] (by rfl) (by rfl) (cell_three_new _ _ _ _ _) (by simp [Value.oneCell']) (by decide) (by unfold maxLen; omega) (by omega) (by simp; omega) _ (by rfl) ?_; intro g' cap' w5 hown5 hgrow5 hat5 hlt5; have hk5 := fld_keep (w := W6.drew) HO6.out.blk HO6.out.own hgrow5 (by decide); have hc5 := fld_cell hk5 0; simp at hc5; have hf5 := fld_frozen hk5 0; have hl5 := lt_blk hk5; clear hk5))
  all_goals
    obtain ⟨hq1, hq2⟩ := fl_append (w := W6.drew) (x := ⟨k, s, 0⟩) (g := g') (cap := cap') HN6.out HO6.out.drew hgrow5 hown5 (by rcases hat5 with e | e; exact .inl e; exact .inr (by rw [e]; simp))
    have HQ1 := Lib.hid hq1
    have HQ2 := Lib.hid hq2
    clear hq1 hq2 hown5 hgrow5 hat5
    go_wp2_with fail
    go_ret
    obtain rfl := HN6.out
    refine ⟨?_, .slice (some ⟨g', 0, none⟩) (F.length + 1) cap', ?_, HF6.out.trans ((Fl.made (Below.refl W6.heap.size W6).drew (Nat.le_of_lt hpl)).trans HQ2.out)⟩
    · have e : (F.length : Int) = (f.length : Int) + ((W.n0 k s).size : Nat) - 1 := by rw [← HF.out]; simp [W.size, W.flat_len] <;> omega
      rw [← e]; rfl
    · have e2 : f ++ (W.n0 k s).flat f.length = F ++ [⟨k, s, 0⟩] := by rw [← HF.out]; simp [W.flat]
      rw [e2]; exact HQ1.out
set_option maxRecDepth 100000 in
set_option maxHeartbeats 800000 in
theorem flat_n1 (k : Int) (x : W) (ih : FlatOk x) : FlatOk (.n1 k x) := by
  intro v sv f po hi w hv hhi ho hlen
  obtain ⟨g, c, a, rfl, hc1, _, hg, hkid, htd⟩ := hv
  obtain ⟨ak, as1, aA, an, ac, rfl⟩ := htd.shape
  obtain ⟨q0, q1, q2, hgl⟩ := hkid.cells
  have hlen : f.length + (x.size + 1) ≤ 100000 := hlen
  have hop := lt_blk ho.blk
  have HO := Lib.hid ho
  have HTD := Lib.hid htd
  have HIH := Lib.hid ih
  clear ho htd hkid ih
  simp at q0 q1 q2
  go_enter Try.func19, Try.ntmps19
  go_wp2_with fail
  obtain ⟨W6, hW6⟩ : ∃ W6, (w.alloc (Obj.cells #[.int .i64 k, .int .i64 0, .slice (some ⟨g, 0, none⟩) 1 c] 33)).alloc (Obj.cells #[.int .i64 k, .int .i64 0, .int .i64 0] 49) = W6 := ⟨_, rfl⟩
  have hb6 : Below w.heap.size w W6 := by rw [← hW6]; exact ((Below.refl _ _).alloc (Nat.le_refl _) _).alloc (by simp) _
  have htb : W6.heap[w.heap.size + 1]? = some (Obj.cells #[.int .i64 k, .int .i64 0, .int .i64 0] 49) := by rw [← hW6]; exact heap_new2 _ _ _
  have hxb : W6.heap[w.heap.size]? = some (Obj.cells #[.int .i64 k, .int .i64 0, .slice (some ⟨g, 0, none⟩) 1 c] 33) := by rw [← hW6]; exact heap_old2 _ _ _
  rw [hW6]
  have ho6 := HO.out.made hb6
  have hf6 := Fl.made (sv := sv) hb6 (Nat.le_of_lt hop)
  refine (HIH.out _ sv f po hi W6 (HTD.out.below (hb6.mono hhi)) (by have := hb6.size; omega) ho6 (by omega)).mono ?_
  rintro e w7 ⟨rfl, sv7, ho7, hf7⟩
  have hsv : sv.ownBlock ≠ some (w.heap.size + 1) := fun e => by have := (HO.out.own.lt _ e).2; omega
  have hsv0 : sv.ownBlock ≠ some w.heap.size := fun e => by have := (HO.out.own.lt _ e).2; omega
  have htb7 := (hf7.other (w.heap.size + 1) (lt_blk htb) (by omega) (fun e => hsv e.symm)).trans htb
  have hxb7 := (hf7.other w.heap.size (lt_blk hxb) (by omega) (fun e => hsv0 e.symm)).trans hxb
  have hsv7 : sv7.ownBlock ≠ some (w.heap.size + 1) := by
    rcases hf7.fresh with e | e
    · rw [e]; exact hsv
    · intro e2; have h1 := e _ e2; have h2 := lt_blk htb; omega
  have hf67 := hf6.trans hf7
  have HHF := Lib.hid hf67
  have htc := fun j => fld_cell htb7 j
  have s1 := htc 1
  have s1f := fld_frozen htb7 1
  have hxc := fld_cell hxb7 2
  have hxl := lt_blk hxb7
  have htl7 := lt_blk htb7
  simp at s1 hxc
  have HTB7 := Lib.hid htb7
  have HO7 := Lib.hid ho7
  have HSV7 := Lib.hid hsv7
  clear htc htb7 hxb7 ho7 hsv7 hf67 hf6 hf7 hsv hsv0 ho6 htb hxb hb6 hW6
  obtain ⟨xa, hxa⟩ : ∃ xa, (f.length : Int) + x.size - 1 = xa := ⟨_, rfl⟩
  rw [hxa]
  have HXA := Lib.hid hxa
  clear hxa
  go_upto_region 6 with fail
  obtain ⟨W6, hW6⟩ : ∃ W6, w7.setCell ⟨w.heap.size + 1, 1, none⟩ (.int .i64 xa) = W6 := ⟨_, rfl⟩
  rw [hW6]
  have htb : W6.heap[w.heap.size + 1]? = some (Obj.cells #[.int .i64 k, .int .i64 xa, .int .i64 0] 49) := by
    have := fld_set HTB7.out 1 (.int .i64 xa)
    rw [hW6] at this; simpa using this
  have ho6 := HO7.out.set (k := 1) (u := .int .i64 xa) (b := w.heap.size + 1) (by omega) HSV7.out
  have hf6 := HHF.out.set (k := 1) (u := .int .i64 xa) (b := w.heap.size + 1) (by omega) (by omega)
  rw [hW6] at ho6 hf6
  obtain ⟨F, hF⟩ : ∃ F, f ++ x.flat f.length = F := ⟨_, rfl⟩
  have hlenF : F.length ≤ 99999 := by rw [← hF, List.length_append, W.flat_len]; omega
  rw [hF] at ho6
  have HF := Lib.hid hF
  have HO6 := Lib.hid ho6
  have HF6 := Lib.hid hf6
  have htc := fun j => fld_cell htb j
  have t0 := htc 0
  have t1 := htc 1
  have t2 := htc 2
  have htl := lt_blk htb
  simp at t0 t1 t2
  clear htc htb hW6 ho6 hF hf6 s1 s1f hxc q0 q1 q2
  obtain ⟨i0, hi0, hz0, hz1, hz2⟩ := info_parts info_nd
  obtain ⟨A6, C6, rfl⟩ := own_shape HO6.out.own
  have hown := HO6.out.own
  have hcp := fld_cell HO6.out.blk 0
  simp at hcp
  have hpl : po < W6.heap.size := lt_blk HO6.out.blk
  generalize hfl : F.length = n6 at *
  have HN6 := Lib.hid hfl
  clear hfl
  go_region_law (first
    | (refine step_append_lies _ (by rfl) _ _ _ (by rfl) po 49 i0 _ 3 24 Try.underlying22 hi0 hz0 hz1 hz2 (by rfl) (by decide) (.slice A6 n6 C6) n6 _ (by rfl) (hown.alloc _) ⟨W6.heap.size, 0, none⟩ 1 1 [.int .i64 k, .int .i64 xa, .int .i64 0] (by rfl) (by rfl) (cell_three_new _ _ _ _ _) (by simp [Value.oneCell']) (by decide) (by unfold maxLen; omega) (by omega) (by simp; omega) _ (by rfl) ?_; intro g' cap' w5 hown5 hgrow5 hat5 hlt5; have hk5 := fld_keep (w := W6.drew) HO6.out.blk HO6.out.own hgrow5 (by decide); have hc5 := fld_cell hk5 0; simp at hc5; have hf5 := fld_frozen hk5 0; have hl5 := lt_blk hk5; clear hk5))
  all_goals
    obtain ⟨hq1, hq2⟩ := fl_append (w := W6.drew) (x := ⟨k, xa, 0⟩) (g := g') (cap := cap') HN6.out HO6.out.drew hgrow5 hown5 (by rcases hat5 with e | e; exact .inl e; exact .inr (by rw [e]; simp))
    have HQ1 := Lib.hid hq1
    have HQ2 := Lib.hid hq2
    clear hq1 hq2 hown5 hgrow5 hat5
    go_wp2_with fail
    go_ret
    obtain rfl := HN6.out
    refine ⟨?_, .slice (some ⟨g', 0, none⟩) (F.length + 1) cap', ?_, HF6.out.trans ((Fl.made (Below.refl W6.heap.size W6).drew (Nat.le_of_lt hpl)).trans HQ2.out)⟩
    · have e : (F.length : Int) = (f.length : Int) + ((W.n1 k x).size : Nat) - 1 := by rw [← HF.out]; simp [W.size, W.flat_len] <;> omega
      rw [← e]; rfl
    · have e2 : f ++ (W.n1 k x).flat f.length = F ++ [⟨k, xa, 0⟩] := by rw [← HF.out, ← HXA.out]; simp [W.flat]
      rw [e2]; exact HQ1.out
set_option maxRecDepth 100000 in
set_option maxHeartbeats 1600000 in
theorem flat_n2 (k : Int) (x y : W) (ih : FlatOk x) (ih2 : FlatOk y) : FlatOk (.n2 k x y) := by
  intro v sv f po hi w hv hhi ho hlen
  obtain ⟨g, c, a, b, rfl, hc1, _, hg, hkid, hkid2, htd, htd2⟩ := hv
  obtain ⟨_, _, _, cur, _, hgb, _⟩ := id hkid
  obtain ⟨ak, as1, aA, an, ac, rfl⟩ := htd.shape
  obtain ⟨q0, q1, q2, hgl⟩ := hkid.cells
  obtain ⟨bk, bs, bA, bn, bc, rfl⟩ := htd2.shape
  obtain ⟨r0, r1, r2, _⟩ := hkid2.cells
  have hlen : f.length + (x.size + y.size + 1) ≤ 100000 := hlen
  have hop := lt_blk ho.blk
  have HO := Lib.hid ho
  have HTD := Lib.hid htd
  have HIH := Lib.hid ih
  have HTD2 := Lib.hid htd2
  have HIH2 := Lib.hid ih2
  have hgpo : g ≠ po := fun e => by subst e; exact blk_type HO.out.blk hgb (by decide) rfl
  have hgown : sv.ownBlock ≠ some g := fun e => by obtain ⟨cur', hc'⟩ := own_blk HO.out.own e; exact blk_type hgb hc' (by decide) rfl
  simp at q0 q1 q2 r0 r1 r2
  have HR0 := Lib.hid r0
  have HR1 := Lib.hid r1
  have HR2 := Lib.hid r2
  clear ho htd hkid ih htd2 hkid2 ih2 hgb r0 r1 r2
  go_enter Try.func19, Try.ntmps19
  go_wp2_with fail
  obtain ⟨W6, hW6⟩ : ∃ W6, (w.alloc (Obj.cells #[.int .i64 k, .int .i64 0, .slice (some ⟨g, 0, none⟩) 2 c] 33)).alloc (Obj.cells #[.int .i64 k, .int .i64 0, .int .i64 0] 49) = W6 := ⟨_, rfl⟩
  have hb6 : Below w.heap.size w W6 := by rw [← hW6]; exact ((Below.refl _ _).alloc (Nat.le_refl _) _).alloc (by simp) _
  have htb : W6.heap[w.heap.size + 1]? = some (Obj.cells #[.int .i64 k, .int .i64 0, .int .i64 0] 49) := by rw [← hW6]; exact heap_new2 _ _ _
  have hxb : W6.heap[w.heap.size]? = some (Obj.cells #[.int .i64 k, .int .i64 0, .slice (some ⟨g, 0, none⟩) 2 c] 33) := by rw [← hW6]; exact heap_old2 _ _ _
  rw [hW6]
  have ho6 := HO.out.made hb6
  have hf6 := Fl.made (sv := sv) hb6 (Nat.le_of_lt hop)
  refine (HIH.out _ sv f po hi W6 (HTD.out.below (hb6.mono hhi)) (by have := hb6.size; omega) ho6 (by omega)).mono ?_
  rintro e w7 ⟨rfl, sv7, ho7, hf7⟩
  have hsv : sv.ownBlock ≠ some (w.heap.size + 1) := fun e => by have := (HO.out.own.lt _ e).2; omega
  have hsv0 : sv.ownBlock ≠ some w.heap.size := fun e => by have := (HO.out.own.lt _ e).2; omega
  have htb7 := (hf7.other (w.heap.size + 1) (lt_blk htb) (by omega) (fun e => hsv e.symm)).trans htb
  have hxb7 := (hf7.other w.heap.size (lt_blk hxb) (by omega) (fun e => hsv0 e.symm)).trans hxb
  have hsv7 : sv7.ownBlock ≠ some (w.heap.size + 1) := by
    rcases hf7.fresh with e | e
    · rw [e]; exact hsv
    · intro e2; have h1 := e _ e2; have h2 := lt_blk htb; omega
  have hf67 := hf6.trans hf7
  have HHF := Lib.hid hf67
  have htc := fun j => fld_cell htb7 j
  have s1 := htc 1
  have s1f := fld_frozen htb7 1
  have hxc := fld_cell hxb7 2
  have hxl := lt_blk hxb7
  have htl7 := lt_blk htb7
  simp at s1 hxc
  have HTB7 := Lib.hid htb7
  have HXB7 := Lib.hid hxb7
  have HO7 := Lib.hid ho7
  have HSV7 := Lib.hid hsv7
  clear htc htb7 hxb7 ho7 hsv7 hf67 hf6 hf7 hsv hsv0 ho6 htb hxb hb6 hW6
  obtain ⟨xa, hxa⟩ : ∃ xa, (f.length : Int) + x.size - 1 = xa := ⟨_, rfl⟩
  rw [hxa]
  have HXA := Lib.hid hxa
  clear hxa
  go_upto_region 4 with fail
  obtain ⟨W8, hW8⟩ : ∃ W8, w7.setCell ⟨w.heap.size + 1, 1, none⟩ (.int .i64 xa) = W8 := ⟨_, rfl⟩
  rw [hW8]
  have htb : W8.heap[w.heap.size + 1]? = some (Obj.cells #[.int .i64 k, .int .i64 xa, .int .i64 0] 49) := by
    have := fld_set HTB7.out 1 (.int .i64 xa)
    rw [hW8] at this; simpa using this
  have hxb8 : W8.heap[w.heap.size]? = some (Obj.cells #[.int .i64 k, .int .i64 0, .slice (some ⟨g, 0, none⟩) 2 c] 33) := by
    rw [← hW8]; exact (Below.heap_setCell w7 _ _ _ (by simp)).trans HXB7.out
  have ho8 := HO7.out.set (k := 1) (u := .int .i64 xa) (b := w.heap.size + 1) (by omega) HSV7.out
  have hf8 := HHF.out.set (k := 1) (u := .int .i64 xa) (b := w.heap.size + 1) (by omega) (by omega)
  rw [hW8] at ho8 hf8
  obtain ⟨F1, hF1⟩ : ∃ F1, f ++ x.flat f.length = F1 := ⟨_, rfl⟩
  have hlF1 : F1.length = f.length + x.size := by rw [← hF1, List.length_append, W.flat_len]
  rw [hF1] at ho8
  have e8 := hf8.other g hgl hgpo (fun e => hgown e.symm)
  have r0 := (World.cell?_of_block (w := w) e8).trans HR0.out
  have r1 := (World.cell?_of_block (w := w) e8).trans HR1.out
  have r2 := (World.cell?_of_block (w := w) e8).trans HR2.out
  have hgl8 : g < W8.heap.size := Nat.lt_of_lt_of_le hgl hf8.below.size
  have hxc8 := fld_cell hxb8 2
  have hxl8 := lt_blk hxb8
  have htl8 := lt_blk htb
  have htd8 := Td.keep (w' := W8) (fun b h1 h2 cur hc => hf8.other b (lt_blk hc) (fun e => by subst e; exact blk_type HO.out.blk hc (by decide) rfl) (fun e => by obtain ⟨cur', hc'⟩ := own_blk HO.out.own e.symm; exact blk_type hc hc' (by decide) rfl)) y _ HTD2.out
  simp at hxc8
  have HW8 := Lib.hid hW8
  have HTB8 := Lib.hid htb
  have HO8 := Lib.hid ho8
  have HF8 := Lib.hid hf8
  have HF1 := Lib.hid hF1
  have HLF1 := Lib.hid hlF1
  have HTD8 := Lib.hid htd8
  clear hW8 htb hxb8 ho8 hf8 hF1 hlF1 e8 htd8 s1 s1f hxc q0 q1 q2 HTB7 HXB7
  go_wp2_with fail
  refine (HIH2.out _ sv7 F1 po hi W8 HTD8.out (by have := HF8.out.below.size; omega) HO8.out (by have := HLF1.out; omega)).mono ?_
  rintro e w9 ⟨rfl, sv9, ho9, hf9⟩
  have htb9 := (hf9.other (w.heap.size + 1) (lt_blk HTB8.out) (by omega) (fun e => HSV7.out e.symm)).trans HTB8.out
  have hsv9 : sv9.ownBlock ≠ some (w.heap.size + 1) := by
    rcases hf9.fresh with e | e
    · rw [e]; exact HSV7.out
    · intro e2; have h1 := e _ e2; omega
  have hf69 := HF8.out.trans hf9
  have HHF9 := Lib.hid hf69
  have u2 := fld_cell htb9 2
  have u2f := fld_frozen htb9 2
  have htl9 := lt_blk htb9
  simp at u2
  have HTB9 := Lib.hid htb9
  have HO9 := Lib.hid ho9
  have HSV9 := Lib.hid hsv9
  obtain ⟨xb, hxb⟩ : ∃ xb, (F1.length : Int) + y.size - 1 = xb := ⟨_, rfl⟩
  rw [hxb]
  have HXB := Lib.hid hxb
  clear hxb htb9 ho9 hsv9 hf69 hf9 hxc8 r0 r1 r2
  go_upto_region 6 with fail
  obtain ⟨W6, hW6⟩ : ∃ W6, w9.setCell ⟨w.heap.size + 1, 2, none⟩ (.int .i64 xb) = W6 := ⟨_, rfl⟩
  rw [hW6]
  have htb : W6.heap[w.heap.size + 1]? = some (Obj.cells #[.int .i64 k, .int .i64 xa, .int .i64 xb] 49) := by
    have := fld_set HTB9.out 2 (.int .i64 xb)
    rw [hW6] at this; simpa using this
  have ho6 := HO9.out.set (k := 2) (u := .int .i64 xb) (b := w.heap.size + 1) (by omega) HSV9.out
  have hf6 := HHF9.out.set (k := 2) (u := .int .i64 xb) (b := w.heap.size + 1) (by omega) (by omega)
  rw [hW6] at ho6 hf6
  obtain ⟨F, hF⟩ : ∃ F, F1 ++ y.flat F1.length = F := ⟨_, rfl⟩
  have hlenF : F.length ≤ 99999 := by rw [← hF, List.length_append, W.flat_len, HLF1.out]; omega
  rw [hF] at ho6
  have HF := Lib.hid hF
  have HO6 := Lib.hid ho6
  have HF6 := Lib.hid hf6
  have htc := fun j => fld_cell htb j
  have t0 := htc 0
  have t1 := htc 1
  have t2 := htc 2
  have htl := lt_blk htb
  simp at t0 t1 t2
  clear htc htb hW6 ho6 hF hf6 u2 u2f
  obtain ⟨i0, hi0, hz0, hz1, hz2⟩ := info_parts info_nd
  obtain ⟨A6, C6, rfl⟩ := own_shape HO6.out.own
  have hown := HO6.out.own
  have hcp := fld_cell HO6.out.blk 0
  simp at hcp
  have hpl : po < W6.heap.size := lt_blk HO6.out.blk
  generalize hfl : F.length = n6 at *
  have HN6 := Lib.hid hfl
  clear hfl
  go_region_law (first
    | (refine step_append_lies _ (by rfl) _ _ _ (by rfl) po 49 i0 _ 3 24 Try.underlying22 hi0 hz0 hz1 hz2 (by rfl) (by decide) (.slice A6 n6 C6) n6 _ (by rfl) (hown.alloc _) ⟨W6.heap.size, 0, none⟩ 1 1 [.int .i64 k, .int .i64 xa, .int .i64 xb] (by rfl) (by rfl) (cell_three_new _ _ _ _ _) (by simp [Value.oneCell']) (by decide) (by unfold maxLen; omega) (by omega) (by simp; omega) _ (by rfl) ?_; intro g' cap' w5 hown5 hgrow5 hat5 hlt5; have hk5 := fld_keep (w := W6.drew) HO6.out.blk HO6.out.own hgrow5 (by decide); have hc5 := fld_cell hk5 0; simp at hc5; have hf5 := fld_frozen hk5 0; have hl5 := lt_blk hk5; clear hk5))
  all_goals
    obtain ⟨hq1, hq2⟩ := fl_append (w := W6.drew) (x := ⟨k, xa, xb⟩) (g := g') (cap := cap') HN6.out HO6.out.drew hgrow5 hown5 (by rcases hat5 with e | e; exact .inl e; exact .inr (by rw [e]; simp))
    have HQ1 := Lib.hid hq1
    have HQ2 := Lib.hid hq2
    clear hq1 hq2 hown5 hgrow5 hat5
    go_wp2_with fail
    go_ret
    obtain rfl := HN6.out
    refine ⟨?_, .slice (some ⟨g', 0, none⟩) (F.length + 1) cap', ?_, HF6.out.trans ((Fl.made (Below.refl W6.heap.size W6).drew (Nat.le_of_lt hpl)).trans HQ2.out)⟩
    · have e : (F.length : Int) = (f.length : Int) + ((W.n2 k x y).size : Nat) - 1 := by rw [← HF.out, List.length_append, W.flat_len, HLF1.out]; simp [W.size] <;> omega
      rw [← e]; rfl
    · have e2 : f ++ (W.n2 k x y).flat f.length = F ++ [⟨k, xa, xb⟩] := by rw [← HF.out, ← HXA.out, ← HXB.out, HLF1.out, ← HF1.out]; simp [W.flat]
      rw [e2]; exact HQ1.out
theorem flat_all : ∀ t : W, FlatOk t
  | .n0 k s => flat_n0 k s
  | .n1 k x => flat_n1 k x (flat_all x)
  | .n2 k x y => flat_n2 k x y (flat_all x) (flat_all y)
end Go.Proofs.Ytccknopchddicaa
