/- contract: core.Explore, for any step. -/
import Derived.Test.YtccknopchddicaaDoorB6
namespace Go.Proofs.YtccknopchddicaaDoor
open Go.RowKit Stile

theorem info_int : (Tryd.prog.info? 3).map (fun i => (i.zero, i.size, i.bytes)) = some (some (.int .i64 0), 1, 8) := by kernel_rfl
theorem info_ints : (Tryd.prog.info? 23).map (fun i => (i.zero, i.size, i.bytes)) = some (some (.slice none 0 0), 1, 24) := by kernel_rfl

/-- the rows that have been put together -/
structure Nxt (w : World) (base : Nat) (nv : Value) (L : Nat) (next : List (List Int)) (rs : List Nat) : Prop where
  len : rs.length = next.length
  own : w.ownsRow base 23 1 nv next.length (rs.map fun (r : Nat) => Value.slice (some ⟨r, 0, none⟩) L L)
  rows : ∀ j, j < next.length → w.rowIs (rs.getD j 0) 3 L (ints (next.getD j []))

theorem blk_type {w : World} {g g' t t' : Nat} {cs cs' : Array Value} {fz fz' : Nat × Nat} (h : w.heap[g]? = some (.cells cs t fz)) (h' : w.heap[g']? = some (.cells cs' t' fz')) (hne : t ≠ t') : g ≠ g' := by
  rintro rfl
  rw [h] at h'
  injection h' with h'
  injection h' with _ ht
  exact hne ht
theorem own_blk {w : World} {base e size n : Nat} {v : Value} {xs : List Value} (h : w.ownsRow base e size v n xs) {g : Nat} (hg : v.ownBlock = some g) : ∃ cur, w.heap[g]? = some (.cells cur e (0, 0)) := by
  rcases h.2 with ⟨e, _⟩ | ⟨g', cap, cur, e, _, hh, _⟩
  · subst e; cases hg
  · subst e
    have : g' = g := by simpa [Value.ownBlock] using hg
    subst this; exact ⟨cur, hh⟩
theorem rowIs_blk {w : World} {b t n : Nat} {f : Nat → Value} (h : w.rowIs b t n f) : ∃ cs, w.heap[b]? = some (.cells cs t (0, 0)) := by
  obtain ⟨c, hb, _⟩ := h; exact ⟨c, hb⟩

/-- what a book's growth leaves alone -/
theorem But3.row {w w' : World} {base Bb mb : Nat} {v : Value} {ks : List Nat} (hB : Book w base Bb mb v ks) (h : But3 w w' Bb mb v.ownBlock) {b t : Nat} {cs : Array Value} (hb : w.heap[b]? = some (.cells cs t (0, 0)))
    (h1 : t ≠ 83) (h2 : t ≠ 61) : w'.heap[b]? = w.heap[b]? := by
  refine h.block b (lt_blk hb) (blk_type hb hB.cells h1) ?_ ?_
  · rintro rfl
    obtain ⟨D, ⟨es, clock, hm, _⟩, _⟩ := hB.map
    rw [hb] at hm; cases hm
  · intro e
    obtain ⟨cur, hc⟩ := own_blk hB.row e.symm
    exact blk_type hb hc h2 rfl
theorem But3.nxt {w w' : World} {base Bb mb : Nat} {v nv : Value} {ks : List Nat} {L : Nat} {next : List (List Int)} {rs : List Nat} (hB : Book w base Bb mb v ks) (h : But3 w w' Bb mb v.ownBlock) (hn : Nxt w base nv L next rs) : Nxt w' base nv L next rs := by
  refine ⟨hn.len, ?_, fun j hj => ?_⟩
  · obtain ⟨h1, h2⟩ := hn.own
    refine ⟨h1, ?_⟩
    rcases h2 with h2 | ⟨g, cap, cur, e, hb, hh, r⟩
    · exact .inl h2
    · exact .inr ⟨g, cap, cur, e, hb, (h.row hB hh (by decide) (by decide)).trans hh, r⟩
  · obtain ⟨cs, hc⟩ := rowIs_blk (hn.rows j hj)
    exact (hn.rows j hj).of_block (h.row hB hc (by decide) (by decide))
theorem But3.below {w w' W : World} {base Bb mb : Nat} {v : Value} {ks : List Nat} (hB : Book w base Bb mb v ks) (h : But3 w w' Bb mb v.ownBlock) (hb : Below base W w) (hs : base ≤ w.heap.size) : Below base W w' := by
  refine hb.trans ⟨h.os, h.tape, h.output, h.size, fun k hk => h.block k (by omega) ?_ ?_ ?_⟩
  · have := hB.lo.1; omega
  · have := hB.lo.2; omega
  · intro e
    have := hB.row.lt k e.symm
    omega

/-- a step that makes memory alone -/
theorem Book.below {w w' : World} {base Bb mb : Nat} {v : Value} {ks : List Nat} (h : Book w base Bb mb v ks) (hb : Below w.heap.size w w') : Book w' base Bb mb v ks := by
  obtain ⟨D, hown, hD⟩ := h.map
  refine ⟨(hb.block _ (lt_blk h.cells)).trans h.cells, ⟨D, ?_, hD⟩, ?_, h.lo, h.ne, h.ne', h.small⟩
  · obtain ⟨es, clock, hm, r⟩ := hown
    exact ⟨es, clock, (hb.block _ (lt_blk hm)).trans hm, r⟩
  · obtain ⟨h1, h2⟩ := h.row
    refine ⟨h1, ?_⟩
    rcases h2 with h2 | ⟨g, cap, cur, e, hbs, hh, r⟩
    · exact .inl h2
    · exact .inr ⟨g, cap, cur, e, hbs, (hb.block _ (lt_blk hh)).trans hh, r⟩
theorem Nxt.below {w w' : World} {base : Nat} {nv : Value} {L : Nat} {next : List (List Int)} {rs : List Nat} (h : Nxt w base nv L next rs) (hb : Below w.heap.size w w') : Nxt w' base nv L next rs := by
  refine ⟨h.len, ?_, fun j hj => ?_⟩
  · obtain ⟨h1, h2⟩ := h.own
    refine ⟨h1, ?_⟩
    rcases h2 with h2 | ⟨g, cap, cur, e, hbs, hh, r⟩
    · exact .inl h2
    · exact .inr ⟨g, cap, cur, e, hbs, (hb.block _ (lt_blk hh)).trans hh, r⟩
  · exact (h.rows j hj).of_block (hb.block _ (h.rows j hj).lt)

theorem Book.key {w : World} {base Bb mb : Nat} {v : Value} {ks : List Nat} (h : Book w base Bb mb v ks) {i : Nat} (hi : i < ks.length) :
    ∃ g cap, v = .slice (some ⟨g, 0, none⟩) ks.length cap ∧ w.cell? ⟨g, i, none⟩ = some (.int .u64 ((ks.getD i 0 : Nat) : Int)) := by
  rcases h.row.2 with ⟨_, e⟩ | ⟨g, cap, cur, e, _, hh, _, _, _, htk⟩
  · omega
  · refine ⟨g, cap, e, ?_⟩
    have : cur.toList[i]? = some (.int .u64 ((ks.getD i 0 : Nat) : Int)) := by
      have h2 : (cur.toList.take (ks.length * 1))[i]? = (ks.map fun (k : Nat) => Value.int .u64 (k : Int))[i]? := by rw [htk]
      rw [List.getElem?_take, if_pos (by omega)] at h2
      rw [h2]
      simp [List.getD, hi]
    have : cur[i]? = some (.int .u64 ((ks.getD i 0 : Nat) : Int)) := by simpa using this
    simp [World.cell?, hh, this]

/-- Of, by what it comes to -/
theorem of_any (k base Bb mb : Nat) (v : Value) (ks : List Nat) (w : World) (h : Book w base Bb mb v ks) (hlt : k < 18446744073709551616) (hlen : ks.length ≤ 40) (hbase : base ≤ w.heap.size) :
    Calls Tryd.prog 36 #[.pointer (some ⟨Bb, 0, none⟩), .int .u64 (k : Int)] w fun e w' => ∃ v' ks', e = .returned (.tuple #[.int .i64 (if k ∈ ks then (ks.idxOf k : Int) else (ks.length : Int)), .bool (decide (k ∉ ks))]) ∧
      ks' = (if k ∈ ks then ks else ks ++ [k]) ∧ Book w' base Bb mb v' ks' ∧ But3 w w' Bb mb v.ownBlock := by
  by_cases hk : k ∈ ks
  · refine (of_hit k base Bb mb v ks w h hk).mono ?_
    rintro e w' ⟨rfl, rfl⟩
    exact ⟨v, ks, by simp [hk], by simp [hk], h, But3.refl _ _ _ _⟩
  · refine (of_miss k base Bb mb v ks w h hk hlt hlen hbase).mono ?_
    rintro e w' ⟨v', rfl, h1, h2⟩
    exact ⟨v', ks ++ [k], by simp [hk], by simp [hk], h1, h2⟩

theorem Book.store {w : World} {base Bb mb : Nat} {v : Value} {ks : List Nat} (h : Book w base Bb mb v ks) {b t : Nat} {cs : Array Value} (hb : w.heap[b]? = some (.cells cs t (0, 0)))
    (h1 : t ≠ 83) (h2 : t ≠ 61) (o : Nat) (u : Value) : Book (w.setCell ⟨b, o, none⟩ u) base Bb mb v ks := by
  obtain ⟨D, hown, hD⟩ := h.map
  have hne : Bb ≠ b := fun e => blk_type hb h.cells h1 e.symm
  refine ⟨(Below.heap_setCell w _ _ _ hne).trans h.cells, ⟨D, ?_, hD⟩, ?_, h.lo, h.ne, h.ne', h.small⟩
  · obtain ⟨es, clock, hm, r⟩ := hown
    exact ⟨es, clock, (Below.heap_setCell w _ _ _ (by rintro rfl; rw [hb] at hm; cases hm)).trans hm, r⟩
  · obtain ⟨a1, a2⟩ := h.row
    refine ⟨a1, ?_⟩
    rcases a2 with a2 | ⟨g, cap, cur, e, hbs, hh, r⟩
    · exact .inl a2
    · exact .inr ⟨g, cap, cur, e, hbs, (Below.heap_setCell w _ _ _ (fun e => blk_type hb hh h2 e.symm)).trans hh, r⟩
theorem Nxt.store {w : World} {base : Nat} {nv : Value} {L : Nat} {next : List (List Int)} {rs : List Nat} (h : Nxt w base nv L next rs) {b t : Nat} {cs : Array Value} (hb : w.heap[b]? = some (.cells cs t (0, 0)))
    (h1 : t ≠ 23) (h2 : ∀ j, j < next.length → rs.getD j 0 ≠ b) (o : Nat) (u : Value) : Nxt (w.setCell ⟨b, o, none⟩ u) base nv L next rs := by
  refine ⟨h.len, ?_, fun j hj => (h.rows j hj).setOther (h2 j hj) u⟩
  obtain ⟨a1, a2⟩ := h.own
  refine ⟨a1, ?_⟩
  rcases a2 with a2 | ⟨g, cap, cur, e, hbs, hh, r⟩
  · exact .inl a2
  · exact .inr ⟨g, cap, cur, e, hbs, (Below.heap_setCell w _ _ _ (fun e => blk_type hb hh h1 e.symm)).trans hh, r⟩
theorem Book.grown {w w' : World} {base Bb mb : Nat} {v : Value} {ks : List Nat} {row : Option Nat} {t : Nat} (h : Book w base Bb mb v ks) (hg : w.grownBy w' row) (hrow : ∀ g, row = some g → ∃ cur, w.heap[g]? = some (.cells cur t (0, 0)))
    (h1 : t ≠ 83) (h2 : t ≠ 61) : Book w' base Bb mb v ks := by
  obtain ⟨D, hown, hD⟩ := h.map
  refine ⟨(hg.block _ (lt_blk h.cells) ?_).trans h.cells, ⟨D, ?_, hD⟩, ?_, h.lo, h.ne, h.ne', h.small⟩
  · intro e
    obtain ⟨cur, hc⟩ := hrow _ e.symm
    exact blk_type hc h.cells h1 rfl
  · obtain ⟨es, clock, hm, r⟩ := hown
    refine ⟨es, clock, (hg.block _ (lt_blk hm) ?_).trans hm, r⟩
    intro e
    obtain ⟨cur, hc⟩ := hrow _ e.symm
    rw [hc] at hm; cases hm
  · obtain ⟨a1, a2⟩ := h.row
    refine ⟨a1, ?_⟩
    rcases a2 with a2 | ⟨g, cap, cur, e, hbs, hh, r⟩
    · exact .inl a2
    · refine .inr ⟨g, cap, cur, e, hbs, (hg.block _ (lt_blk hh) ?_).trans hh, r⟩
      intro e
      obtain ⟨cur, hc⟩ := hrow _ e.symm
      exact blk_type hc hh h2 rfl
theorem rowIs_grown {w w' : World} {b t t' n : Nat} {f : Nat → Value} {row : Option Nat} (h : w.rowIs b t n f) (hg : w.grownBy w' row) (hrow : ∀ g, row = some g → ∃ cur, w.heap[g]? = some (.cells cur t' (0, 0))) (hne : t' ≠ t) : w'.rowIs b t n f := by
  obtain ⟨cs, hc⟩ := rowIs_blk h
  refine h.of_block (hg.block _ h.lt ?_)
  intro e
  obtain ⟨cur, hc'⟩ := hrow _ e.symm
  exact blk_type hc' hc hne rfl
/-- one row more -/
theorem Nxt.snoc {w w' : World} {base : Nat} {nv nv' : Value} {L : Nat} {next : List (List Int)} {rs : List Nat} {rb : Nat} {row : List Int} (h : Nxt w base nv L next rs) (hr : w.rowIs rb 3 L (ints row)) (hg : w.grownBy w' nv.ownBlock)
    (ho : w'.ownsRow base 23 1 nv' (next.length + 1) ((rs.map fun (r : Nat) => Value.slice (some ⟨r, 0, none⟩) L L) ++ [.slice (some ⟨rb, 0, none⟩) L L])) : Nxt w' base nv' L (next ++ [row]) (rs ++ [rb]) := by
  have hrow : ∀ g, nv.ownBlock = some g → ∃ cur, w.heap[g]? = some (.cells cur 23 (0, 0)) := fun g hg => own_blk h.own hg
  refine ⟨by simp [h.len], by simpa using ho, fun j hj => ?_⟩
  by_cases e : j < next.length
  · have e1 : (rs ++ [rb]).getD j 0 = rs.getD j 0 := by rw [List.getD, List.getElem?_append_left (by have := h.len; omega), List.getD]
    have e2 : (next ++ [row]).getD j [] = next.getD j [] := by rw [List.getD, List.getElem?_append_left e, List.getD]
    rw [e1, e2]
    exact rowIs_grown (h.rows j e) hg hrow (by decide)
  · have e0 : j = next.length := by simp at hj; omega
    have e1 : (rs ++ [rb]).getD j 0 = rb := by rw [e0, ← h.len]; simp [List.getD]
    have e2 : (next ++ [row]).getD j [] = row := by rw [e0]; simp [List.getD]
    rw [e1, e2]
    exact rowIs_grown hr hg hrow (by decide)
theorem ints_snoc (V : List Int) (r : Int) (j : Nat) : ints (V ++ [r]) j = if j = V.length then .int .i64 r else ints V j := by
  unfold ints
  by_cases h : j < V.length
  · rw [if_neg (by omega), List.getD, List.getD, List.getElem?_append_left h]
  · by_cases e : j = V.length
    · subst e; simp [List.getD]
    · rw [if_neg e, List.getD, List.getD, List.getElem?_eq_none (by simp; omega), List.getElem?_eq_none (by omega)]
end Go.Proofs.YtccknopchddicaaDoor
