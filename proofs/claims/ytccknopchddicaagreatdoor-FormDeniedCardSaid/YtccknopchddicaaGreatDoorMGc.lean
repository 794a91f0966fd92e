/- contracts: core.NewBook, (*core.Book).Of. -/
import Derived.Test.YtccknopchddicaaGreatDoorMW1
import Derived.Maps.OwnSet
import Derived.Maps.AppendAt
set_option linter.unusedSimpArgs false
set_option linter.unusedVariables false
set_option linter.unnecessarySimpa false
namespace Go.Proofs.YtccknopchddicaaGreatDoor
open Go.RowKit Stile

theorem info_u64 : (Tryz.prog.info? 121).map (fun i => (i.zero, i.size, i.bytes)) = some (some (.int .u64 0), 1, 8) := by kernel_rfl
theorem law_u64 : Maps.Keyed Tryz.prog 121 := Maps.int_keyed Tryz.underlying121
theorem zero_int (w : World) : (zeroValue 3).run Tryz.prog w = .ok (.int .i64 0) w := by kernel_rfl

/-- the map D numbers the keys ks as they come -/
structure MapOf (D : DataW Unit) (ks : List Nat) : Prop where
  isMap : Maps.IsMap D
  has : ∀ k : Nat, Maps.has D (.int .u64 (k : Int)) = decide (k ∈ ks)
  at_ : ∀ k : Nat, k ∈ ks → ∀ z, D.atKey (.int .u64 (k : Int)) z = .lit (.int .i64 (ks.idxOf k : Int))

theorem keyLit (k : Nat) (hk : k < 18446744073709551616) : WideAt.IsKeyLit (.int .u64 (k : Int)) := by simp [WideAt.IsKeyLit]
theorem MapOf.nil : MapOf (.map []) [] := ⟨⟨[], rfl⟩, fun k => by simp [Maps.has], fun k hk => by simp at hk⟩
theorem MapOf.put {D : DataW Unit} {ks : List Nat} (h : MapOf D ks) (k : Nat) (hk : k ∉ ks) (hlt : k < 18446744073709551616) : MapOf (D.put (.int .u64 (k : Int)) (.lit (.int .i64 (ks.length : Int)))) (ks ++ [k]) := by
  refine ⟨h.isMap.put _ _, fun j => ?_, fun j hj z => ?_⟩
  · by_cases e : j = k
    · subst e; rw [Maps.has_put_same h.isMap (keyLit j hlt)]; simp
    · rw [Maps.has_put_other (by intro h; injection h with _ h; omega), h.has]; simp [e]
  · by_cases e : j = k
    · subst e
      rw [Maps.atKey_put_same h.isMap (keyLit j hlt)]
      rw [List.idxOf_append]; simp [hk]
    · rw [Maps.atKey_put_other (by intro h; injection h with _ h; omega)]
      have hj' : j ∈ ks := by simpa [e] using hj
      rw [h.at_ j hj', List.idxOf_append]; simp [hj']

/-- a book in memory: its cells in block Bb, its map in block mb, its keys in the slice v -/
structure Book (w : World) (base Bb mb : Nat) (v : Value) (ks : List Nat) : Prop where
  cells : w.heap[Bb]? = some (.cells #[.map (some mb), v] 152 (0, 0))
  map : ∃ D : DataW Unit, w.ownsMap Tryz.prog 121 (plainElem Tryz.prog 3) mb ks.length D ∧ MapOf D ks
  row : w.ownsRow base 121 1 v ks.length (ks.map fun (k : Nat) => Value.int .u64 (k : Int))
  lo : base ≤ Bb ∧ base ≤ mb
  ne : Bb ≠ mb
  ne' : v.ownBlock ≠ some Bb ∧ v.ownBlock ≠ some mb
  small : ∀ k ∈ ks, k < 18446744073709551616

/-- all blocks but three lie as they lay -/
structure But3 (w w' : World) (a b : Nat) (c : Option Nat) : Prop where
  os : w'.os = w.os
  tape : w'.tape = w.tape
  output : w'.output = w.output
  size : w.heap.size ≤ w'.heap.size
  block : ∀ k, k < w.heap.size → k ≠ a → k ≠ b → some k ≠ c → w'.heap[k]? = w.heap[k]?

theorem But3.refl (w : World) (a b : Nat) (c : Option Nat) : But3 w w a b c := ⟨rfl, rfl, rfl, Nat.le_refl _, fun _ _ _ _ _ => rfl⟩

theorem own_slice {w : World} {base e size n : Nat} {v : Value} {xs : List Value} (h : w.ownsRow base e size v (n + 1) xs) : ∃ g cap, v = .slice (some ⟨g, 0, none⟩) (n + 1) cap := by
  rcases h.2 with ⟨_, h0⟩ | ⟨g, cap, cur, e, _⟩
  · cases h0
  · exact ⟨g, cap, e⟩
theorem lt_blk {w : World} {b : Nat} {o : Obj} (h : w.heap[b]? = some o) : b < w.heap.size := (Array.getElem?_eq_some_iff.1 h).1
theorem Book.cell0 {w : World} {base Bb mb : Nat} {v : Value} {ks : List Nat} (h : Book w base Bb mb v ks) : w.cell? ⟨Bb, 0, none⟩ = some (.map (some mb)) := by
  simp [World.cell?, h.cells]
theorem Book.cell1 {w : World} {base Bb mb : Nat} {v : Value} {ks : List Nat} (h : Book w base Bb mb v ks) : w.cell? ⟨Bb, 1, none⟩ = some v := by
  simp [World.cell?, h.cells]
theorem Book.slice {w : World} {base Bb mb : Nat} {v : Value} {ks : List Nat} (h : Book w base Bb mb v ks) : ∃ A c, v = .slice A ks.length c := by
  rcases h.row.2 with ⟨e, e2⟩ | ⟨g, cap, cur, e, _⟩
  · exact ⟨none, 0, by rw [e, e2]⟩
  · exact ⟨_, cap, e⟩

set_option maxHeartbeats 400000 in
theorem newbook_any (w : World) : Calls Tryz.prog 102 #[] w fun e w' => ∃ Bb mb, e = .returned (.pointer (some ⟨Bb, 0, none⟩)) ∧ Book w' w.heap.size Bb mb (.slice none 0 0) [] ∧ Below w.heap.size w w' := by
  have hmm := @run_makeMap Tryz.prog
  go_enter Tryz.func102, Tryz.ntmps102
  go_wp2
  go_ret
  refine ⟨w.heap.size + 1, w.heap.size, rfl, ⟨?_, ⟨.map [], ?_, MapOf.nil⟩, ?_, by omega, by omega, by simp [Value.ownBlock], by simp⟩, ?_⟩
  · show ((w.heap.push _).push _)[w.heap.size + 1]? = _
    rw [Array.getElem?_push, if_pos (by simp)]
  · exact (World.ownsMap_made w Tryz.prog 121 _).alloc _
  · exact World.ownsRow_nil _ _ _ _
  · exact ((Below.refl _ _).alloc (Nat.le_refl _) _).alloc (by simp) _

set_option maxHeartbeats 400000 in
theorem of_hit (k base Bb mb : Nat) (v : Value) (ks : List Nat) (w : World) (h : Book w base Bb mb v ks) (hk : k ∈ ks) :
    Calls Tryz.prog 103 #[.pointer (some ⟨Bb, 0, none⟩), .int .u64 (k : Int)] w fun e w' => e = .returned (.tuple #[.int .i64 (ks.idxOf k : Int), .bool false]) ∧ w = w' := by
  obtain ⟨D, hown, hD⟩ := h.map
  have hlt := h.small k hk
  have hkey := Maps.keyOf_int_mk (P := Tryz.prog) Tryz.underlying121 (a := (k : Int)) (q := .u64) (WalkArith.wf_u64 (by omega))
  have hh : Maps.has D (.int .u64 (k : Int)) = true := by rw [hD.has]; simpa using hk
  have hA := hD.at_ k hk (.lit (.int .i64 0))
  have c0 := h.cell0
  have c1 := h.cell1
  have HA := Lib.hid hA
  clear hA hD h
  go_enter Tryz.func103, Tryz.ntmps103
  go_wp2_with (at_lookup; refine wpList_lookup_own_ok_int _ rfl _ _ 150 rfl 121 3 .i64 law_u64 Tryz.underlying150 Tryz.underlying3 (zero_int _) mb ks.length D rfl hown _ _ rfl hkey ?_; intro cL hat hwc; rw [hh])
  go_ret2
  have := HA.out
  rw [hat] at this
  injection this with this
  injection this with _ this
  subst this
  exact ⟨rfl, rfl⟩

set_option maxRecDepth 100000 in
set_option maxHeartbeats 800000 in
theorem of_miss (k base Bb mb : Nat) (v : Value) (ks : List Nat) (w : World) (h : Book w base Bb mb v ks) (hk : k ∉ ks) (hlt : k < 18446744073709551616) (hlen : ks.length ≤ 40) (hbase : base ≤ w.heap.size) :
    Calls Tryz.prog 103 #[.pointer (some ⟨Bb, 0, none⟩), .int .u64 (k : Int)] w fun e w' => ∃ v', e = .returned (.tuple #[.int .i64 (ks.length : Int), .bool true]) ∧ Book w' base Bb mb v' (ks ++ [k]) ∧ But3 w w' Bb mb v.ownBlock := by
  obtain ⟨D, hown, hD⟩ := h.map
  have hkey := Maps.keyOf_int_mk (P := Tryz.prog) Tryz.underlying121 (a := (k : Int)) (q := .u64) (WalkArith.wf_u64 (by omega))
  have hval := plainElem_int (H := Unit) Tryz.underlying3 (a := (ks.length : Int)) (WalkArith.wf_i64 (by omega))
  have hh : Maps.has D (.int .u64 (k : Int)) = false := by rw [hD.has]; simpa using hk
  have hD' := hD.put k hk hlt
  have c0 := h.cell0
  have c1 := h.cell1
  have hBlt := lt_blk h.cells
  have hmlt := hown.lt
  obtain ⟨A, c, rfl⟩ := h.slice
  obtain ⟨i0, hi, hz0, hz1, hz2⟩ := info_parts info_u64
  have S1 : ∀ w1, w.grownBy w1 (some mb) → w1.cell? ⟨Bb, 0, none⟩ = some (.map (some mb)) ∧ w1.cell? ⟨Bb, 1, none⟩ = some (.slice A ks.length c) ∧ w1.frozen? ⟨Bb, 1, none⟩ = false ∧ w1.ownsRow base 121 1 (.slice A ks.length c) ks.length (ks.map fun (k : Nat) => Value.int .u64 (k : Int)) ∧ Bb < w1.heap.size ∧ base ≤ w1.heap.size ∧ w1.heap[Bb]? = w.heap[Bb]? := fun w1 hg => by
    have e : w1.heap[Bb]? = w.heap[Bb]? := hg.block Bb hBlt (by intro e; injection e with e; exact h.ne e)
    refine ⟨(World.cell?_of_block (w := w) e).trans c0, (World.cell?_of_block (w := w) e).trans c1, ?_, h.row.kept hg (.inr h.ne'.2), Nat.lt_of_lt_of_le hBlt hg.size, Nat.le_trans hbase hg.size, e⟩
    rw [World.frozen?_of_block (w := w) (a := ⟨Bb, 1, none⟩) e]
    simp [World.frozen?, h.cells]
  have S2 : ∀ w1 w2 o, w.grownBy w1 (some mb) → (w1.alloc o).grownBy w2 (Value.slice A ks.length c).ownBlock → w2.cell? ⟨Bb, 1, none⟩ = some (.slice A ks.length c) ∧ w2.frozen? ⟨Bb, 1, none⟩ = false := fun w1 w2 o hg hg2 => by
    obtain ⟨_, d1, df, _, dl, _, _⟩ := S1 w1 hg
    have e : w2.heap[Bb]? = w1.heap[Bb]? := (hg2.block Bb (by simp; omega) (fun e => h.ne'.1 e.symm)).trans (Below.heap_alloc w1 o Bb dl)
    exact ⟨(World.cell?_of_block (w := w1) e).trans d1, (World.frozen?_of_block (w := w1) (a := ⟨Bb, 1, none⟩) e).trans df⟩
  have HH := Lib.hid h
  have HD := Lib.hid hD'
  have HS1 := Lib.hid S1
  have HS2 := Lib.hid S2
  clear hD hD' h S1 S2
  go_enter Tryz.func103, Tryz.ntmps103
  go_wp2_with (first
    | (at_lookup; refine wpList_lookup_own_ok_int _ rfl _ _ 150 rfl 121 3 .i64 law_u64 Tryz.underlying150 Tryz.underlying3 (zero_int _) mb ks.length D rfl hown _ _ rfl hkey ?_; intro cL hat hwc; rw [hh])
    | (at_mapUpdate; refine wpList_mapUpdate_own _ rfl _ _ _ 150 rfl 121 3 law_u64 Tryz.underlying150 _ mb ks.length D rfl hown (by unfold maxLen; omega) _ _ _ rfl rfl hkey _ [] hval ?_; intro w1 hown1 hgrow1; obtain ⟨d0, d1, df, dr, dl, dbs, de⟩ := HS1.out w1 hgrow1)
    | (at_builtin; refine wpList_append_own_at _ rfl _ _ 118 rfl base 121 i0 _ 1 8 Tryz.underlying118 hi hz0 hz1 hz2 rfl (by decide) _ ks.length _ rfl (dr.alloc _) ⟨w1.heap.size, 0, none⟩ 1 1 [.int .u64 (k : Int)] rfl rfl (cell_one_new _ _ _) (by simp [Value.oneCell']) (by unfold maxLen; omega) (by omega) (by simp; omega) ?_; intro v' w2 hown2 hgrow2 _ hat2; obtain ⟨g', cap', rfl⟩ := own_slice hown2; obtain ⟨f1, ff⟩ := HS2.out w1 w2 _ hgrow1 hgrow2))
  have h := HH.out
  have e1 : w1.heap[Bb]? = w.heap[Bb]? := de
  have e2 : w2.heap[Bb]? = w.heap[Bb]? := (hgrow2.block Bb (by simp; omega) (fun e => h.ne'.1 e.symm)).trans ((Below.heap_alloc w1 _ Bb dl).trans e1)
  have hgs : w2.grownBy (w2.setCell ⟨Bb, 1, none⟩ (.slice (some ⟨g', 0, none⟩) (ks.length + 1) cap')) (some Bb) := ⟨rfl, rfl, rfl, by simp [World.setCell], fun i _ hi => Below.heap_setCell w2 _ _ i (fun e => hi (by rw [e]))⟩
  have hgB : (some g' : Option Nat) ≠ some Bb := by
    rcases hat2 with e | e
    · rw [show (Value.slice (some ⟨g', 0, none⟩) (ks.length + 1) cap').ownBlock = some g' from rfl] at e; rw [e]; exact h.ne'.1
    · rw [show (Value.slice (some ⟨g', 0, none⟩) (ks.length + 1) cap').ownBlock = some g' from rfl] at e; rw [e]; simp; omega
  have hgM : (some g' : Option Nat) ≠ some mb := by
    rcases hat2 with e | e
    · rw [show (Value.slice (some ⟨g', 0, none⟩) (ks.length + 1) cap').ownBlock = some g' from rfl] at e; rw [e]; exact h.ne'.2
    · rw [show (Value.slice (some ⟨g', 0, none⟩) (ks.length + 1) cap').ownBlock = some g' from rfl] at e; rw [e]; have := hgrow1.size; simp; omega
  have hm1 := ((hown1.alloc (.cells #[.int .u64 (k : Int)] 121)).kept hgrow2 (fun e => h.ne'.2 e.symm)).kept hgs (by simp; exact fun e => h.ne e.symm)
  have hr1 := hown2.kept hgs (.inr hgB)
  go_ret2
  refine ⟨.slice (some ⟨g', 0, none⟩) (ks.length + 1) cap', rfl, ⟨?_, ⟨_, ?_, HD.out⟩, ?_, h.lo, h.ne, ⟨hgB, hgM⟩, ?_⟩, ⟨?_, ?_, ?_, ?_, ?_⟩⟩
  · simp [World.setCell, Array.getElem?_modify, e2, h.cells]
  · simpa using hm1
  · simpa using hr1
  · intro j hj
    rcases List.mem_append.1 hj with hj | hj
    · exact h.small j hj
    · simp at hj; omega
  · exact hgs.os.trans (hgrow2.os.trans hgrow1.os)
  · exact hgs.tape.trans (hgrow2.tape.trans hgrow1.tape)
  · exact hgs.output.trans (hgrow2.output.trans hgrow1.output)
  · have a1 := hgs.size; have a2 := hgrow2.size; have a3 := hgrow1.size; simp at a2; omega
  · intro j hj h1 h2 h3
    have a3 := hgrow1.size
    have b1 : w1.heap[j]? = w.heap[j]? := hgrow1.block j hj (by simpa using h2)
    have b2 := hgrow2.block j (by simp; omega) h3
    exact (Below.heap_setCell w2 _ _ j h1).trans (b2.trans ((Below.heap_alloc w1 _ j (by omega)).trans b1))
end Go.Proofs.YtccknopchddicaaGreatDoor
/- contract: core.Explore, for any step. -/
namespace Go.Proofs.YtccknopchddicaaGreatDoor
open Go.RowKit Stile

theorem info_int : (Tryz.prog.info? 3).map (fun i => (i.zero, i.size, i.bytes)) = some (some (.int .i64 0), 1, 8) := by kernel_rfl
theorem info_ints : (Tryz.prog.info? 23).map (fun i => (i.zero, i.size, i.bytes)) = some (some (.slice none 0 0), 1, 24) := by kernel_rfl

/-- the rows that have been put together -/
structure Nxt (w : World) (base : Nat) (nv : Value) (L : Nat) (next : List (List Int)) (rs : List Nat) : Prop where
  len : rs.length = next.length
  own : w.ownsRow base 23 1 nv next.length (rs.map fun (r : Nat) => Value.slice (some ⟨r, 0, none⟩) L L)
  rows : ∀ j, j < next.length → w.rowIs (rs.getD j 0) 3 L (ints (next.getD j []))

theorem blk_type {w : World} {g g' t t' : Nat} {cs cs' : Array Value} {fz fz' : Nat × Nat} (h : w.heap[g]? = some (.cells cs t fz)) (h' : w.heap[g']? = some (.cells cs' t' fz')) (hne : t ≠ t') : g ≠ g' := by
  rintro rfl
  rw [h] at h'
  injection h' with h'
  injection h' with _ ht
  exact hne ht
theorem own_blk {w : World} {base e size n : Nat} {v : Value} {xs : List Value} (h : w.ownsRow base e size v n xs) {g : Nat} (hg : v.ownBlock = some g) : ∃ cur, w.heap[g]? = some (.cells cur e (0, 0)) := by
  rcases h.2 with ⟨e, _⟩ | ⟨g', cap, cur, e, _, hh, _⟩
  · subst e; cases hg
  · subst e
    have : g' = g := by simpa [Value.ownBlock] using hg
    subst this; exact ⟨cur, hh⟩
theorem rowIs_blk {w : World} {b t n : Nat} {f : Nat → Value} (h : w.rowIs b t n f) : ∃ cs, w.heap[b]? = some (.cells cs t (0, 0)) := by
  obtain ⟨c, hb, _⟩ := h; exact ⟨c, hb⟩

/-- what a book's growth leaves alone -/
theorem But3.row {w w' : World} {base Bb mb : Nat} {v : Value} {ks : List Nat} (hB : Book w base Bb mb v ks) (h : But3 w w' Bb mb v.ownBlock) {b t : Nat} {cs : Array Value} (hb : w.heap[b]? = some (.cells cs t (0, 0)))
    (h1 : t ≠ 152) (h2 : t ≠ 121) : w'.heap[b]? = w.heap[b]? := by
  refine h.block b (lt_blk hb) (blk_type hb hB.cells h1) ?_ ?_
  · rintro rfl
    obtain ⟨D, ⟨es, clock, hm, _⟩, _⟩ := hB.map
    rw [hb] at hm; cases hm
  · intro e
    obtain ⟨cur, hc⟩ := own_blk hB.row e.symm
    exact blk_type hb hc h2 rfl
theorem But3.nxt {w w' : World} {base Bb mb : Nat} {v nv : Value} {ks : List Nat} {L : Nat} {next : List (List Int)} {rs : List Nat} (hB : Book w base Bb mb v ks) (h : But3 w w' Bb mb v.ownBlock) (hn : Nxt w base nv L next rs) : Nxt w' base nv L next rs := by
  refine ⟨hn.len, ?_, fun j hj => ?_⟩
  · obtain ⟨h1, h2⟩ := hn.own
    refine ⟨h1, ?_⟩
    rcases h2 with h2 | ⟨g, cap, cur, e, hb, hh, r⟩
    · exact .inl h2
    · exact .inr ⟨g, cap, cur, e, hb, (h.row hB hh (by decide) (by decide)).trans hh, r⟩
  · obtain ⟨cs, hc⟩ := rowIs_blk (hn.rows j hj)
    exact (hn.rows j hj).of_block (h.row hB hc (by decide) (by decide))
theorem But3.below {w w' W : World} {base Bb mb : Nat} {v : Value} {ks : List Nat} (hB : Book w base Bb mb v ks) (h : But3 w w' Bb mb v.ownBlock) (hb : Below base W w) (hs : base ≤ w.heap.size) : Below base W w' := by
  refine hb.trans ⟨h.os, h.tape, h.output, h.size, fun k hk => h.block k (by omega) ?_ ?_ ?_⟩
  · have := hB.lo.1; omega
  · have := hB.lo.2; omega
  · intro e
    have := hB.row.lt k e.symm
    omega

/-- a step that makes memory alone -/
theorem Book.below {w w' : World} {base Bb mb : Nat} {v : Value} {ks : List Nat} (h : Book w base Bb mb v ks) (hb : Below w.heap.size w w') : Book w' base Bb mb v ks := by
  obtain ⟨D, hown, hD⟩ := h.map
  refine ⟨(hb.block _ (lt_blk h.cells)).trans h.cells, ⟨D, ?_, hD⟩, ?_, h.lo, h.ne, h.ne', h.small⟩
  · obtain ⟨es, clock, hm, r⟩ := hown
    exact ⟨es, clock, (hb.block _ (lt_blk hm)).trans hm, r⟩
  · obtain ⟨h1, h2⟩ := h.row
    refine ⟨h1, ?_⟩
    rcases h2 with h2 | ⟨g, cap, cur, e, hbs, hh, r⟩
    · exact .inl h2
    · exact .inr ⟨g, cap, cur, e, hbs, (hb.block _ (lt_blk hh)).trans hh, r⟩
theorem Nxt.below {w w' : World} {base : Nat} {nv : Value} {L : Nat} {next : List (List Int)} {rs : List Nat} (h : Nxt w base nv L next rs) (hb : Below w.heap.size w w') : Nxt w' base nv L next rs := by
  refine ⟨h.len, ?_, fun j hj => ?_⟩
  · obtain ⟨h1, h2⟩ := h.own
    refine ⟨h1, ?_⟩
    rcases h2 with h2 | ⟨g, cap, cur, e, hbs, hh, r⟩
    · exact .inl h2
    · exact .inr ⟨g, cap, cur, e, hbs, (hb.block _ (lt_blk hh)).trans hh, r⟩
  · exact (h.rows j hj).of_block (hb.block _ (h.rows j hj).lt)

theorem Book.key {w : World} {base Bb mb : Nat} {v : Value} {ks : List Nat} (h : Book w base Bb mb v ks) {i : Nat} (hi : i < ks.length) :
    ∃ g cap, v = .slice (some ⟨g, 0, none⟩) ks.length cap ∧ w.cell? ⟨g, i, none⟩ = some (.int .u64 ((ks.getD i 0 : Nat) : Int)) := by
  rcases h.row.2 with ⟨_, e⟩ | ⟨g, cap, cur, e, _, hh, _, _, _, htk⟩
  · omega
  · refine ⟨g, cap, e, ?_⟩
    have : cur.toList[i]? = some (.int .u64 ((ks.getD i 0 : Nat) : Int)) := by
      have h2 : (cur.toList.take (ks.length * 1))[i]? = (ks.map fun (k : Nat) => Value.int .u64 (k : Int))[i]? := by rw [htk]
      rw [List.getElem?_take, if_pos (by omega)] at h2
      rw [h2]
      simp [List.getD, hi]
    have : cur[i]? = some (.int .u64 ((ks.getD i 0 : Nat) : Int)) := by simpa using this
    simp [World.cell?, hh, this]

/-- Of, by what it comes to -/
theorem of_any (k base Bb mb : Nat) (v : Value) (ks : List Nat) (w : World) (h : Book w base Bb mb v ks) (hlt : k < 18446744073709551616) (hlen : ks.length ≤ 40) (hbase : base ≤ w.heap.size) :
    Calls Tryz.prog 103 #[.pointer (some ⟨Bb, 0, none⟩), .int .u64 (k : Int)] w fun e w' => ∃ v' ks', e = .returned (.tuple #[.int .i64 (if k ∈ ks then (ks.idxOf k : Int) else (ks.length : Int)), .bool (decide (k ∉ ks))]) ∧
      ks' = (if k ∈ ks then ks else ks ++ [k]) ∧ Book w' base Bb mb v' ks' ∧ But3 w w' Bb mb v.ownBlock := by
  by_cases hk : k ∈ ks
  · refine (of_hit k base Bb mb v ks w h hk).mono ?_
    rintro e w' ⟨rfl, rfl⟩
    exact ⟨v, ks, by simp [hk], by simp [hk], h, But3.refl _ _ _ _⟩
  · refine (of_miss k base Bb mb v ks w h hk hlt hlen hbase).mono ?_
    rintro e w' ⟨v', rfl, h1, h2⟩
    exact ⟨v', ks ++ [k], by simp [hk], by simp [hk], h1, h2⟩

theorem Book.store {w : World} {base Bb mb : Nat} {v : Value} {ks : List Nat} (h : Book w base Bb mb v ks) {b t : Nat} {cs : Array Value} (hb : w.heap[b]? = some (.cells cs t (0, 0)))
    (h1 : t ≠ 152) (h2 : t ≠ 121) (o : Nat) (u : Value) : Book (w.setCell ⟨b, o, none⟩ u) base Bb mb v ks := by
  obtain ⟨D, hown, hD⟩ := h.map
  have hne : Bb ≠ b := fun e => blk_type hb h.cells h1 e.symm
  refine ⟨(Below.heap_setCell w _ _ _ hne).trans h.cells, ⟨D, ?_, hD⟩, ?_, h.lo, h.ne, h.ne', h.small⟩
  · obtain ⟨es, clock, hm, r⟩ := hown
    exact ⟨es, clock, (Below.heap_setCell w _ _ _ (by rintro rfl; rw [hb] at hm; cases hm)).trans hm, r⟩
  · obtain ⟨a1, a2⟩ := h.row
    refine ⟨a1, ?_⟩
    rcases a2 with a2 | ⟨g, cap, cur, e, hbs, hh, r⟩
    · exact .inl a2
    · exact .inr ⟨g, cap, cur, e, hbs, (Below.heap_setCell w _ _ _ (fun e => blk_type hb hh h2 e.symm)).trans hh, r⟩
theorem Nxt.store {w : World} {base : Nat} {nv : Value} {L : Nat} {next : List (List Int)} {rs : List Nat} (h : Nxt w base nv L next rs) {b t : Nat} {cs : Array Value} (hb : w.heap[b]? = some (.cells cs t (0, 0)))
    (h1 : t ≠ 23) (h2 : ∀ j, j < next.length → rs.getD j 0 ≠ b) (o : Nat) (u : Value) : Nxt (w.setCell ⟨b, o, none⟩ u) base nv L next rs := by
  refine ⟨h.len, ?_, fun j hj => (h.rows j hj).setOther (h2 j hj) u⟩
  obtain ⟨a1, a2⟩ := h.own
  refine ⟨a1, ?_⟩
  rcases a2 with a2 | ⟨g, cap, cur, e, hbs, hh, r⟩
  · exact .inl a2
  · exact .inr ⟨g, cap, cur, e, hbs, (Below.heap_setCell w _ _ _ (fun e => blk_type hb hh h1 e.symm)).trans hh, r⟩
theorem Book.grown {w w' : World} {base Bb mb : Nat} {v : Value} {ks : List Nat} {row : Option Nat} {t : Nat} (h : Book w base Bb mb v ks) (hg : w.grownBy w' row) (hrow : ∀ g, row = some g → ∃ cur, w.heap[g]? = some (.cells cur t (0, 0)))
    (h1 : t ≠ 152) (h2 : t ≠ 121) : Book w' base Bb mb v ks := by
  obtain ⟨D, hown, hD⟩ := h.map
  refine ⟨(hg.block _ (lt_blk h.cells) ?_).trans h.cells, ⟨D, ?_, hD⟩, ?_, h.lo, h.ne, h.ne', h.small⟩
  · intro e
    obtain ⟨cur, hc⟩ := hrow _ e.symm
    exact blk_type hc h.cells h1 rfl
  · obtain ⟨es, clock, hm, r⟩ := hown
    refine ⟨es, clock, (hg.block _ (lt_blk hm) ?_).trans hm, r⟩
    intro e
    obtain ⟨cur, hc⟩ := hrow _ e.symm
    rw [hc] at hm; cases hm
  · obtain ⟨a1, a2⟩ := h.row
    refine ⟨a1, ?_⟩
    rcases a2 with a2 | ⟨g, cap, cur, e, hbs, hh, r⟩
    · exact .inl a2
    · refine .inr ⟨g, cap, cur, e, hbs, (hg.block _ (lt_blk hh) ?_).trans hh, r⟩
      intro e
      obtain ⟨cur, hc⟩ := hrow _ e.symm
      exact blk_type hc hh h2 rfl
theorem rowIs_grown {w w' : World} {b t t' n : Nat} {f : Nat → Value} {row : Option Nat} (h : w.rowIs b t n f) (hg : w.grownBy w' row) (hrow : ∀ g, row = some g → ∃ cur, w.heap[g]? = some (.cells cur t' (0, 0))) (hne : t' ≠ t) : w'.rowIs b t n f := by
  obtain ⟨cs, hc⟩ := rowIs_blk h
  refine h.of_block (hg.block _ h.lt ?_)
  intro e
  obtain ⟨cur, hc'⟩ := hrow _ e.symm
  exact blk_type hc' hc hne rfl
/-- one row more -/
theorem Nxt.snoc {w w' : World} {base : Nat} {nv nv' : Value} {L : Nat} {next : List (List Int)} {rs : List Nat} {rb : Nat} {row : List Int} (h : Nxt w base nv L next rs) (hr : w.rowIs rb 3 L (ints row)) (hg : w.grownBy w' nv.ownBlock)
    (ho : w'.ownsRow base 23 1 nv' (next.length + 1) ((rs.map fun (r : Nat) => Value.slice (some ⟨r, 0, none⟩) L L) ++ [.slice (some ⟨rb, 0, none⟩) L L])) : Nxt w' base nv' L (next ++ [row]) (rs ++ [rb]) := by
  have hrow : ∀ g, nv.ownBlock = some g → ∃ cur, w.heap[g]? = some (.cells cur 23 (0, 0)) := fun g hg => own_blk h.own hg
  refine ⟨by simp [h.len], by simpa using ho, fun j hj => ?_⟩
  by_cases e : j < next.length
  · have e1 : (rs ++ [rb]).getD j 0 = rs.getD j 0 := by rw [List.getD, List.getElem?_append_left (by have := h.len; omega), List.getD]
    have e2 : (next ++ [row]).getD j [] = next.getD j [] := by rw [List.getD, List.getElem?_append_left e, List.getD]
    rw [e1, e2]
    exact rowIs_grown (h.rows j e) hg hrow (by decide)
  · have e0 : j = next.length := by simp at hj; omega
    have e1 : (rs ++ [rb]).getD j 0 = rb := by rw [e0, ← h.len]; simp [List.getD]
    have e2 : (next ++ [row]).getD j [] = row := by rw [e0]; simp [List.getD]
    rw [e1, e2]
    exact rowIs_grown hr hg hrow (by decide)
theorem ints_snoc (V : List Int) (r : Int) (j : Nat) : ints (V ++ [r]) j = if j = V.length then .int .i64 r else ints V j := by
  unfold ints
  by_cases h : j < V.length
  · rw [if_neg (by omega), List.getD, List.getD, List.getElem?_append_left h]
  · by_cases e : j = V.length
    · subst e; simp [List.getD]
    · rw [if_neg e, List.getD, List.getD, List.getElem?_eq_none (by simp; omega), List.getElem?_eq_none (by omega)]
end Go.Proofs.YtccknopchddicaaGreatDoor
/- a struct's block whose fields hold rows that are appended to. -/
namespace Go.Proofs.YtccknopchddicaaGreatDoor
open Go.RowKit Stile
/-- a step that changes block g and the row of type E alone -/
structure Grew (g E : Nat) (w w' : World) : Prop where
  below : Below g w w'
  other : ∀ b t cs, w.heap[b]? = some (.cells cs t (0, 0)) → t ≠ E → b ≠ g → w'.heap[b]? = w.heap[b]?
theorem fld_keep {w w2 : World} {g T E sz n : Nat} {cs : Array Value} {v : Value} {xs : List Value} {o : Obj} (hg : w.heap[g]? = some (.cells cs T (0, 0))) (hv : w.ownsRow g E sz v n xs) (hgrow : (w.alloc o).grownBy w2 v.ownBlock) (hT : T ≠ E) :
    w2.heap[g]? = some (.cells cs T (0, 0)) := by
  refine (hgrow.block g (by have := lt_blk hg; simp; omega) ?_).trans ((Below.heap_alloc w o g (lt_blk hg)).trans hg)
  intro e
  obtain ⟨cur, hc⟩ := own_blk hv e.symm
  exact blk_type hg hc hT rfl
theorem fld_cell {w : World} {g T : Nat} {cs : Array Value} (hg : w.heap[g]? = some (.cells cs T (0, 0))) (k : Nat) : w.cell? ⟨g, k, none⟩ = cs[k]? := by
  simp [World.cell?, hg]
theorem fld_frozen {w : World} {g T : Nat} {cs : Array Value} (hg : w.heap[g]? = some (.cells cs T (0, 0))) (k : Nat) : w.frozen? ⟨g, k, none⟩ = false := by
  simp [World.frozen?, hg]
theorem fld_set {w2 : World} {g T : Nat} {cs : Array Value} (hg : w2.heap[g]? = some (.cells cs T (0, 0))) (k : Nat) (u : Value) :
    (w2.setCell ⟨g, k, none⟩ u).heap[g]? = some (.cells (cs.set! k u) T (0, 0)) := by
  simp [World.setCell, Array.getElem?_modify, hg]
theorem fld_grew {w w2 : World} {g T E sz n n' k : Nat} {cs : Array Value} {v v' u : Value} {xs xs' : List Value} {o : Obj} (hg : w.heap[g]? = some (.cells cs T (0, 0))) (hv : w.ownsRow g E sz v n xs) (hgrow : (w.alloc o).grownBy w2 v.ownBlock)
    (hv' : w2.ownsRow g E sz v' n' xs') (hT : T ≠ E) : (w2.setCell ⟨g, k, none⟩ u).ownsRow g E sz v' n' xs' ∧ Grew g E w (w2.setCell ⟨g, k, none⟩ u) := by
  have hg2 := fld_keep hg hv hgrow hT
  have hlt := lt_blk hg
  refine ⟨?_, ?_, ?_⟩
  · obtain ⟨a1, a2⟩ := hv'
    refine ⟨a1, ?_⟩
    rcases a2 with a2 | ⟨b, cap, cur, e, hbs, hh, r⟩
    · exact .inl a2
    · exact .inr ⟨b, cap, cur, e, hbs, (Below.heap_setCell w2 _ _ _ (fun e => blk_type hg2 hh hT e.symm)).trans hh, r⟩
  · have h1 : Below g w (w.alloc o) := (Below.refl _ _).alloc (by omega) _
    have h2 := h1.grown hgrow (by simp; omega) (fun b hb => (hv.lt b hb).1)
    exact h2.setCell (Nat.le_refl _) _
  · intro b t cs' hb ht hne
    have hltb := lt_blk hb
    refine (Below.heap_setCell w2 _ _ _ hne).trans ((hgrow.block b (by simp; omega) ?_).trans (Below.heap_alloc w o b hltb))
    intro e
    obtain ⟨cur, hc⟩ := own_blk hv e.symm
    exact blk_type hb hc ht rfl
theorem Grew.own {w w' : World} {g T E E' sz n : Nat} {cs : Array Value} {v : Value} {xs : List Value} (h : Grew g E w w') (hg : w.heap[g]? = some (.cells cs T (0, 0))) (hv : w.ownsRow g E' sz v n xs) (h1 : E' ≠ E) (h2 : E' ≠ T) : w'.ownsRow g E' sz v n xs := by
  obtain ⟨a1, a2⟩ := hv
  refine ⟨a1, ?_⟩
  rcases a2 with a2 | ⟨b, cap, cur, e, hbs, hh, r⟩
  · exact .inl a2
  · exact .inr ⟨b, cap, cur, e, hbs, (h.other b _ _ hh h1 (blk_type hh hg h2)).trans hh, r⟩
theorem heap_new (w : World) (o : Obj) : (w.alloc o).heap[w.heap.size]? = some o := by
  show (w.heap.push o)[w.heap.size]? = some o
  rw [Array.getElem?_push, if_pos rfl]
theorem heap_new2 (w : World) (o o' : Obj) : ((w.alloc o).alloc o').heap[w.heap.size + 1]? = some o' := by
  have h := heap_new (w.alloc o) o'
  rwa [show (w.alloc o).heap.size = w.heap.size + 1 from by simp] at h
theorem heap_old2 (w : World) (o o' : Obj) : ((w.alloc o).alloc o').heap[w.heap.size]? = some o :=
  (Below.heap_alloc (w.alloc o) o' w.heap.size (by simp)).trans (heap_new w o)
end Go.Proofs.YtccknopchddicaaGreatDoor
/- contract: core.Explore. -/
namespace Go.Proofs.YtccknopchddicaaGreatDoor
open Go.RowKit Stile
set_option maxRecDepth 100000 in
set_option maxHeartbeats 2000000 in
theorem explore_any (st : Nat → Int → Nat) (s L sf : Nat) (caps : Array Value) (Pk : Nat → Prop) (w : World) (hL : L ≤ 6) (hs : Pk s) (hP : ∀ k a, Pk k → Ltr L a → Pk (st k a)) (hPlt : ∀ k, Pk k → k < 18446744073709551616)
    (hsf : ∀ args W, (callFunc sf args).run Tryz.prog W = .ok (.enter sf args) W)
    (hstep : ∀ (k a : Nat) (W : World), Pk k → a < L → Below w.heap.size w W → Calls Tryz.prog sf (#[.int .u64 (k : Int), .int .i64 (a : Int)] ++ caps) W fun e w' => e = .returned (.int .u64 ((st k a : Nat) : Int)) ∧ Below W.heap.size W w') :
    Calls Tryz.prog 77 #[.int .u64 (s : Int), .int .i64 (L : Int), .int .i64 40, .func (.func sf) #[] caps] w fun e w' => Below w.heap.size w w' ∧ ∃ kv nv, e = .returned (.tuple #[kv, nv, .bool (explored st s L 40).isSome]) ∧
      ∀ ks next, explored st s L 40 = some (ks, next) → ∃ base Bb mb rs, Book w' base Bb mb kv ks ∧ Nxt w' base nv L next rs := by
  have hB0 := fun w => newbook_any w
  go_enter Tryz.func77, Tryz.ntmps77
  go_wp2_with fail
  refine (hB0 _).mono ?_
  rintro e w1 ⟨Bb, mb, rfl, hb1, hw1⟩
  go_wp2_with fail
  refine (of_any s _ Bb mb _ [] _ hb1 (hPlt s hs) (by simp) hw1.size).mono ?_
  rintro e w2 ⟨v2, ks2, rfl, hks2, hb2, ht2⟩
  have hks2 : ks2 = [s] := by simpa using hks2
  subst hks2
  have hw2 := ht2.below hb1 hw1 hw1.size
  have HB2 := Lib.hid hb2
  have HW2 := Lib.hid hw2
  clear hb1 hw1 ht2 hB0 hb2 hw2
  have hR0 : explore st 40 L (41 - 0) 0 [s] [] = explored st s L 40 := rfl
  obtain ⟨R, hR⟩ : ∃ R, explored st s L 40 = R := ⟨_, rfl⟩
  rw [hR] at hR0
  have HRR := Lib.hid hR
  have hmk := fun w => run_make_row' (P := Tryz.prog) 23 3 (.int .i64 0) 8 Tryz.underlying23 info_int rfl .i64 .i64 L (by omega) (by omega) w
  obtain ⟨i0, hi, hz0, hz1, hz2⟩ := info_parts info_ints
  have HR0 := Lib.hid hR0
  have HSTEP := Lib.hid hstep
  have HP := Lib.hid hP
  clear hR0 hR hstep hP
  go_wp2_with fail
  go_loopw [12, 13] (fun nv i wr => ∃ (m : Nat) (ks : List Nat) (v : Value) (next : List (List Int)) (rs : List Nat), i = .int .i64 (m : Int) ∧ m = next.length ∧ m ≤ ks.length ∧ ks.length ≤ 40 ∧ (∀ k ∈ ks, Pk k) ∧
      Below w.heap.size w wr ∧ Book wr w.heap.size Bb mb v ks ∧ Nxt wr w.heap.size nv L next rs ∧ explore st 40 L (41 - m) m ks next = R) (fun _ i _ => 41 - (intOf i).toNat)
  case atStart =>
    exact ⟨0, [s], v2, [], [], rfl, rfl, by simp, by simp, by simpa using hs, HW2.out, HB2.out, ⟨rfl, World.ownsRow_nil _ _ _ _, fun j hj => by simp at hj⟩, HR0.out⟩
  case round =>
    obtain ⟨m, ks, v, next, rs, rfl, hm, hmk', hk40, hPk, hBel, hBook, hNxt, hEx⟩ := hrel
    obtain ⟨wo, rfl⟩ : ∃ wo : World, wo = wr := ⟨_, rfl⟩
    have hc1 := hBook.cell1
    have HBo := Lib.hid hBook
    have HN := Lib.hid hNxt
    have HBe := Lib.hid hBel
    have HE := Lib.hid hEx
    have HPk := Lib.hid hPk
    have HM := Lib.hid hm
    obtain ⟨A, c, rfl⟩ := hBook.slice
    clear hBook hNxt hBel hEx hPk hm
    by_cases hlt : m < ks.length
    · have hx : Pk (ks.getD m 0) := by
        rw [List.getD, List.getElem?_eq_getElem hlt]; exact HPk.out _ (List.getElem_mem hlt)
      have hEx' : (match rowFrom st 40 (ks.getD m 0) L 0 ks [] with
        | none => none
        | some (ks', row) => explore st 40 L (40 - m) (m + 1) ks' (next ++ [row])) = R := by
        rw [← HE.out, show 41 - m = (40 - m) + 1 by omega, explore, if_pos hlt]
        rcases rowFrom st 40 (ks.getD m 0) L 0 ks [] with _ | ⟨a, b⟩ <;> rfl
      obtain ⟨x, hxe⟩ : ∃ x, ks.getD m 0 = x := ⟨_, rfl⟩
      rw [hxe] at hx hEx'
      obtain ⟨RR, hRR⟩ : ∃ RR, rowFrom st 40 x L 0 ks [] = RR := ⟨_, rfl⟩
      rw [hRR] at hEx'
      have hrlt : ∀ j, j < next.length → rs.getD j 0 < wo.heap.size := fun j hj => (HN.out.rows j hj).lt
      have hN1 : Nxt (wo.alloc (Obj.cells (madeCells #[Value.int IntKind.i64 0] L) 3)) w.heap.size u12 L next rs := HN.out.below ((Below.refl _ _).alloc (Nat.le_refl _) _)
      have hBo1 : Book (wo.alloc (Obj.cells (madeCells #[Value.int IntKind.i64 0] L) 3)) w.heap.size Bb mb (.slice A ks.length c) ks := HBo.out.below ((Below.refl _ _).alloc (Nat.le_refl _) _)
      have hBe1 : Below w.heap.size w (wo.alloc (Obj.cells (madeCells #[Value.int IntKind.i64 0] L) 3)) := HBe.out.alloc HBe.out.size _
      have hr1 : (wo.alloc (Obj.cells (madeCells #[Value.int IntKind.i64 0] L) 3)).rowIs wo.heap.size 3 L (ints []) := (World.rowIs_made wo (.int .i64 0) L 3).congr (fun j _ => by simp [ints])
      have hwsz : w.heap.size ≤ wo.heap.size := HBe.out.size
      have HN1 := Lib.hid hN1
      have HBo1 := Lib.hid hBo1
      have HBe1 := Lib.hid hBe1
      have HR1 := Lib.hid hr1
      have HEx := Lib.hid hEx'
      have HRW := Lib.hid hRR
      have HXE := Lib.hid hxe
      have HX := Lib.hid hx
      have HRL := Lib.hid hrlt
      clear hN1 hBo1 hBe1 hr1 hEx' hRR hxe hx hrlt
      go_wp2_with fail
      generalize hrb : wo.heap.size = rb at *
      go_loopw [34] (fun a wr => ∃ (k : Nat) (ks' : List Nat) (v' : Value) (row : List Int), k ≤ L ∧ a = .int .i64 (k : Int) ∧ Below w.heap.size w wr ∧ Book wr w.heap.size Bb mb v' ks' ∧ Nxt wr w.heap.size u12 L next rs ∧
        wr.rowIs rb 3 L (ints row) ∧ row.length = k ∧ (∃ r, ks' = ks ++ r) ∧ (∀ k ∈ ks', Pk k) ∧ ks'.length ≤ 40 ∧ rowFrom st 40 x (L - k) k ks' row = RR) (fun a _ => L - (intOf a).toNat)
      case atStart => exact ⟨0, ks, _, [], by omega, rfl, HBe1.out, HBo1.out, HN1.out, HR1.out, rfl, ⟨[], by simp⟩, HPk.out, hk40, HRW.out⟩
      case round =>
        obtain ⟨k, ks', v', row, hkL, rfl, hBel', hBook', hNxt', hrow, hrl, hpre, hPk', hk40', hRF⟩ := hrel
        by_cases hltk : k < L
        · have hm' : m < ks'.length := by obtain ⟨r, rfl⟩ := hpre; simp; omega
          have hkx : ks'.getD m 0 = x := by
            obtain ⟨r, rfl⟩ := hpre
            rw [← HXE.out, List.getD, List.getElem?_append_left hlt, List.getD]
          obtain ⟨g, cap, rfl, hcg⟩ := hBook'.key hm'
          rw [hkx] at hcg
          have hc1' := hBook'.cell1
          have hcap : ks'.length ≤ cap := by
            rcases hBook'.row.2 with ⟨e, _⟩ | ⟨_, _, _, e, _, _, h, _⟩
            · cases e
            · injection e with _ _ e; omega
          have HBo' := Lib.hid hBook'
          have HN' := Lib.hid hNxt'
          have HBe' := Lib.hid hBel'
          have HRF := Lib.hid hRF
          have HPk' := Lib.hid hPk'
          have HPRE := Lib.hid hpre
          have HROW := Lib.hid hrow
          have HRL' := Lib.hid hrl
          clear hBook' hNxt' hBel' hRF hPk' hpre hrow hrl hkx
          go_wp2_with fail
          refine (HSTEP.out x k wr HX.out hltk HBe'.out).mono ?_
          rintro e w3 ⟨rfl, hw3⟩
          have hy := HP.out x k HX.out ⟨by omega, by omega⟩
          have hrf : rowFrom st 40 x ((L - (k + 1)) + 1) k ks' row = RR := by rw [← HRF.out]; congr 1; omega
          rw [rowFrom] at hrf
          obtain ⟨y, hye⟩ : ∃ y, st x k = y := ⟨_, rfl⟩
          rw [hye] at hy hrf ⊢
          have hb3 := HBo'.out.below hw3
          have hn3 := HN'.out.below hw3
          have hbe3 := HBe'.out.trans (hw3.mono HBe'.out.size)
          have hrow3 := HROW.out.of_block (hw3.block rb HROW.out.lt)
          have hylt := hPlt y hy
          have HRF2 := Lib.hid hrf
          have HY := Lib.hid hy
          have HB3 := Lib.hid hb3
          have HN3 := Lib.hid hn3
          have HBE3 := Lib.hid hbe3
          have HR3 := Lib.hid hrow3
          clear hrf hy hb3 hn3 hbe3 hrow3 hw3 hye hcg hc1'
          go_wp2_with fail
          refine (of_any y _ Bb mb _ ks' _ HB3.out hylt hk40' HBE3.out.size).mono ?_
          rintro e w4 ⟨v4, ks4, rfl, hks4, hb4, ht4⟩
          have hn4 := But3.nxt HB3.out ht4 HN3.out
          have hbe4 := ht4.below HB3.out HBE3.out HBE3.out.size
          have hrow4 := HR3.out.of_block (by obtain ⟨cs, hc⟩ := rowIs_blk HR3.out; exact ht4.row HB3.out hc (by decide) (by decide))
          have hc4 := hrow4.cell hltk
          have hf4 := hrow4.frozen k
          have hrnew : ∀ (n : Int) (j : Nat), j < L → (if j = k then Value.int .i64 n else ints row j) = ints (row ++ [n]) j := fun n j _ => by rw [ints_snoc, HRL'.out]
          have hset : ∀ n : Int, (w4.setCell ⟨rb, k, none⟩ (.int .i64 n)).rowIs rb 3 L (ints (row ++ [n])) := fun n => (hrow4.set k _).congr (hrnew n)
          have hbset : ∀ n : Int, Book (w4.setCell ⟨rb, k, none⟩ (.int .i64 n)) w.heap.size Bb mb v4 ks4 := fun n => by
            obtain ⟨cs, hc⟩ := rowIs_blk hrow4
            exact hb4.store hc (by decide) (by decide) _ _
          have hnset : ∀ n : Int, Nxt (w4.setCell ⟨rb, k, none⟩ (.int .i64 n)) w.heap.size u12 L next rs := fun n => by
            obtain ⟨cs, hc⟩ := rowIs_blk hrow4
            exact hn4.store hc (by decide) (fun j hj => by have := HRL.out j hj; omega) _ _
          have hbeset : ∀ n : Int, Below w.heap.size w (w4.setCell ⟨rb, k, none⟩ (.int .i64 n)) := fun n => hbe4.setCell hwsz _
          unfold ints at hc4
          generalize row.getD k 0 = r0 at hc4
          have HSET := Lib.hid hset
          have HBS := Lib.hid hbset
          have HNS := Lib.hid hnset
          have HBES := Lib.hid hbeset
          have HBE4 := Lib.hid hbe4
          clear hset hbset hnset hbeset hrow4 hn4 hbe4 ht4 hb4 hrnew
          by_cases hmem : y ∈ ks'
          · have e4 : ks4 = ks' := by rw [hks4, if_pos hmem]
            have hrf := HRF2.out
            rw [if_pos hmem] at hrf
            have HRF3 := Lib.hid hrf
            have HM4 := Lib.hid e4
            have hdec : decide (y ∉ ks') = false := by simpa using hmem
            rw [if_pos hmem, hdec]
            obtain ⟨nn, hnn⟩ : ∃ nn, ((ks'.idxOf y : Nat) : Int) = nn := ⟨_, rfl⟩
            rw [hnn]
            have HNN := Lib.hid hnn
            clear hrf e4 hks4 hdec hnn hmem
            go_wp2_with fail
            go_roundw
            case rel =>
              refine ⟨k + 1, ks4, v4, row ++ [nn], by omega, by go_num, HBES.out _, HBS.out _, HNS.out _, HSET.out _, by simp [HRL'.out], ?_, ?_, ?_, ?_⟩
              · rw [HM4.out]; exact HPRE.out
              · rw [HM4.out]; exact HPk'.out
              · rw [HM4.out]; exact hk40'
              · rw [HM4.out, ← HNN.out]
                have := HRF3.out
                simpa using this
            case measure => simp [intOf]; omega
          · have e4 : ks4 = ks' ++ [y] := by rw [hks4, if_neg hmem]
            have hrf := HRF2.out
            rw [if_neg hmem] at hrf
            have hdec : decide (y ∉ ks') = true := by simpa using hmem
            rw [if_neg hmem, hdec]
            by_cases hfull : 40 ≤ ks'.length
            · rw [if_pos hfull] at hrf
              have HRF3 := Lib.hid hrf
              clear hrf e4 hks4 hdec hmem
              go_wp2_with fail
              go_ret3
              have hRR := HRF3.out
              have hRn := HEx.out
              rw [← hRR] at hRn
              refine ⟨HBE4.out, .slice none 0 0, .slice none 0 0, ?_, ?_⟩
              · rw [HRR.out, ← hRn]; rfl
              · intro ks2 next2 he
                rw [HRR.out, ← hRn] at he
                cases he
            · rw [if_neg hfull] at hrf
              have HRF3 := Lib.hid hrf
              have HM4 := Lib.hid e4
              clear hrf e4 hks4 hdec hmem
              go_wp2_with fail
              go_roundw
              case rel =>
                refine ⟨k + 1, ks4, v4, row ++ [(ks'.length : Int)], by omega, by go_num, HBES.out _, HBS.out _, HNS.out _, HSET.out _, by simp [HRL'.out], ?_, ?_, ?_, ?_⟩
                · rw [HM4.out]; obtain ⟨r, hr⟩ := HPRE.out; exact ⟨r ++ [y], by rw [hr]; simp⟩
                · rw [HM4.out]
                  intro j hj
                  rcases List.mem_append.1 hj with hj | hj
                  · exact HPk'.out j hj
                  · simp at hj; rw [hj]; exact HY.out
                · rw [HM4.out]; simp; omega
                · rw [HM4.out]
                  have := HRF3.out
                  simpa using this
              case measure => simp [intOf]; omega
        · have hkl : L - k = 0 := by omega
          rw [hkl, rowFrom] at hRF
          have hEx3 := HEx.out
          rw [← hRF] at hEx3
          have HE3 := Lib.hid hEx3
          have HBo' := Lib.hid hBook'
          have HN' := Lib.hid hNxt'
          have HBe' := Lib.hid hBel'
          have HPk' := Lib.hid hPk'
          have HPRE := Lib.hid hpre
          have HROW := Lib.hid hrow
          have HRL' := Lib.hid hrl
          have hnl : next.length ≤ 40 := by have := HM.out; omega
          have hown' := hNxt'.own
          have hbsz := hBel'.size
          clear hBook' hNxt' hBel' hRF hEx3 hPk' hpre hrow hrl hkl
          go_wp2_with (at_builtin; refine wpList_append_own_at _ rfl _ _ 56 rfl w.heap.size 23 i0 _ 1 24 Tryz.underlying56 hi hz0 hz1 hz2 rfl (by decide) _ next.length _ rfl (hown'.alloc _) ⟨wr.heap.size, 0, none⟩ 1 1 [.slice (some ⟨rb, 0, none⟩) L L] rfl rfl (cell_one_new _ _ _) (by simp [Value.oneCell']) (by unfold maxLen; omega) (by omega) (by simp; omega) ?_; intro nv' w5 hown5 hgrow5 _ hat5)
          have hrow' : ∀ g, u12.ownBlock = some g → ∃ cur, (wr.alloc (Obj.cells #[Value.slice (some ⟨rb, 0, none⟩) L L] 23)).heap[g]? = some (.cells cur 23 (0, 0)) := fun g hg => own_blk (hown'.alloc _) hg
          have hb5 := (HBo'.out.below ((Below.refl _ _).alloc (Nat.le_refl _) _)).grown hgrow5 hrow' (by decide) (by decide)
          have hn5 := Nxt.snoc (HN'.out.below ((Below.refl _ _).alloc (Nat.le_refl _) _)) (HROW.out.alloc _) hgrow5 hown5
          have hbe5 := (HBe'.out.alloc hbsz (Obj.cells #[Value.slice (some ⟨rb, 0, none⟩) L L] 23)).grown hgrow5 (by simp; omega) (fun g hg => (hown'.lt g hg).1)
          have HB5 := Lib.hid hb5
          have HN5 := Lib.hid hn5
          have HBE5 := Lib.hid hbe5
          clear hb5 hn5 hbe5 hrow' hown5 hgrow5 hat5 hown'
          go_wp2_with fail
          go_roundw
          case rel =>
            refine ⟨m + 1, ks', v', next ++ [row], rs ++ [rb], by go_num, by have := HM.out; simp; omega, ?_, hk40', HPk'.out, HBE5.out, HB5.out, HN5.out, ?_⟩
            · obtain ⟨r, hr⟩ := HPRE.out; rw [hr]; simp; omega
            · rw [← HE3.out, show 41 - (m + 1) = 40 - m by omega]
          case measure => simp [intOf]; omega
    · have hRe : R = some (ks, next) := by
        rw [← HE.out, show 41 - m = (40 - m) + 1 by omega, explore, if_neg hlt]
      go_wp2_with fail
      go_ret3
      refine ⟨HBe.out, .slice A ks.length c, u12, ?_, ?_⟩
      · rw [HRR.out, hRe]; rfl
      · intro ks2 next2 he
        rw [HRR.out, hRe] at he
        injection he with he
        injection he with h1 h2
        subst h1; subst h2
        exact ⟨_, _, _, _, HBo.out, HN.out⟩
end Go.Proofs.YtccknopchddicaaGreatDoor
