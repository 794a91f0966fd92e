/- contracts: core.NewBook, (*core.Book).Of. -/
import Derived.Test.YtccknopchddicaaDoorW1
import Derived.Maps.OwnSet
import Derived.Maps.AppendAt
namespace Go.Proofs.YtccknopchddicaaDoor
open Go.RowKit Stile

theorem info_u64 : (Tryd.prog.info? 61).map (fun i => (i.zero, i.size, i.bytes)) = some (some (.int .u64 0), 1, 8) := by kernel_rfl
theorem law_u64 : Maps.Keyed Tryd.prog 61 := Maps.int_keyed Tryd.underlying61
theorem zero_int (w : World) : (zeroValue 3).run Tryd.prog w = .ok (.int .i64 0) w := by kernel_rfl

/-- the map D numbers the keys ks as they come -/
structure MapOf (D : DataW Unit) (ks : List Nat) : Prop where
  isMap : Maps.IsMap D
  has : ∀ k : Nat, Maps.has D (.int .u64 (k : Int)) = decide (k ∈ ks)
  at_ : ∀ k : Nat, k ∈ ks → ∀ z, D.atKey (.int .u64 (k : Int)) z = .lit (.int .i64 (ks.idxOf k : Int))

theorem keyLit (k : Nat) (hk : k < 18446744073709551616) : WideAt.IsKeyLit (.int .u64 (k : Int)) := by simp [WideAt.IsKeyLit]
theorem MapOf.nil : MapOf (.map []) [] := ⟨⟨[], rfl⟩, fun k => by simp [Maps.has], fun k hk => by simp at hk⟩
theorem MapOf.put {D : DataW Unit} {ks : List Nat} (h : MapOf D ks) (k : Nat) (hk : k ∉ ks) (hlt : k < 18446744073709551616) : MapOf (D.put (.int .u64 (k : Int)) (.lit (.int .i64 (ks.length : Int)))) (ks ++ [k]) := by
  refine ⟨h.isMap.put _ _, fun j => ?_, fun j hj z => ?_⟩
  · by_cases e : j = k
    · subst e; rw [Maps.has_put_same h.isMap (keyLit j hlt)]; simp
    · rw [Maps.has_put_other (by intro h; injection h with _ h; omega), h.has]; simp [e]
  · by_cases e : j = k
    · subst e
      rw [Maps.atKey_put_same h.isMap (keyLit j hlt)]
      rw [List.idxOf_append]; simp [hk]
    · rw [Maps.atKey_put_other (by intro h; injection h with _ h; omega)]
      have hj' : j ∈ ks := by simpa [e] using hj
      rw [h.at_ j hj', List.idxOf_append]; simp [hj']

/-- a book in memory: its cells in block Bb, its map in block mb, its keys in the slice v -/
structure Book (w : World) (base Bb mb : Nat) (v : Value) (ks : List Nat) : Prop where
  cells : w.heap[Bb]? = some (.cells #[.map (some mb), v] 83 (0, 0))
  map : ∃ D : DataW Unit, w.ownsMap Tryd.prog 61 (plainElem Tryd.prog 3) mb ks.length D ∧ MapOf D ks
  row : w.ownsRow base 61 1 v ks.length (ks.map fun (k : Nat) => Value.int .u64 (k : Int))
  lo : base ≤ Bb ∧ base ≤ mb
  ne : Bb ≠ mb
  ne' : v.ownBlock ≠ some Bb ∧ v.ownBlock ≠ some mb
  small : ∀ k ∈ ks, k < 18446744073709551616

/-- all blocks but three lie as they lay -/
structure But3 (w w' : World) (a b : Nat) (c : Option Nat) : Prop where
  os : w'.os = w.os
  tape : w'.tape = w.tape
  output : w'.output = w.output
  size : w.heap.size ≤ w'.heap.size
  block : ∀ k, k < w.heap.size → k ≠ a → k ≠ b → some k ≠ c → w'.heap[k]? = w.heap[k]?

theorem But3.refl (w : World) (a b : Nat) (c : Option Nat) : But3 w w a b c := ⟨rfl, rfl, rfl, Nat.le_refl _, fun _ _ _ _ _ => rfl⟩

theorem own_slice {w : World} {base e size n : Nat} {v : Value} {xs : List Value} (h : w.ownsRow base e size v (n + 1) xs) : ∃ g cap, v = .slice (some ⟨g, 0, none⟩) (n + 1) cap := by
  rcases h.2 with ⟨_, h0⟩ | ⟨g, cap, cur, e, _⟩
  · cases h0
  · exact ⟨g, cap, e⟩
theorem lt_blk {w : World} {b : Nat} {o : Obj} (h : w.heap[b]? = some o) : b < w.heap.size := (Array.getElem?_eq_some_iff.1 h).1
theorem Book.cell0 {w : World} {base Bb mb : Nat} {v : Value} {ks : List Nat} (h : Book w base Bb mb v ks) : w.cell? ⟨Bb, 0, none⟩ = some (.map (some mb)) := by
  simp [World.cell?, h.cells]
theorem Book.cell1 {w : World} {base Bb mb : Nat} {v : Value} {ks : List Nat} (h : Book w base Bb mb v ks) : w.cell? ⟨Bb, 1, none⟩ = some v := by
  simp [World.cell?, h.cells]
theorem Book.slice {w : World} {base Bb mb : Nat} {v : Value} {ks : List Nat} (h : Book w base Bb mb v ks) : ∃ A c, v = .slice A ks.length c := by
  rcases h.row.2 with ⟨e, e2⟩ | ⟨g, cap, cur, e, _⟩
  · exact ⟨none, 0, by rw [e, e2]⟩
  · exact ⟨_, cap, e⟩

set_option maxHeartbeats 400000 in
theorem newbook_any (w : World) : Calls Tryd.prog 35 #[] w fun e w' => ∃ Bb mb, e = .returned (.pointer (some ⟨Bb, 0, none⟩)) ∧ Book w' w.heap.size Bb mb (.slice none 0 0) [] ∧ Below w.heap.size w w' := by
  have hmm := @run_makeMap Tryd.prog
  go_enter Tryd.func35, Tryd.ntmps35
  go_wp2
  go_ret
  refine ⟨w.heap.size + 1, w.heap.size, rfl, ⟨?_, ⟨.map [], ?_, MapOf.nil⟩, ?_, by omega, by omega, by simp [Value.ownBlock], by simp⟩, ?_⟩
  · show ((w.heap.push _).push _)[w.heap.size + 1]? = _
    rw [Array.getElem?_push, if_pos (by simp)]
  · exact (World.ownsMap_made w Tryd.prog 61 _).alloc _
  · exact World.ownsRow_nil _ _ _ _
  · exact ((Below.refl _ _).alloc (Nat.le_refl _) _).alloc (by simp) _

set_option maxHeartbeats 400000 in
theorem of_hit (k base Bb mb : Nat) (v : Value) (ks : List Nat) (w : World) (h : Book w base Bb mb v ks) (hk : k ∈ ks) :
    Calls Tryd.prog 36 #[.pointer (some ⟨Bb, 0, none⟩), .int .u64 (k : Int)] w fun e w' => e = .returned (.tuple #[.int .i64 (ks.idxOf k : Int), .bool false]) ∧ w = w' := by
  obtain ⟨D, hown, hD⟩ := h.map
  have hlt := h.small k hk
  have hkey := Maps.keyOf_int_mk (P := Tryd.prog) Tryd.underlying61 (a := (k : Int)) (q := .u64) (WalkArith.wf_u64 (by omega))
  have hh : Maps.has D (.int .u64 (k : Int)) = true := by rw [hD.has]; simpa using hk
  have hA := hD.at_ k hk (.lit (.int .i64 0))
  have c0 := h.cell0
  have c1 := h.cell1
  have HA := Lib.hid hA
  clear hA hD h
  go_enter Tryd.func36, Tryd.ntmps36
  go_wp2_with (at_lookup; refine wpList_lookup_own_ok_int _ rfl _ _ 81 rfl 61 3 .i64 law_u64 Tryd.underlying81 Tryd.underlying3 (zero_int _) mb ks.length D rfl hown _ _ rfl hkey ?_; intro cL hat hwc; rw [hh])
  go_ret2
  have := HA.out
  rw [hat] at this
  injection this with this
  injection this with _ this
  subst this
  exact ⟨rfl, rfl⟩

set_option maxRecDepth 100000 in
set_option maxHeartbeats 800000 in
theorem of_miss (k base Bb mb : Nat) (v : Value) (ks : List Nat) (w : World) (h : Book w base Bb mb v ks) (hk : k ∉ ks) (hlt : k < 18446744073709551616) (hlen : ks.length ≤ 40) (hbase : base ≤ w.heap.size) :
    Calls Tryd.prog 36 #[.pointer (some ⟨Bb, 0, none⟩), .int .u64 (k : Int)] w fun e w' => ∃ v', e = .returned (.tuple #[.int .i64 (ks.length : Int), .bool true]) ∧ Book w' base Bb mb v' (ks ++ [k]) ∧ But3 w w' Bb mb v.ownBlock := by
  obtain ⟨D, hown, hD⟩ := h.map
  have hkey := Maps.keyOf_int_mk (P := Tryd.prog) Tryd.underlying61 (a := (k : Int)) (q := .u64) (WalkArith.wf_u64 (by omega))
  have hval := plainElem_int (H := Unit) Tryd.underlying3 (a := (ks.length : Int)) (WalkArith.wf_i64 (by omega))
  have hh : Maps.has D (.int .u64 (k : Int)) = false := by rw [hD.has]; simpa using hk
  have hD' := hD.put k hk hlt
  have c0 := h.cell0
  have c1 := h.cell1
  have hBlt := lt_blk h.cells
  have hmlt := hown.lt
  obtain ⟨A, c, rfl⟩ := h.slice
  obtain ⟨i0, hi, hz0, hz1, hz2⟩ := info_parts info_u64
  have S1 : ∀ w1, w.grownBy w1 (some mb) → w1.cell? ⟨Bb, 0, none⟩ = some (.map (some mb)) ∧ w1.cell? ⟨Bb, 1, none⟩ = some (.slice A ks.length c) ∧ w1.frozen? ⟨Bb, 1, none⟩ = false ∧ w1.ownsRow base 61 1 (.slice A ks.length c) ks.length (ks.map fun (k : Nat) => Value.int .u64 (k : Int)) ∧ Bb < w1.heap.size ∧ base ≤ w1.heap.size ∧ w1.heap[Bb]? = w.heap[Bb]? := fun w1 hg => by
    have e : w1.heap[Bb]? = w.heap[Bb]? := hg.block Bb hBlt (by intro e; injection e with e; exact h.ne e)
    refine ⟨(World.cell?_of_block (w := w) e).trans c0, (World.cell?_of_block (w := w) e).trans c1, ?_, h.row.kept hg (.inr h.ne'.2), Nat.lt_of_lt_of_le hBlt hg.size, Nat.le_trans hbase hg.size, e⟩
    rw [World.frozen?_of_block (w := w) (a := ⟨Bb, 1, none⟩) e]
    simp [World.frozen?, h.cells]
  have S2 : ∀ w1 w2 o, w.grownBy w1 (some mb) → (w1.alloc o).grownBy w2 (Value.slice A ks.length c).ownBlock → w2.cell? ⟨Bb, 1, none⟩ = some (.slice A ks.length c) ∧ w2.frozen? ⟨Bb, 1, none⟩ = false := fun w1 w2 o hg hg2 => by
    obtain ⟨_, d1, df, _, dl, _, _⟩ := S1 w1 hg
    have e : w2.heap[Bb]? = w1.heap[Bb]? := (hg2.block Bb (by simp; omega) (fun e => h.ne'.1 e.symm)).trans (Below.heap_alloc w1 o Bb dl)
    exact ⟨(World.cell?_of_block (w := w1) e).trans d1, (World.frozen?_of_block (w := w1) (a := ⟨Bb, 1, none⟩) e).trans df⟩
  have HH := Lib.hid h
  have HD := Lib.hid hD'
  have HS1 := Lib.hid S1
  have HS2 := Lib.hid S2
  clear hD hD' h S1 S2
  go_enter Tryd.func36, Tryd.ntmps36
  go_wp2_with (first
    | (at_lookup; refine wpList_lookup_own_ok_int _ rfl _ _ 81 rfl 61 3 .i64 law_u64 Tryd.underlying81 Tryd.underlying3 (zero_int _) mb ks.length D rfl hown _ _ rfl hkey ?_; intro cL hat hwc; rw [hh])
    | (at_mapUpdate; refine wpList_mapUpdate_own _ rfl _ _ _ 81 rfl 61 3 law_u64 Tryd.underlying81 _ mb ks.length D rfl hown (by unfold maxLen; omega) _ _ _ rfl rfl hkey _ [] hval ?_; intro w1 hown1 hgrow1; obtain ⟨d0, d1, df, dr, dl, dbs, de⟩ := HS1.out w1 hgrow1)
    | (at_builtin; refine wpList_append_own_at _ rfl _ _ 58 rfl base 61 i0 _ 1 8 Tryd.underlying58 hi hz0 hz1 hz2 rfl (by decide) _ ks.length _ rfl (dr.alloc _) ⟨w1.heap.size, 0, none⟩ 1 1 [.int .u64 (k : Int)] rfl rfl (cell_one_new _ _ _) (by simp [Value.oneCell']) (by unfold maxLen; omega) (by omega) (by simp; omega) ?_; intro v' w2 hown2 hgrow2 _ hat2; obtain ⟨g', cap', rfl⟩ := own_slice hown2; obtain ⟨f1, ff⟩ := HS2.out w1 w2 _ hgrow1 hgrow2))
  have h := HH.out
  have e1 : w1.heap[Bb]? = w.heap[Bb]? := de
  have e2 : w2.heap[Bb]? = w.heap[Bb]? := (hgrow2.block Bb (by simp; omega) (fun e => h.ne'.1 e.symm)).trans ((Below.heap_alloc w1 _ Bb dl).trans e1)
  have hgs : w2.grownBy (w2.setCell ⟨Bb, 1, none⟩ (.slice (some ⟨g', 0, none⟩) (ks.length + 1) cap')) (some Bb) := ⟨rfl, rfl, rfl, by simp [World.setCell], fun i _ hi => Below.heap_setCell w2 _ _ i (fun e => hi (by rw [e]))⟩
  have hgB : (some g' : Option Nat) ≠ some Bb := by
    rcases hat2 with e | e
    · rw [show (Value.slice (some ⟨g', 0, none⟩) (ks.length + 1) cap').ownBlock = some g' from rfl] at e; rw [e]; exact h.ne'.1
    · rw [show (Value.slice (some ⟨g', 0, none⟩) (ks.length + 1) cap').ownBlock = some g' from rfl] at e; rw [e]; simp; omega
  have hgM : (some g' : Option Nat) ≠ some mb := by
    rcases hat2 with e | e
    · rw [show (Value.slice (some ⟨g', 0, none⟩) (ks.length + 1) cap').ownBlock = some g' from rfl] at e; rw [e]; exact h.ne'.2
    · rw [show (Value.slice (some ⟨g', 0, none⟩) (ks.length + 1) cap').ownBlock = some g' from rfl] at e; rw [e]; have := hgrow1.size; simp; omega
  have hm1 := ((hown1.alloc (.cells #[.int .u64 (k : Int)] 61)).kept hgrow2 (fun e => h.ne'.2 e.symm)).kept hgs (by simp; exact fun e => h.ne e.symm)
  have hr1 := hown2.kept hgs (.inr hgB)
  go_ret2
  refine ⟨.slice (some ⟨g', 0, none⟩) (ks.length + 1) cap', rfl, ⟨?_, ⟨_, ?_, HD.out⟩, ?_, h.lo, h.ne, ⟨hgB, hgM⟩, ?_⟩, ⟨?_, ?_, ?_, ?_, ?_⟩⟩
  · simp [World.setCell, Array.getElem?_modify, e2, h.cells]
  · simpa using hm1
  · simpa using hr1
  · intro j hj
    rcases List.mem_append.1 hj with hj | hj
    · exact h.small j hj
    · simp at hj; omega
  · exact hgs.os.trans (hgrow2.os.trans hgrow1.os)
  · exact hgs.tape.trans (hgrow2.tape.trans hgrow1.tape)
  · exact hgs.output.trans (hgrow2.output.trans hgrow1.output)
  · have a1 := hgs.size; have a2 := hgrow2.size; have a3 := hgrow1.size; simp at a2; omega
  · intro j hj h1 h2 h3
    have a3 := hgrow1.size
    have b1 : w1.heap[j]? = w.heap[j]? := hgrow1.block j hj (by simpa using h2)
    have b2 := hgrow2.block j (by simp; omega) h3
    exact (Below.heap_setCell w2 _ _ j h1).trans (b2.trans ((Below.heap_alloc w1 _ j (by omega)).trans b1))
end Go.Proofs.YtccknopchddicaaDoor
