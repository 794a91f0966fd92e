/- contracts: back.unpack, back.pack. -/
import Derived.Test.YtccknopchddicaaGreatDoorMB2
import Derived.Test.YtccknopchddicaaGreatDoorMC4
set_option linter.unusedSimpArgs false
set_option linter.unusedVariables false
set_option linter.unnecessarySimpa false
namespace Go.Proofs.YtccknopchddicaaGreatDoor
open Go.RowKit Go.Shelf Stile
attribute [local go_sem] Oper.semAt_some

theorem bits_call (S : Nat) (w : World) : Calls Tryz.prog 104 #[.int .u64 (S : Int)] w fun e w' => e = .returned (.func (.func 120) #[] #[.pointer (some ⟨w.heap.size, 0, none⟩)]) ∧ w' = w.alloc (.cells #[.int .u64 (S : Int)] 121) := by
  go_enter Tryz.func104, Tryz.ntmps104
  go_wp2
  go_ret
  exact ⟨rfl, rfl⟩

def upto (S i j : Nat) : Value := .bool (decide (j < i) && S.testBit j)
theorem below_of_ke {B N Bn : Nat} {w A A' : World} (h : Below B w A) (hk : Ke N Bn A A') (hN : B ≤ N) (hB : B ≤ Bn) : Below B w A' :=
  h.trans ⟨hk.1, hk.2.1, hk.2.2.1, hk.2.2.2.1, fun k h1 => hk.2.2.2.2 k (by omega) (by omega)⟩

set_option maxRecDepth 100000 in
set_option maxHeartbeats 1000000 in
theorem unpack_any (S n : Nat) (w : World) (hS : S < 18446744073709551616) (hn0 : 0 < n) (hn : n ≤ 40) (hbits : ∀ i, S.testBit i = true → i < n) :
    Calls Tryz.prog 80 #[.int .u64 (S : Int), .int .i64 (n : Int)] w fun e w' => ∃ v', e = .returned v' ∧ RdB w' w'.heap.size v' (unpackN S n) ∧ Below w.heap.size w w' := by
  have hmk := fun w => run_make_row' (P := Tryz.prog) 57 4 (.bool false) 1 Tryz.underlying57 info_bool rfl .i64 .i64 n (by omega) (by omega) w
  refine (callsIn_wide (n := 5)).1 ?_
  refine callsIn_of_wp_marks Tryz.func80 rfl trivial ?_ rfl
  simp only [Tryz.ntmps80, List.size_toArray, List.length_cons, List.length_nil, Nat.reduceAdd, Nat.reduceSub, Array.replicate_succ, Array.replicate_zero, List.push_toArray, List.append_toArray, List.nil_append, List.cons_append]
  gi_wp2
  refine ⟨trivial, (callsIn_wide.2 (bits_call S _)).mono ?_⟩
  rintro e w' ⟨rfl, rfl⟩
  obtain ⟨W0, hW0⟩ : ∃ W0, ((w.alloc (Obj.cells (madeCells #[Value.bool false] n) 4)).alloc (Obj.cells #[Value.slice (some { block := w.heap.size, off := 0 }) n n] 57)) = W0 := ⟨_, rfl⟩
  have hsz : W0.heap.size = w.heap.size + 2 := by rw [← hW0]; simp
  have hrow0 : W0.rowIs w.heap.size 4 n (upto S 0) := by
    rw [← hW0]; exact ((World.rowIs_made w (.bool false) n 4).alloc _).congr (fun j _ => by simp [upto])
  have hv0 : W0.cell? ⟨w.heap.size + 1, 0, none⟩ = some (.slice (some ⟨w.heap.size, 0, none⟩) n n) := by
    rw [← hW0]; simp [go_sem]
  have hb0 : Below w.heap.size w W0 := by
    rw [← hW0]; exact ((Below.refl _ _).alloc (Nat.le_refl _) _).alloc (by simp) _
  rw [hW0]
  clear hmk
  gi_wp2
  refine range_bits (w.heap.size + 2) S hS rfl rfl (by simp; omega) (by rw [← hsz]; simp [go_sem]) (by rw [← hsz]; simp [go_sem])
    (fun i W => W.rowIs w.heap.size 4 n (upto S i) ∧ W.cell? ⟨w.heap.size + 1, 0, none⟩ = some (.slice (some ⟨w.heap.size, 0, none⟩) n n) ∧ Below w.heap.size w W) ?hI ?h0 ?hskip
    (fun i => { tmps := #[Value.int IntKind.u64 ↑S, Value.int IntKind.i64 ↑n, undef, undef, Value.slice none 0 0, Value.pointer (some { block := w.heap.size + 1, off := 0 }), .int .i64 (i : Int), Value.int IntKind.i64 ↑n, Value.slice (some { block := w.heap.size, off := 0 }) n n, Value.int IntKind.u64 ↑S, .func (.func 120) #[] #[.pointer (some ⟨w.heap.size + 2, 0, none⟩)], .int .i64 (i : Int), undef, undef, undef, undef], defers := [] }) ?ha ?hb ?hd
  case hI =>
    rintro i A B ⟨h1, h2, h3⟩ hA hk
    have e1 : B.heap[w.heap.size]? = A.heap[w.heap.size]? := hk.2.2.2.2 _ (by simp; omega) (by omega)
    have e2 : B.heap[w.heap.size + 1]? = A.heap[w.heap.size + 1]? := hk.2.2.2.2 _ (by simp; omega) (by omega)
    exact ⟨h1.of_block e1, (cell_of_blk (o := 0) e2).1.trans h2, below_of_ke h3 hk (by simp; omega) (by omega)⟩
  case h0 =>
    exact ⟨hrow0.alloc _, by rw [← hv0]; exact (cell_of_blk (o := 0) (Below.heap_alloc W0 _ (w.heap.size + 1) (by omega))).1, hb0.alloc (by omega) _⟩
  case hskip =>
    rintro i W ⟨h1, h2, h3⟩ hbit
    refine ⟨h1.congr (fun j _ => ?_), h2, h3⟩
    unfold upto
    by_cases e : j = i
    · subst e; simp [hbit]
    · congr 2; simp; omega
  case ha =>
    intro l i W K hK
    gi_wp2
    exact hK
  case hb =>
    rintro l i W hi ⟨h1, h2, h3⟩ hbit hWs
    have hin : i < n := hbits i hbit
    have hck := h1.cell hin
    have hfr := h1.frozen i
    unfold upto at hck
    generalize (decide (i < i) && S.testBit i) = vk at hck
    have H1 := Lib.hid h1
    have HB := Lib.hid h3
    clear h1 h3 hbits hb0 hv0 hrow0
    gi_wp2
    refine ⟨⟨by simp [World.setCell], Below.heap_setCell W _ _ _ (by simp), fun k hk _ => Below.heap_setCell W _ _ _ (by simp; omega)⟩, (H1.out.set i _).congr (fun j _ => ?_), HB.out.setCell (Nat.le_refl _) _⟩
    unfold upto
    by_cases e : j = i
    · subst e; simp [hbit]
    · rw [if_neg e]; congr 2; simp; omega
  case hd =>
    rintro W ⟨h1, h2, h3⟩ hK hlt
    have hk : Ke (w.heap.size + 2) (w.heap.size + 2) W (W.putObj (W0.alloc (Obj.cells #[Value.int IntKind.u64 ↑S] 121)).heap.size (.deferred none)) := ke_put _ _ _ _ _ (by simp; omega)
    have h1' := h1.of_block (hk.2.2.2.2 _ (by omega) (by omega))
    have h3' := below_of_ke h3 hk (by omega) (by omega)
    have hlt' : w.heap.size < (W.putObj (W0.alloc (Obj.cells #[Value.int IntKind.u64 ↑S] 121)).heap.size (.deferred none)).heap.size := by simp at hlt ⊢; omega
    have H1 := Lib.hid h1'
    have H3 := Lib.hid h3'
    clear h1 h3 h1' h3' hk hrow0 hv0 hb0
    gi_wp2
    refine ⟨by simp, .inl ⟨_, _, rfl, run_takeDeferred hK, ?_⟩⟩
    refine ⟨_, results_tmp rfl _ _ _, _, rfl, ?_, H3.out⟩
    have hl : (unpackN S n).length = n := by simp [unpackN]
    unfold RdB
    rw [hl]
    refine Rd.of_rowIs (H1.out.congr (fun j hj => ?_)) hlt'
    have : j < 64 := by omega
    simp [upto, bools, unpackN, hj, this, List.getD]
end Go.Proofs.YtccknopchddicaaGreatDoor
