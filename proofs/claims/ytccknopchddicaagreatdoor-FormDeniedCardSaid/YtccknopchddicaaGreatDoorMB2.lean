/- 'for i := range core.Bits(set)': the statement, by what its body keeps. -/
import Derived.Test.YtccknopchddicaaGreatDoorMB1
set_option linter.unusedSimpArgs false
set_option linter.unusedVariables false
set_option linter.unnecessarySimpa false
namespace Go.Proofs.YtccknopchddicaaGreatDoor
open Go.RowKit Go.Shelf Stile
attribute [local go_sem] Oper.semAt_some

/-- all blocks below N but one lie as they lay -/
def Ke (N Bn : Nat) (A B : World) : Prop := B.os = A.os ∧ B.tape = A.tape ∧ B.output = A.output ∧ A.heap.size ≤ B.heap.size ∧ ∀ k, k < N → k ≠ Bn → B.heap[k]? = A.heap[k]?
/-- the blocks from N on lie as they lay, and so does one below -/
def KeUp (N Bn : Nat) (A B : World) : Prop := A.heap.size ≤ B.heap.size ∧ B.heap[Bn]? = A.heap[Bn]? ∧ ∀ k, N ≤ k → k < A.heap.size → B.heap[k]? = A.heap[k]?

theorem ke_alloc (N Bn : Nat) (A : World) (o : Obj) (h : N ≤ A.heap.size) : Ke N Bn A (A.alloc o) :=
  ⟨rfl, rfl, rfl, by simp, fun k hk _ => Below.heap_alloc A o k (by omega)⟩
theorem ke_put (N Bn : Nat) (A : World) (r : Nat) (o : Obj) (h : N ≤ r) : Ke N Bn A (A.putObj r o) :=
  ⟨rfl, rfl, rfl, by simp, fun k hk _ => World.putObj_heap_other (by omega)⟩
theorem ke_set (N Bn : Nat) (A : World) (v : Value) : Ke N Bn A (A.setCell ⟨Bn, 0, none⟩ v).drew :=
  ⟨rfl, rfl, rfl, by simp [World.setCell, World.drew], fun k _ hk => Below.heap_setCell A _ v k hk⟩

theorem cell_of_blk {A B : World} {k o : Nat} (h : B.heap[k]? = A.heap[k]?) : B.cell? ⟨k, o, none⟩ = A.cell? ⟨k, o, none⟩ ∧ B.frozen? ⟨k, o, none⟩ = A.frozen? ⟨k, o, none⟩ :=
  ⟨World.cell?_of_block (w := A) h, World.frozen?_of_block (w := A) h⟩

theorem range_bits {n : Nat} {g : Operand} {ps : Array Tmp} {assign body : Code} {Q : Exit → Act → World → Prop} {a : Act} {w : World} (Bn S : Nat) (hS : S < 18446744073709551616)
    (hg : a.eval g = .func (.func 120) #[] #[.pointer (some ⟨Bn, 0, none⟩)]) (hps : ps.size = 1) (hBn : Bn < w.heap.size)
    (hc : w.cell? ⟨Bn, 0, none⟩ = some (.int .u64 (S : Int))) (hf : w.frozen? ⟨Bn, 0, none⟩ = false)
    (I : Nat → World → Prop) (hI : ∀ i A B, I i A → w.heap.size ≤ A.heap.size → Ke w.heap.size Bn A B → I i B) (h0 : I 0 w)
    (hskip : ∀ i W, I i W → S.testBit i = false → I (i + 1) W)
    (a₁ : Nat → Act)
    (hassign : ∀ (l i : Nat) (W : World) (K : Act → World → Prop), K (a₁ i) W →
      assign.wpIn (Fence.wide.inRound l) (n - 1 - 1) Tryz.prog (Exit.then K (fun _ _ _ => False)) { tmps := (ps.zip #[Value.int .i64 (i : Int)]).foldl (fun t (p, v) => t.setIfInBounds p v) a.tmps, defers := [] } W)
    (hbody : ∀ (l i : Nat) (W : World), i < 64 → I i W → S.testBit i = true → w.heap.size ≤ W.heap.size →
      body.wpIn (Fence.wide.inRound l) (n - 1 - 1) Tryz.prog (fun e _ W' => e = .normal ∧ KeUp w.heap.size Bn W W' ∧ I (i + 1) W') (a₁ i) W)
    (hdone : ∀ (W : World), I 64 W → W.heap[w.heap.size]? = some (.deferred (some [])) → w.heap.size < W.heap.size → Q .normal { a with defers := { target := .collected w.heap.size, args := #[] } :: a.defers } W) :
    (Code.rangeFunc g ps assign body).wpIn Fence.wide n Tryz.prog Q a w := by
  refine wpIn_rangeFunc ?_
  intro fn hfn
  obtain ⟨rec, hrec⟩ : ∃ rec : LoopState → Loop, rec = fun st => { state := st, pending := none, fn, tmps := a.tmps, params := ps, assign, body, defers := w.heap.size } := ⟨_, rfl⟩
  obtain ⟨W1, hW1⟩ : ∃ W1, (w.alloc (.deferred (some []))).alloc (.loop (rec .ready)) = W1 := ⟨_, rfl⟩
  have hsz1 : W1.heap.size = w.heap.size + 2 := by rw [← hW1]; simp
  have hL1 : W1.heap[w.heap.size + 1]? = some (.loop (rec .ready)) := by
    rw [← hW1]; have := World.alloc_heap_new (w.alloc (.deferred (some []))) (.loop (rec .ready)); rwa [World.size_alloc] at this
  have hK1 : W1.heap[w.heap.size]? = some (.deferred (some [])) := by
    rw [← hW1]; exact (Below.heap_alloc _ _ _ (by simp)).trans (World.alloc_heap_new w _)
  have hI1 : I 0 W1 := by rw [← hW1]; exact hI _ _ _ (hI _ _ _ h0 (Nat.le_refl _) (ke_alloc _ _ _ _ (Nat.le_refl _))) (by simp) (ke_alloc _ _ _ _ (by simp))
  have hcf : W1.heap[Bn]? = w.heap[Bn]? := by rw [← hW1]; exact (Below.heap_alloc _ _ _ (by simp; omega)).trans (Below.heap_alloc _ _ _ hBn)
  obtain ⟨hc1, hf1⟩ := cell_of_blk (o := 0) hcf
  rw [hc] at hc1
  rw [hf] at hf1
  have hcall := bits1_in (w.heap.size + 1) Bn (n - 1) S hS
    (fun i W => I i W ∧ W.heap[w.heap.size + 1]? = some (.loop (rec .ready)) ∧ W.heap[w.heap.size]? = some (.deferred (some [])))
    (by
      rintro i W hi64 ⟨hi, hl, hk⟩ hbit
      have hlt : w.heap.size + 1 < W.heap.size := (Array.getElem?_eq_some_iff.1 hl).1
      have hy := run_yield (P := Tryz.prog) (args := #[.int .i64 (i : Int)]) hl (by rw [hrec]; simp [hps])
      rw [hrec] at hy
      refine ⟨fn, _, assign, body, hy, roundIn_of_wpIn hfn (hassign _ i W _ ⟨_, run_beginRound hl (by rw [hrec]), ?_⟩)⟩
      obtain ⟨W2, hW2⟩ : ∃ W2, W.putObj (w.heap.size + 1) (.loop { rec .ready with state := .busy }) = W2 := ⟨_, rfl⟩
      have hsz2 : W2.heap.size = W.heap.size := by rw [← hW2]; simp
      have hl2 : W2.heap[w.heap.size + 1]? = some (.loop { rec .ready with state := .busy }) := by rw [← hW2]; exact World.putObj_heap_same hlt
      have hk2 : W2.heap[w.heap.size]? = some (.deferred (some [])) := by rw [← hW2]; exact (World.putObj_heap_other (by omega)).trans hk
      have hi2 : I i W2 := by rw [← hW2]; exact hI _ _ _ hi (by omega) (ke_put _ _ _ _ _ (by omega))
      have hb2 : W2.heap[Bn]? = W.heap[Bn]? := by rw [← hW2]; exact World.putObj_heap_other (by omega)
      have hbd := hbody (w.heap.size + 1) i W2 hi64 hi2 hbit (by omega)
      rw [hW2]
      refine wpIn_mono hbd ?_
      rintro e a3 W3 ⟨rfl, ⟨hs3, hB3, hu3⟩, hi3⟩
      have hl3 := (hu3 _ (by omega) (by omega)).trans hl2
      have hk3 := (hu3 _ (by omega) (by omega)).trans hk2
      have hr := run_endRound (P := Tryz.prog) none hl3
      refine ⟨_, _, hr, rfl, ⟨hI _ _ _ hi3 (by omega) (ke_put _ _ _ _ _ (by omega)), ?_, ?_⟩, ?_⟩
      · rw [World.putObj_heap_same (by omega)]
        rw [hrec]
        rfl
      · exact (World.putObj_heap_other (by omega)).trans hk3
      · have : (W3.putObj (w.heap.size + 1) (.loop { { rec .ready with state := .busy } with state := if (none : Option Code).isNone then .ready else .done, pending := none })).heap[Bn]? = W.heap[Bn]? :=
          (World.putObj_heap_other (by omega)).trans (hB3.trans hb2)
        exact cell_of_blk (o := 0) this)
    (by rintro i W ⟨hi, hl, hk⟩ hbit; exact ⟨hskip i W hi hbit, hl, hk⟩)
    (by
      rintro i W v ⟨hi, hl, hk⟩
      have hlt : w.heap.size + 1 < W.heap.size := (Array.getElem?_eq_some_iff.1 hl).1
      exact ⟨hI _ _ _ hi (by omega) (ke_set _ _ _ _), (Below.heap_setCell W _ v _ (by simp; omega)).trans hl, (Below.heap_setCell W _ v _ (by simp; omega)).trans hk⟩)
    W1 hc1 hf1 ⟨hI1, hL1, hK1⟩
  refine ⟨w.heap.size + 1, [{ target := .collected w.heap.size, args := #[] }], W1, { target := .fn (.func 120) #[.pointer (some ⟨Bn, 0, none⟩)], args := #[.func (.yield (w.heap.size + 1)) #[] #[]] }, W1, 120,
    #[.func (.yield (w.heap.size + 1)) #[] #[]] ++ #[.pointer (some ⟨Bn, 0, none⟩)], W1, ?_, ?_, ?_, ?_, ?_, ?_⟩
  · rw [← hW1, hrec]; exact run_enterLoop_outer _ _ _ _ _
  · simp only [resolve, hg]
    simp [go_sem]
  · intro f' _; trivial
  · simp [invoke, go_sem]
  · simp [Fence.wide]
  · refine hcall.mono ?_
    rintro e W2 ⟨⟨v, rfl⟩, hi, hl, hk⟩
    have hlt : w.heap.size + 1 < W2.heap.size := (Array.getElem?_eq_some_iff.1 hl).1
    have hend := run_endLoop (P := Tryz.prog) hl (by rw [hrec]; simp)
    rw [show (rec .ready).pending = none by rw [hrec]] at hend
    exact ⟨none, _, hend, hdone _ (hI _ _ _ hi (by omega) (ke_put _ _ _ _ _ (by omega))) ((World.putObj_heap_other (by omega)).trans hk) (by simp; omega)⟩
end Go.Proofs.YtccknopchddicaaGreatDoor
