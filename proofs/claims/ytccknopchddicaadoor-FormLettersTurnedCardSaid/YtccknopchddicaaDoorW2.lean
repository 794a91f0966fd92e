/- a struct's block whose fields hold rows that are appended to. -/
import Derived.Test.YtccknopchddicaaDoorB7
namespace Go.Proofs.YtccknopchddicaaDoor
open Go.RowKit Stile
/-- a step that changes block g and the row of type E alone -/
structure Grew (g E : Nat) (w w' : World) : Prop where
  below : Below g w w'
  other : ∀ b t cs, w.heap[b]? = some (.cells cs t (0, 0)) → t ≠ E → b ≠ g → w'.heap[b]? = w.heap[b]?
theorem fld_keep {w w2 : World} {g T E sz n : Nat} {cs : Array Value} {v : Value} {xs : List Value} {o : Obj} (hg : w.heap[g]? = some (.cells cs T (0, 0))) (hv : w.ownsRow g E sz v n xs) (hgrow : (w.alloc o).grownBy w2 v.ownBlock) (hT : T ≠ E) :
    w2.heap[g]? = some (.cells cs T (0, 0)) := by
  refine (hgrow.block g (by have := lt_blk hg; simp; omega) ?_).trans ((Below.heap_alloc w o g (lt_blk hg)).trans hg)
  intro e
  obtain ⟨cur, hc⟩ := own_blk hv e.symm
  exact blk_type hg hc hT rfl
theorem fld_cell {w : World} {g T : Nat} {cs : Array Value} (hg : w.heap[g]? = some (.cells cs T (0, 0))) (k : Nat) : w.cell? ⟨g, k, none⟩ = cs[k]? := by
  simp [World.cell?, hg]
theorem fld_frozen {w : World} {g T : Nat} {cs : Array Value} (hg : w.heap[g]? = some (.cells cs T (0, 0))) (k : Nat) : w.frozen? ⟨g, k, none⟩ = false := by
  simp [World.frozen?, hg]
theorem fld_set {w2 : World} {g T : Nat} {cs : Array Value} (hg : w2.heap[g]? = some (.cells cs T (0, 0))) (k : Nat) (u : Value) :
    (w2.setCell ⟨g, k, none⟩ u).heap[g]? = some (.cells (cs.set! k u) T (0, 0)) := by
  simp [World.setCell, Array.getElem?_modify, hg]
theorem fld_grew {w w2 : World} {g T E sz n n' k : Nat} {cs : Array Value} {v v' u : Value} {xs xs' : List Value} {o : Obj} (hg : w.heap[g]? = some (.cells cs T (0, 0))) (hv : w.ownsRow g E sz v n xs) (hgrow : (w.alloc o).grownBy w2 v.ownBlock)
    (hv' : w2.ownsRow g E sz v' n' xs') (hT : T ≠ E) : (w2.setCell ⟨g, k, none⟩ u).ownsRow g E sz v' n' xs' ∧ Grew g E w (w2.setCell ⟨g, k, none⟩ u) := by
  have hg2 := fld_keep hg hv hgrow hT
  have hlt := lt_blk hg
  refine ⟨?_, ?_, ?_⟩
  · obtain ⟨a1, a2⟩ := hv'
    refine ⟨a1, ?_⟩
    rcases a2 with a2 | ⟨b, cap, cur, e, hbs, hh, r⟩
    · exact .inl a2
    · exact .inr ⟨b, cap, cur, e, hbs, (Below.heap_setCell w2 _ _ _ (fun e => blk_type hg2 hh hT e.symm)).trans hh, r⟩
  · have h1 : Below g w (w.alloc o) := (Below.refl _ _).alloc (by omega) _
    have h2 := h1.grown hgrow (by simp; omega) (fun b hb => (hv.lt b hb).1)
    exact h2.setCell (Nat.le_refl _) _
  · intro b t cs' hb ht hne
    have hltb := lt_blk hb
    refine (Below.heap_setCell w2 _ _ _ hne).trans ((hgrow.block b (by simp; omega) ?_).trans (Below.heap_alloc w o b hltb))
    intro e
    obtain ⟨cur, hc⟩ := own_blk hv e.symm
    exact blk_type hb hc ht rfl
theorem Grew.own {w w' : World} {g T E E' sz n : Nat} {cs : Array Value} {v : Value} {xs : List Value} (h : Grew g E w w') (hg : w.heap[g]? = some (.cells cs T (0, 0))) (hv : w.ownsRow g E' sz v n xs) (h1 : E' ≠ E) (h2 : E' ≠ T) : w'.ownsRow g E' sz v n xs := by
  obtain ⟨a1, a2⟩ := hv
  refine ⟨a1, ?_⟩
  rcases a2 with a2 | ⟨b, cap, cur, e, hbs, hh, r⟩
  · exact .inl a2
  · exact .inr ⟨b, cap, cur, e, hbs, (h.other b _ _ hh h1 (blk_type hh hg h2)).trans hh, r⟩
theorem heap_new (w : World) (o : Obj) : (w.alloc o).heap[w.heap.size]? = some o := by
  show (w.heap.push o)[w.heap.size]? = some o
  rw [Array.getElem?_push, if_pos rfl]
theorem heap_new2 (w : World) (o o' : Obj) : ((w.alloc o).alloc o').heap[w.heap.size + 1]? = some o' := by
  have h := heap_new (w.alloc o) o'
  rwa [show (w.alloc o).heap.size = w.heap.size + 1 from by simp] at h
theorem heap_old2 (w : World) (o o' : Obj) : ((w.alloc o).alloc o').heap[w.heap.size]? = some o :=
  (Below.heap_alloc (w.alloc o) o' w.heap.size (by simp)).trans (heap_new w o)
end Go.Proofs.YtccknopchddicaaDoor
