/- contracts: plain.Told, stilewardsame.Error. -/
import Derived.Test.YtccknopchddicaaDoorE0
namespace Go.Proofs.YtccknopchddicaaDoor
open Go.RowKit Stile
/-- what the package-level variable of the package errors holds -/
def ErrVar (w : World) : Prop := w.cell? ⟨0, 0, none⟩ = some (.iface 102 (.agg #[.pointer (some ⟨1, 26, none⟩)]))
theorem ErrVar.below {w w' : World} (h : ErrVar w) (hb : Below w.heap.size w w') : ErrVar w' := (hb.cell (lt_of_cell h)).trans h
theorem told_nil (w : World) : Calls Tryd.prog 16 #[.nilIface] w fun e w' => e = .returned (.int .i64 0) ∧ w = w' := by
  go_enter Tryd.func16, Tryd.ntmps16
  go_wp2
  go_ret
  exact ⟨rfl, rfl⟩
theorem told_err (x : Int) (w : World) (hg : ErrVar w) : Calls Tryd.prog 16 #[.iface 52 (.int .i64 x)] w fun e w' => e = .returned (.int .i64 x) ∧ Below w.heap.size w w' := by
  have hlt : 0 < w.heap.size := lt_of_cell hg
  have hgA : (w.alloc (.cells #[.int .i64 0] 52)).cell? ⟨0, 0, none⟩ = some (.iface 102 (.agg #[.pointer (some ⟨1, 26, none⟩)])) := by
    rw [World.cell?_alloc_lt _ _ ⟨0, 0, none⟩ hlt]; exact hg
  have H := as_hit x ⟨w.heap.size, 0, none⟩ (.int .i64 0) _ hgA (by simp) (by simp)
  have HH := Lib.hid H
  clear H hgA hg
  go_enter Tryd.func16, Tryd.ntmps16
  go_wp2_with fail
  refine HH.out.mono ?_
  rintro e w1 ⟨rfl, hw⟩
  have hc : w1.cell? ⟨w.heap.size, 0, none⟩ = some (.int .i64 x) := by
    rw [hw]
    have h0 := heap_new w (Obj.cells #[.int .i64 0] 52)
    have hl0 := lt_blk h0
    have h1 : ∀ (W : World) o, W.heap[w.heap.size]? = some (Obj.cells #[.int .i64 0] 52) → (W.alloc o).heap[w.heap.size]? = some (Obj.cells #[.int .i64 0] 52) := fun W o h => (Below.heap_alloc W o _ (lt_blk h)).trans h
    have h2 := fld_set (h1 _ (Obj.cells #[.int .i64 x] 52) (h1 _ (.cells #[.pointer (some ⟨1, 73, none⟩), .pointer (some ⟨(w.alloc (.cells #[.int .i64 0] 52)).heap.size, 0, none⟩), .int .u64 150] 91) (h1 _ (.cells #[.pointer (some ⟨1, 73, none⟩), .pointer (some ⟨(w.alloc (.cells #[.int .i64 0] 52)).heap.size, 0, none⟩), .int .u64 150] 91) (h1 _ (.cells #[.pointer (some ⟨w.heap.size, 0, none⟩)] 73) h0)))) 0 (.int .i64 x)
    have h3 := fld_cell h2 0
    simpa using h3
  have hb : Below w.heap.size w w1 := by
    rw [hw]
    exact (((((Below.refl w.heap.size w).alloc (by simp) _).alloc (by simp) _).alloc (by simp; omega) _).alloc (by simp; omega) _).alloc (by simp; omega) _ |>.setCell (by simp) _
  have HB := Lib.hid hb
  clear hw hb
  go_wp2_with fail
  go_ret
  exact ⟨rfl, HB.out⟩
theorem error_nil (k : Int) (hk : (0 == k) = false) (w : World) : Calls Tryd.prog 10 #[.nilIface, .int .i64 k] w fun e w' => e = .returned (.bool false) ∧ w = w' := by
  go_enter Tryd.func10, Tryd.ntmps10
  go_wp2_with fail
  refine (told_nil _).mono ?_
  rintro e w1 ⟨rfl, rfl⟩
  go_wp2_with fail
  go_ret
  exact ⟨rfl, rfl⟩
theorem error_hit (k : Int) (w : World) (hg : ErrVar w) : Calls Tryd.prog 10 #[.iface 52 (.int .i64 k), .int .i64 k] w fun e w' => e = .returned (.bool true) ∧ Below w.heap.size w w' := by
  have H := told_err k w hg
  have HH := Lib.hid H
  clear H hg
  go_enter Tryd.func10, Tryd.ntmps10
  go_wp2_with fail
  refine HH.out.mono ?_
  rintro e w1 ⟨rfl, hb⟩
  have HB := Lib.hid hb
  clear hb
  go_wp2_with fail
  go_ret
  exact ⟨by simp, HB.out⟩
end Go.Proofs.YtccknopchddicaaDoor
