/- contract: wOf at a node of two parts. -/
import Derived.Test.YtccknopchddicaaGreatDoorMGe
import Derived.Deep.RegionHeld3
import Derived.Deep.DeepCutAuto
set_option linter.unusedSimpArgs false
set_option linter.unusedVariables false
set_option linter.unnecessarySimpa false
namespace Go.Proofs.YtccknopchddicaaGreatDoor
open Go.RowKit Stile
theorem Op.drew {pl : Nat} {w W : World} (h : Op pl w W) : Op pl w W.drew := ⟨h.below.drew, h.other⟩
theorem OfHead.drew {w W : World} {pl : Nat} {l xk xs xa xb : Int} {v : Value} (h : OfHead w W pl l xk xs xa xb v) : OfHead w W.drew pl l xk xs xa xb v := ⟨h.op.drew, h.left, h.res, h.node, h.tree⟩
/-- the first part is there, or the counter has run out -/
def OneOut (w W : World) (pl : Nat) (l : Int) (k : Nat) (T1 : Stile.W) (xk xa xb : Int) (v1 : Value) : Prop :=
  ∃ l1, OfHead w W pl l1 xk 0 xa xb (.slice none 0 0) ∧ ((T1.size ≤ l - 1 ∧ l1 = l - 1 - T1.size ∧ Tk W T1 (w.heap.size + 3) W.heap.size v1) ∨ (l - 1 < T1.size ∧ l1 < 0 ∧ -(k : Int) ≤ l1))
/-- both parts are there, or the counter has run out -/
def TwoOut (w W : World) (pl : Nat) (l : Int) (k : Nat) (T1 T2 : Stile.W) (xk xa xb : Int) (v1 v2 : Value) : Prop :=
  ∃ l1, OfHead w W pl l1 xk 0 xa xb (.slice none 0 0) ∧ ((T1.size + T2.size ≤ l - 1 ∧ l1 = l - 1 - T1.size - T2.size ∧ ∃ m, w.heap.size + 3 ≤ m ∧ m ≤ W.heap.size ∧ Tk W T1 (w.heap.size + 3) m v1 ∧ Tk W T2 m W.heap.size v2) ∨
    (l - 1 < T1.size + T2.size ∧ l1 < 0 ∧ -((k : Int) + 1) ≤ l1))
theorem OfHead.op' {w W W' : World} {pl : Nat} {l l' xk xs xa xb : Int} {v : Value} (h : OfHead w W pl l xk xs xa xb v) (ho : Op pl W W') (hl : LeftAt W' pl l') (hpl : pl < w.heap.size) : OfHead w W' pl l' xk xs xa xb v :=
  ⟨h.op.trans ho, hl, (ho.other _ (lt_blk h.res) (by omega)).trans h.res, (ho.other _ (lt_blk h.node) (by omega)).trans h.node, (ho.other _ (lt_blk h.tree) (by omega)).trans h.tree⟩
theorem one_out {w W W' : World} {pl k xa' : Nat} {l xk xa xb : Int} {T1 : Stile.W} {v1 : Value} (h : OfHead w W pl (l - 1) xk 0 xa xb (.slice none 0 0)) (hpl : pl < w.heap.size) (hl : 1 ≤ l) (hk : xa' < k) (hp : OfPost T1 xa' pl (l - 1) W v1 W') : OneOut w W' pl l k T1 xk xa xb v1 := by
  obtain ⟨ho, _, hd⟩ := hp
  have hs := lt_blk h.tree
  rcases hd with ⟨d1, d2, d3⟩ | ⟨d1, l', d2, d3, d4, d5⟩
  · exact ⟨_, h.op' ho d2 hpl, .inl ⟨d1, rfl, Tk.mono _ _ _ _ _ _ (by omega) (Nat.le_refl _) d3⟩⟩
  · exact ⟨l', h.op' ho d2 hpl, .inr ⟨d1, d3, by have := d5 (by omega); omega⟩⟩
theorem two_out {w W W' : World} {pl k xb' : Nat} {l l1 xk xa xb : Int} {T1 T2 : Stile.W} {v1 v2 : Value} (h : OfHead w W pl l1 xk 0 xa xb (.slice none 0 0)) (hpl : pl < w.heap.size) (hl : 1 ≤ l) (hk : xb' < k)
    (hd1 : (T1.size ≤ l - 1 ∧ l1 = l - 1 - T1.size ∧ Tk W T1 (w.heap.size + 3) W.heap.size v1) ∨ (l - 1 < T1.size ∧ l1 < 0 ∧ -(k : Int) ≤ l1)) (hp : OfPost T2 xb' pl l1 W v2 W') : TwoOut w W' pl l k T1 T2 xk xa xb v1 v2 := by
  obtain ⟨ho, _, hd⟩ := hp
  have hs : w.heap.size + 2 < W.heap.size := lt_blk h.tree
  have hsz := ho.below.size
  have hp2 := T2.size_pos
  rcases hd1 with ⟨e1, e2, e3⟩ | ⟨e1, e2, e3⟩
  · rcases hd with ⟨d1, d2, d3⟩ | ⟨d1, l', d2, d3, d4, d5⟩
    · refine ⟨_, h.op' ho d2 hpl, .inl ⟨by omega, by omega, W.heap.size, by omega, hsz, ?_, d3⟩⟩
      exact Tk.keep _ _ _ _ (fun b q1 q2 => ho.other b q2 (by omega)) e3
    · exact ⟨l', h.op' ho d2 hpl, .inr ⟨by omega, d3, by have := d5 (by omega); omega⟩⟩
  · rcases hd with ⟨d1, d2, d3⟩ | ⟨d1, l', d2, d3, d4, d5⟩
    · omega
    · exact ⟨l', h.op' ho d2 hpl, .inr ⟨by omega, d3, by have := d4 e2; omega⟩⟩
end Go.Proofs.YtccknopchddicaaGreatDoor
