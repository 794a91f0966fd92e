/- what every rule of the nine laws shares. -/
import Derived.Test.YtccknopchddicaaGreatDoorMB5
import Derived.Test.YtccknopchddicaaGreatDoorMGa
import Derived.Test.YtccknopchddicaaGreatDoorMGk
import Derived.Deep.RegionHeld3
import Derived.Deep.DeepCutAuto
set_option linter.unusedSimpArgs false
set_option linter.unusedVariables false
set_option linter.unnecessarySimpa false
namespace Go.Proofs.YtccknopchddicaaGreatDoor
open Go.RowKit Stile
def mtObj1 (x : Mt) : Obj := Obj.cells #[.int .i64 x.kk, .int .i64 x.ks, .slice x.kA x.kids.length x.kc] 29
def mtObj2 (x y : Mt) : Obj := Obj.cells #[.int .i64 x.kk, .int .i64 x.ks, .slice x.kA x.kids.length x.kc, .int .i64 y.kk, .int .i64 y.ks, .slice y.kA y.kids.length y.kc] 29
theorem mk1_has {W W' : World} {x : Mt} (k : Int) (hx : x.has W) (hb : Below (W.heap.size + 1) (W.alloc (mtObj1 x)) W') : (Mt.n1 k W.heap.size 1 x).has W' := by
  have h1 : Below W.heap.size W (W.alloc (mtObj1 x)) := (Below.refl _ _).alloc (Nat.le_refl _) _
  have hW' := h1.trans (hb.mono (by omega))
  have hg : W'.heap[W.heap.size]? = some (mtObj1 x) := (hb.block _ (by omega)).trans (heap_new _ _)
  exact ⟨Nat.le_refl _, ⟨_, _, _, _, rfl, hg, by simp, by simp, by simp⟩, hx.made hW'⟩
theorem mk2_has {W W' : World} {x y : Mt} (k : Int) (hx : x.has W) (hy : y.has W) (hb : Below (W.heap.size + 1) (W.alloc (mtObj2 x y)) W') : (Mt.n2 k W.heap.size 2 x y).has W' := by
  have h1 : Below W.heap.size W (W.alloc (mtObj2 x y)) := (Below.refl _ _).alloc (Nat.le_refl _) _
  have hW' := h1.trans (hb.mono (by omega))
  have hg : W'.heap[W.heap.size]? = some (mtObj2 x y) := (hb.block _ (by omega)).trans (heap_new _ _)
  exact ⟨Nat.le_refl _, ⟨_, _, _, _, rfl, hg, by simp, by simp, by simp⟩, ⟨_, _, _, _, rfl, hg, by simp, by simp, by simp⟩, hx.made hW', hy.made hW'⟩
/-- the two blocks at the head of a rule: the part, and the result -/
structure ByHead (w W : World) (x : Mt) : Prop where
  below : Below w.heap.size w W
  box : W.heap[w.heap.size]? = some (mtObj1 x)
  res : W.heap[w.heap.size + 1]? = some (Obj.cells #[.int .i64 0, .int .i64 0, .slice none 0 0] 29)
theorem ByHead.made {w W W' : World} {x : Mt} (h : ByHead w W x) (hb : Below W.heap.size W W') : ByHead w W' x :=
  ⟨h.below.trans (hb.mono h.below.size), (hb.block _ (lt_blk h.box)).trans h.box, (hb.block _ (lt_blk h.res)).trans h.res⟩
theorem by_head (w : World) (x : Mt) : ByHead w ((w.alloc (Obj.cells #[.int .i64 x.kk, .int .i64 x.ks, .slice x.kA x.kids.length x.kc] 29)).alloc (Obj.cells #[.int .i64 0, .int .i64 0, .slice none 0 0] 29)) x :=
  ⟨((Below.refl _ _).alloc (Nat.le_refl _) _).alloc (by simp) _, heap_old2 _ _ _, heap_new2 _ _ _⟩
theorem cell_up {w1 w2 : World} {a : Addr} {v : Value} (h : w1.cell? a = some v) (hb : Below w1.heap.size w1 w2) : w2.cell? a = some v := (hb.cell (lt_of_cell h)).trans h
theorem up_alloc (w1 : World) (o : Obj) : Below w1.heap.size w1 (w1.alloc o) := (Below.refl _ _).alloc (Nat.le_refl _) _
def BoxS (X : Nat) (x : Mt) (W : World) : Prop := W.cell? ⟨X, 0, none⟩ = some (.int .i64 x.kk) ∧ W.cell? ⟨X, 1, none⟩ = some (.int .i64 x.ks) ∧ W.cell? ⟨X, 2, none⟩ = some (.slice x.kA x.kids.length x.kc)
theorem BoxS.up {X : Nat} {x : Mt} {w1 w2 : World} (h : BoxS X x w1) (hb : Below w1.heap.size w1 w2) : BoxS X x w2 := ⟨cell_up h.1 hb, cell_up h.2.1 hb, cell_up h.2.2 hb⟩
theorem cell_set3 {W : World} {X b k : Nat} {v u0 u1 u2 : Value} (h : W.cell? ⟨X, k, none⟩ = some v) (hb : X ≠ b) : (((W.setCell ⟨b, 0, none⟩ u0).setCell ⟨b, 1, none⟩ u1).setCell ⟨b, 2, none⟩ u2).cell? ⟨X, k, none⟩ = some v := by
  have e : ∀ (w1 : World) j u, (w1.setCell ⟨b, j, none⟩ u).heap[X]? = w1.heap[X]? := fun w1 j u => Below.heap_setCell w1 _ _ _ hb
  exact (World.cell?_of_block (w := W) ((e _ _ _).trans ((e _ _ _).trans (e _ _ _)))).trans h
theorem BoxS.set3 {X b : Nat} {x : Mt} {W : World} (u0 u1 u2 : Value) (h : BoxS X x W) (hb : X ≠ b) : BoxS X x (((W.setCell ⟨b, 0, none⟩ u0).setCell ⟨b, 1, none⟩ u1).setCell ⟨b, 2, none⟩ u2) := ⟨cell_set3 h.1 hb, cell_set3 h.2.1 hb, cell_set3 h.2.2 hb⟩
theorem box_at {w : World} {X : Nat} {x : Mt} (h : w.heap[X]? = some (mtObj1 x)) : BoxS X x w := ⟨by have := fld_cell h 0; simpa using this, by have := fld_cell h 1; simpa using this, by have := fld_cell h 2; simpa using this⟩
/-- the result's block, as a store finds it -/
def ResS (X : Nat) (W : World) : Prop := (W.cell? ⟨X, 0, none⟩ = some (.int .i64 0) ∧ W.cell? ⟨X, 1, none⟩ = some (.int .i64 0) ∧ W.cell? ⟨X, 2, none⟩ = some (.slice none 0 0)) ∧ W.frozen? ⟨X, 0, none⟩ = false ∧ W.frozen? ⟨X, 1, none⟩ = false ∧ W.frozen? ⟨X, 2, none⟩ = false ∧ X < W.heap.size
theorem res_at {w : World} {X : Nat} (h : w.heap[X]? = some (Obj.cells #[.int .i64 0, .int .i64 0, .slice none 0 0] 29)) : ResS X w :=
  ⟨⟨by have := fld_cell h 0; simpa using this, by have := fld_cell h 1; simpa using this, by have := fld_cell h 2; simpa using this⟩, fld_frozen h 0, fld_frozen h 1, fld_frozen h 2, lt_blk h⟩
/-- what wCopy leaves -/
def CopyOut (x : Mt) (W : World) (m9 : Mt) (w' : World) : Prop := m9.w = x.w ∧ m9.has w' ∧ (∀ g ∈ m9.blks, W.heap.size ≤ g) ∧ Below W.heap.size W w'
theorem copy_out (x : Mt) (W : World) (hx : x.has W) : Calls Tryz.prog 17 #[.agg #[.int .i64 x.kk, .int .i64 x.ks, .slice x.kA x.kids.length x.kc]] W fun e w' => ∃ m9 : Mt, e = .returned (.agg #[.int .i64 m9.kk, .int .i64 m9.ks, .slice m9.kA m9.kids.length m9.kc]) ∧ CopyOut x W m9 w' :=
  (copy_any x W hx).mono fun e w' ⟨h1, m9, h2, h3, h4, h5⟩ => ⟨m9, h2, h3, h4, h5, h1⟩
/-- what a rule owes -/
def ByOut (byT : W → Option W) (m : Mt) (w0 w : World) (e : Ending) (w' : World) : Prop :=
  Below w.heap.size w w' ∧ ∃ m' : Mt, e = .returned (.tuple #[m'.val, .bool (byT m.w).isSome]) ∧
      ∀ u, byT m.w = some u → m'.w = u ∧ m'.has w' ∧ ∀ g ∈ m'.blks, g ∈ m.blks ∨ w.heap.size ≤ g ∨ g < w0.heap.size
theorem by_out {byT : W → Option W} {x m' : Mt} {w0 w W : World} {u0 u1 u2 : Value} {t : Stile.W} (hr : byT x.w = some t) (hx : x.has w) (hm : m'.has W) (hw : m'.w = t) (hb : Below w.heap.size w W) (hk : ∀ g ∈ m'.blks, g ∈ x.blks ∨ w.heap.size + 2 ≤ g) :
    ByOut byT x w0 w (.returned (.tuple #[m'.val, .bool true])) (((W.setCell ⟨w.heap.size + 1, 0, none⟩ u0).setCell ⟨w.heap.size + 1, 1, none⟩ u1).setCell ⟨w.heap.size + 1, 2, none⟩ u2) := by
  have hne : ∀ g ∈ m'.blks, g ≠ w.heap.size + 1 := fun g hg e => by
    rcases hk g hg with h | h
    · have := hx.lt g h; omega
    · omega
  refine ⟨((hb.setCell (by simp) _).setCell (by simp) _).setCell (by simp) _, m', by rw [hr]; rfl, fun u hu => ?_⟩
  rw [hr] at hu
  injection hu with hu
  refine ⟨hw.trans hu, ((hm.set hne).set hne).set hne, fun g hg => ?_⟩
  rcases hk g hg with h | h
  · exact .inl h
  · exact .inr (.inl (by omega))
def KidS (g o : Nat) (x : Mt) (W : World) : Prop := W.cell? ⟨g, o, none⟩ = some (.int .i64 x.kk) ∧ W.cell? ⟨g, o + 1, none⟩ = some (.int .i64 x.ks) ∧ W.cell? ⟨g, o + 2, none⟩ = some (.slice x.kA x.kids.length x.kc)
theorem KidS.up {X o : Nat} {x : Mt} {w1 w2 : World} (h : KidS X o x w1) (hb : Below w1.heap.size w1 w2) : KidS X o x w2 := ⟨cell_up h.1 hb, cell_up h.2.1 hb, cell_up h.2.2 hb⟩
theorem KidS.set3 {X b o : Nat} {x : Mt} {W : World} (u0 u1 u2 : Value) (h : KidS X o x W) (hb : X ≠ b) : KidS X o x (((W.setCell ⟨b, 0, none⟩ u0).setCell ⟨b, 1, none⟩ u1).setCell ⟨b, 2, none⟩ u2) := ⟨cell_set3 h.1 hb, cell_set3 h.2.1 hb, cell_set3 h.2.2 hb⟩
theorem kid_at {W : World} {g j : Nat} {x : Mt} (h : KidAt W g j x.val) : KidS g (3 * j) x W := by
  obtain ⟨a, b, c, _⟩ := KidAt.cells (k := x.kk) (s := x.ks) (A := x.kA) (n := x.kids.length) (c := x.kc) h
  exact ⟨a, b, c⟩
theorem up_call {W w' : World} {o : Obj} (h : Below (W.alloc o).heap.size (W.alloc o) w') : Below W.heap.size W w' := (up_alloc W o).trans (h.mono (up_alloc W o).size)
theorem up_next {W w' : World} {o : Obj} (h : Below (W.alloc o).heap.size (W.alloc o) w') : Below (W.heap.size + 1) (W.alloc o) w' := h.mono (by simp)
theorem up_trans {w1 w2 w3 : World} (h : Below w1.heap.size w1 w2) (h2 : Below w2.heap.size w2 w3) : Below w1.heap.size w1 w3 := h.trans (h2.mono h.size)
theorem swapR_spec {ks : Int → Bool} {m : Int} {D} {f : List Nd} {which : Int} {byT : W → Option W} (hks : ∀ k, ks k = true → anyK k = true) (hf : okF ks m f) (h0 : 0 < f.length) (hby : ∀ t u, t.ok ks m → byT t = some u → u.ok ks m ∧ Agree D t.sem u.sem) {u : W} (h : swapR f which byT = some u) :
    u.ok ks m ∧ Agree D (tree f).sem u.sem := by
  unfold swapR at h
  split at h
  · cases h
  · exact swapT_spec hby (tree_ok hks f hf (by intro e; rw [e] at h0; simp at h0)) h
theorem futK_any : ∀ k, futK k = true → anyK k = true := fun k hk => by simp [futK] at hk; simp [anyK]; omega
end Go.Proofs.YtccknopchddicaaGreatDoor
/- what the walks of the rules share. -/
namespace Go.Proofs.YtccknopchddicaaGreatDoor
open Go.RowKit Stile
/-- all cells that a region reads: nodes at their places -/
def AllS : List (Nat × Nat × Mt) → World → Prop
  | [], _ => True
  | e :: l, W => KidS e.1 e.2.1 e.2.2 W ∧ AllS l W
theorem AllS.up {w1 w2 : World} : ∀ {l : List (Nat × Nat × Mt)}, AllS l w1 → Below w1.heap.size w1 w2 → AllS l w2
  | [], _, _ => trivial
  | _ :: _, h, hb => ⟨h.1.up hb, AllS.up h.2 hb⟩
def NeS (b : Nat) : List (Nat × Nat × Mt) → Prop
  | [] => True
  | e :: l => e.1 ≠ b ∧ NeS b l
theorem AllS.set3 {b : Nat} {W : World} (u0 u1 u2 : Value) : ∀ {l : List (Nat × Nat × Mt)}, AllS l W → NeS b l → AllS l (((W.setCell ⟨b, 0, none⟩ u0).setCell ⟨b, 1, none⟩ u1).setCell ⟨b, 2, none⟩ u2)
  | [], _, _ => trivial
  | _ :: _, h, hn => ⟨h.1.set3 u0 u1 u2 hn.1, AllS.set3 u0 u1 u2 h.2 hn.2⟩
theorem KidS.draw {b o : Nat} {x : Mt} {W : World} (h : KidS b o x W) : KidS b o x W.drew := h.up ((Below.refl _ _).drew)
theorem AllS.draw {l : List (Nat × Nat × Mt)} {W : World} (h : AllS l W) : AllS l W.drew := h.up ((Below.refl _ _).drew)
theorem box_kid {w : World} {X : Nat} {x : Mt} (h : w.heap[X]? = some (mtObj1 x)) : KidS X 0 x w := box_at h
/-- the blocks of a tree: old ones of the part, new ones, or ones that lay before -/
def Fr (x : Mt) (N M : Nat) (m : Mt) : Prop := ∀ g ∈ m.blks, g ∈ x.blks ∨ N ≤ g ∨ g < M
theorem Fr.self (x : Mt) (N M : Nat) : Fr x N M x := fun _ h => .inl h
theorem Fr.kid {x y z : Mt} {N M : Nat} (h : Fr x N M y) (hz : z ∈ y.kids) : Fr x N M z := fun g hg => h g (Mt.kid_blks hz g hg)
theorem Fr.new {x m : Mt} {N M B : Nat} (h : ∀ g ∈ m.blks, B ≤ g) (hB : N ≤ B) : Fr x N M m := fun g hg => .inr (.inl (Nat.le_trans hB (h g hg)))
theorem Fr.old {x m : Mt} {N M : Nat} (h : ∀ g ∈ m.blks, g < M) : Fr x N M m := fun g hg => .inr (.inr (h g hg))
theorem Fr.n0 {x : Mt} {N M : Nat} {k s : Int} : Fr x N M (.n0 k s) := fun g hg => by simp [Mt.blks] at hg
theorem Fr.n1 {x y : Mt} {N M g c : Nat} {k : Int} (hg : N ≤ g) (hy : Fr x N M y) : Fr x N M (.n1 k g c y) := fun q hq => by
  simp [Mt.blks] at hq
  rcases hq with rfl | hq
  · exact .inr (.inl hg)
  · exact hy q hq
theorem Fr.n2 {x y z : Mt} {N M g c : Nat} {k : Int} (hg : N ≤ g) (hy : Fr x N M y) (hz : Fr x N M z) : Fr x N M (.n2 k g c y z) := fun q hq => by
  simp [Mt.blks] at hq
  rcases hq with rfl | hq | hq
  · exact .inr (.inl hg)
  · exact hy q hq
  · exact hz q hq
theorem by_fr {byT : W → Option W} {x m' : Mt} {w0 w W : World} {u0 u1 u2 : Value} {t : Stile.W} (hr : byT x.w = some t) (hx : x.has w) (h0 : w0.heap.size ≤ w.heap.size) (hm : m'.has W) (hw : m'.w = t) (hb : Below w.heap.size w W) (hk : Fr x (w.heap.size + 2) w0.heap.size m') :
    ByOut byT x w0 w (.returned (.tuple #[m'.val, .bool true])) (((W.setCell ⟨w.heap.size + 1, 0, none⟩ u0).setCell ⟨w.heap.size + 1, 1, none⟩ u1).setCell ⟨w.heap.size + 1, 2, none⟩ u2) := by
  have hne : ∀ g ∈ m'.blks, g ≠ w.heap.size + 1 := fun g hg e => by
    rcases hk g hg with h | h | h
    · have := hx.lt g h; omega
    · omega
    · omega
  refine ⟨((hb.setCell (by simp) _).setCell (by simp) _).setCell (by simp) _, m', by rw [hr]; rfl, fun u hu => ?_⟩
  rw [hr] at hu
  injection hu with hu
  refine ⟨hw.trans hu, ((hm.set hne).set hne).set hne, fun g hg => ?_⟩
  rcases hk g hg with h | h | h
  · exact .inl h
  · exact .inr (.inl (by omega))
  · exact .inr (.inr h)
/-- where the rule does not apply -/
theorem by_none {byT : W → Option W} {x : Mt} {w0 w W : World} (hr : byT x.w = none) (hb : Below w.heap.size w W) : ByOut byT x w0 w (.returned (.tuple #[x.val, .bool false])) W :=
  ⟨hb, x, by rw [hr]; rfl, fun u hu => by rw [hr] at hu; cases hu⟩
def zObj : Obj := Obj.cells #[.int .i64 0, .int .i64 0, .slice none 0 0] 29
/-- two new boxes, filled -/
theorem two_box (W : World) (a b : Mt) (A B : Nat) (hAB : (A = W.heap.size ∧ B = W.heap.size + 1) ∨ (A = W.heap.size + 1 ∧ B = W.heap.size)) :
    let W4 := ((((((((W.alloc zObj).alloc zObj).setCell ⟨A, 0, none⟩ (.int .i64 a.kk)).setCell ⟨A, 1, none⟩ (.int .i64 a.ks)).setCell ⟨A, 2, none⟩ (.slice a.kA a.kids.length a.kc)).setCell ⟨B, 0, none⟩ (.int .i64 b.kk)).setCell ⟨B, 1, none⟩ (.int .i64 b.ks)).setCell ⟨B, 2, none⟩ (.slice b.kA b.kids.length b.kc))
    Below W.heap.size W W4 ∧ KidS A 0 a W4 ∧ KidS B 0 b W4 ∧ A < W4.heap.size ∧ B < W4.heap.size := by
  have hne : A ≠ B := by omega
  have hA : W.heap.size ≤ A := by omega
  have hB : W.heap.size ≤ B := by omega
  obtain ⟨cA, hcA⟩ : ∃ c, c = #[Value.int .i64 0, .int .i64 0, .slice none 0 0] ∧ ((W.alloc zObj).alloc zObj).heap[A]? = some (.cells c 29 (0, 0)) := by
    rcases hAB with ⟨rfl, rfl⟩ | ⟨rfl, rfl⟩
    · exact ⟨_, rfl, heap_old2 _ _ _⟩
    · exact ⟨_, rfl, heap_new2 _ _ _⟩
  obtain ⟨cB, hcB⟩ : ∃ c, c = #[Value.int .i64 0, .int .i64 0, .slice none 0 0] ∧ ((W.alloc zObj).alloc zObj).heap[B]? = some (.cells c 29 (0, 0)) := by
    rcases hAB with ⟨rfl, rfl⟩ | ⟨rfl, rfl⟩
    · exact ⟨_, rfl, heap_new2 _ _ _⟩
    · exact ⟨_, rfl, heap_old2 _ _ _⟩
  obtain ⟨rfl, hcA⟩ := hcA
  obtain ⟨rfl, hcB⟩ := hcB
  have e : ∀ (w1 : World) b j u X, X ≠ b → (w1.setCell ⟨b, j, none⟩ u).heap[X]? = w1.heap[X]? := fun w1 b j u X h => Below.heap_setCell w1 _ _ _ h
  have hA1 := fld_set (fld_set (fld_set hcA 0 (.int .i64 a.kk)) 1 (.int .i64 a.ks)) 2 (.slice a.kA a.kids.length a.kc)
  have hB0 := ((e _ A 2 (.slice a.kA a.kids.length a.kc) B hne.symm).trans ((e _ A 1 (.int .i64 a.ks) B hne.symm).trans (e _ A 0 (.int .i64 a.kk) B hne.symm))).trans hcB
  have hB1 := fld_set (fld_set (fld_set hB0 0 (.int .i64 b.kk)) 1 (.int .i64 b.ks)) 2 (.slice b.kA b.kids.length b.kc)
  have hA2 := ((e _ B 2 (.slice b.kA b.kids.length b.kc) A hne).trans ((e _ B 1 (.int .i64 b.ks) A hne).trans (e _ B 0 (.int .i64 b.kk) A hne))).trans hA1
  refine ⟨?_, ?_, ?_, lt_blk hA2, lt_blk hB1⟩
  · exact ((((((((Below.refl _ _).alloc (Nat.le_refl _) _).alloc (by simp) _).setCell (by simpa using hA) _).setCell (by simpa using hA) _).setCell (by simpa using hA) _).setCell (by simpa using hB) _).setCell (by simpa using hB) _).setCell (by simpa using hB) _
  · exact ⟨by rw [fld_cell hA2]; rfl, by rw [fld_cell hA2]; rfl, by rw [fld_cell hA2]; rfl⟩
  · exact ⟨by rw [fld_cell hB1]; rfl, by rw [fld_cell hB1]; rfl, by rw [fld_cell hB1]; rfl⟩
end Go.Proofs.YtccknopchddicaaGreatDoor
