/- contract: wOf. -/
import Derived.Test.YtccknopchddicaaT3
namespace Go.Proofs.Ytccknopchddicaa
open Go.RowKit Stile
/-- v is the tree; the lists of its parts lie in blocks of their own, from lo on, below hi -/
def Tk (w : World) : W → Nat → Nat → Value → Prop
  | .n0 k s, lo, hi, v => v = .agg #[.int .i64 k, .int .i64 s, .slice none 0 0] ∧ lo ≤ hi
  | .n1 k x, lo, hi, v => ∃ g c a, v = .agg #[.int .i64 k, .int .i64 0, .slice (some ⟨g, 0, none⟩) 1 c] ∧ 1 ≤ c ∧ lo ≤ g ∧ g < hi ∧ KidAt w g 0 a ∧ Tk w x lo g a
  | .n2 k x y, lo, hi, v => ∃ g c m a b, v = .agg #[.int .i64 k, .int .i64 0, .slice (some ⟨g, 0, none⟩) 2 c] ∧ 2 ≤ c ∧ lo ≤ m ∧ m ≤ g ∧ g < hi ∧ KidAt w g 0 a ∧ KidAt w g 1 b ∧ Tk w x lo m a ∧ Tk w y m g b
theorem Tk.td {w : World} : ∀ (t : W) (lo hi : Nat) (v : Value), Tk w t lo hi v → Td w lo hi t v := by
  intro t
  induction t with
  | n0 k s => intro lo hi v h; exact h.1
  | n1 k x ih =>
    rintro lo hi v ⟨g, c, a, e, h1, h2, h3, h4, h5⟩
    exact ⟨g, c, a, e, h1, h2, h3, h4, Td.mono (Nat.le_refl _) (by omega) _ _ (ih lo g a h5)⟩
  | n2 k x y ih1 ih2 =>
    rintro lo hi v ⟨g, c, m, a, b, e, h1, h2, h3, h4, h5, h6, h7, h8⟩
    exact ⟨g, c, a, b, e, h1, by omega, h4, h5, h6, Td.mono (Nat.le_refl _) (by omega) _ _ (ih1 lo m a h7), Td.mono h2 (by omega) _ _ (ih2 m g b h8)⟩
theorem Tk.keep {w w' : World} : ∀ (t : W) (lo hi : Nat) (v : Value), (∀ g, lo ≤ g → g < hi → w'.heap[g]? = w.heap[g]?) → Tk w t lo hi v → Tk w' t lo hi v := by
  intro t
  induction t with
  | n0 k s => intro lo hi v _ h; exact h
  | n1 k x ih =>
    rintro lo hi v hk ⟨g, c, a, e, h1, h2, h3, h4, h5⟩
    exact ⟨g, c, a, e, h1, h2, h3, h4.keep (hk g h2 h3), ih lo g a (fun b q1 q2 => hk b q1 (by omega)) h5⟩
  | n2 k x y ih1 ih2 =>
    rintro lo hi v hk ⟨g, c, m, a, b, e, h1, h2, h3, h4, h5, h6, h7, h8⟩
    exact ⟨g, c, m, a, b, e, h1, h2, h3, h4, h5.keep (hk g (by omega) h4), h6.keep (hk g (by omega) h4), ih1 lo m a (fun b q1 q2 => hk b q1 (by omega)) h7, ih2 m g b (fun b q1 q2 => hk b (by omega) (by omega)) h8⟩
theorem Tk.mono {w : World} : ∀ (t : W) (lo hi lo' hi' : Nat) (v : Value), lo' ≤ lo → hi ≤ hi' → Tk w t lo hi v → Tk w t lo' hi' v := by
  intro t
  induction t with
  | n0 k s => intro lo hi lo' hi' v h1 h2 h; exact ⟨h.1, by have := h.2; omega⟩
  | n1 k x ih =>
    rintro lo hi lo' hi' v q1 q2 ⟨g, c, a, e, h1, h2, h3, h4, h5⟩
    exact ⟨g, c, a, e, h1, by omega, by omega, h4, ih lo g lo' g a q1 (Nat.le_refl _) h5⟩
  | n2 k x y ih1 ih2 =>
    rintro lo hi lo' hi' v q1 q2 ⟨g, c, m, a, b, e, h1, h2, h3, h4, h5, h6, h7, h8⟩
    exact ⟨g, c, m, a, b, e, h1, by omega, h3, by omega, h5, h6, ih1 lo m lo' m a q1 (Nat.le_refl _) h7, h8⟩
/-- the counter lies in block pl -/
def LeftAt (w : World) (pl : Nat) (l : Int) : Prop := w.heap[pl]? = some (Obj.cells #[.int .i64 l] 3)
/-- a step that changes block pl alone -/
structure Op (pl : Nat) (w w' : World) : Prop where
  below : Below pl w w'
  other : ∀ b, b < w.heap.size → b ≠ pl → w'.heap[b]? = w.heap[b]?
theorem Op.refl (pl : Nat) (w : World) : Op pl w w := ⟨Below.refl _ _, fun _ _ _ => rfl⟩
theorem Op.trans {pl : Nat} {w w1 w2 : World} (h : Op pl w w1) (h2 : Op pl w1 w2) : Op pl w w2 :=
  ⟨h.below.trans h2.below, fun b hb hne => (h2.other b (Nat.lt_of_lt_of_le hb h.below.size) hne).trans (h.other b hb hne)⟩
theorem Op.made {pl : Nat} {w w' : World} (hb : Below w.heap.size w w') (hp : pl ≤ w.heap.size) : Op pl w w' := ⟨hb.mono hp, fun b h _ => hb.block b h⟩
theorem Op.setNew {pl b k : Nat} {w w' : World} {u : Value} (h : Op pl w w') (hb : w.heap.size ≤ b) (hp : pl ≤ b) : Op pl w (w'.setCell ⟨b, k, none⟩ u) :=
  ⟨h.below.setCell hp _, fun c hc hne => (Below.heap_setCell w' _ _ _ (fun (e : c = b) => by omega)).trans (h.other c hc hne)⟩
theorem Op.setLeft {pl : Nat} {w w' : World} {u : Value} (h : Op pl w w') : Op pl w (w'.setCell ⟨pl, 0, none⟩ u) :=
  ⟨h.below.setCell (Nat.le_refl _) _, fun c hc hne => (Below.heap_setCell w' _ _ _ hne).trans (h.other c hc hne)⟩
/-- what wOf makes at node k -/
def OfPost (t : W) (k : Nat) (pl : Nat) (l : Int) (w : World) (v : Value) (w' : World) : Prop :=
  Op pl w w' ∧ (∃ k' s A n c, v = .agg #[.int .i64 k', .int .i64 s, .slice A n c]) ∧
    ((t.size ≤ l ∧ LeftAt w' pl (l - t.size) ∧ Tk w' t w.heap.size w'.heap.size v) ∨
     (l < t.size ∧ ∃ l', LeftAt w' pl l' ∧ l' < 0 ∧ (l < 0 → l' = l - 1) ∧ (0 ≤ l → -((k : Int) + 1) ≤ l')))
def OfOk (f : List Nd) (k : Nat) : Prop := ∀ (fv : Value) (pl : Nat) (l : Int) (w : World), RdN w pl fv f → LeftAt w pl l → -1000 ≤ l → l ≤ 100 →
  Calls Try.prog 17 #[fv, .int .i64 (k : Int), .pointer (some ⟨pl, 0, none⟩)] w fun e w' => ∃ v, e = .returned v ∧ OfPost (getW (treesL f) k) k pl l w v w'
theorem three_new (w : World) (o1 o2 o3 : Obj) : (((w.alloc o1).alloc o2).alloc o3).heap[w.heap.size]? = some o1 ∧ (((w.alloc o1).alloc o2).alloc o3).heap[w.heap.size + 1]? = some o2 ∧ (((w.alloc o1).alloc o2).alloc o3).heap[w.heap.size + 2]? = some o3 := by
  refine ⟨(Below.heap_alloc _ o3 _ (by simp; omega)).trans (heap_old2 w o1 o2), (Below.heap_alloc _ o3 _ (by simp)).trans (heap_new2 w o1 o2), ?_⟩
  have h := heap_new ((w.alloc o1).alloc o2) o3
  rwa [show ((w.alloc o1).alloc o2).heap.size = w.heap.size + 2 from by simp] at h
/-- the three blocks that wOf makes at its head, and the counter -/
structure OfHead (w W : World) (pl : Nat) (l xk xs xa xb : Int) (v : Value) : Prop where
  op : Op pl w W
  left : LeftAt W pl l
  res : W.heap[w.heap.size]? = some (Obj.cells #[.int .i64 0, .int .i64 0, .slice none 0 0] 33)
  node : W.heap[w.heap.size + 1]? = some (Obj.cells #[.int .i64 xk, .int .i64 xa, .int .i64 xb] 49)
  tree : W.heap[w.heap.size + 2]? = some (Obj.cells #[.int .i64 xk, .int .i64 xs, v] 33)
theorem of_head {w W3 : World} {pl : Nat} {l xk xa xb : Int} (hl : LeftAt w pl l) (hW : (((w.alloc (Obj.cells #[.int .i64 0, .int .i64 0, .slice none 0 0] 33)).alloc (Obj.cells #[.int .i64 xk, .int .i64 xa, .int .i64 xb] 49)).alloc (Obj.cells #[.int .i64 xk, .int .i64 0, .slice none 0 0] 33)) = W3) :
    OfHead w (W3.setCell ⟨pl, 0, none⟩ (.int .i64 (l - 1))) pl (l - 1) xk 0 xa xb (.slice none 0 0) := by
  subst hW
  have hb3 : Below w.heap.size w (((w.alloc (Obj.cells #[.int .i64 0, .int .i64 0, .slice none 0 0] 33)).alloc (Obj.cells #[.int .i64 xk, .int .i64 xa, .int .i64 xb] 49)).alloc (Obj.cells #[.int .i64 xk, .int .i64 0, .slice none 0 0] 33)) := (((Below.refl _ _).alloc (Nat.le_refl _) _).alloc (by simp) _).alloc (by simp; omega) _
  have hpl := lt_blk hl
  obtain ⟨h1, h2, h3⟩ := three_new w (Obj.cells #[.int .i64 0, .int .i64 0, .slice none 0 0] 33) (Obj.cells #[.int .i64 xk, .int .i64 xa, .int .i64 xb] 49) (Obj.cells #[.int .i64 xk, .int .i64 0, .slice none 0 0] 33)
  refine ⟨(Op.made hb3 (by omega)).setLeft, ?_, ?_, ?_, ?_⟩
  · have := fld_set ((hb3.block _ hpl).trans hl) 0 (.int .i64 (l - 1))
    simpa [LeftAt] using this
  · exact (Below.heap_setCell _ _ _ _ (fun (e : w.heap.size = pl) => by omega)).trans h1
  · exact (Below.heap_setCell _ _ _ _ (fun (e : w.heap.size + 1 = pl) => by omega)).trans h2
  · exact (Below.heap_setCell _ _ _ _ (fun (e : w.heap.size + 2 = pl) => by omega)).trans h3
theorem OfHead.fin {w W : World} {pl : Nat} {l xk xs xa xb : Int} {v : Value} (h : OfHead w W pl l xk xs xa xb v) (hpl : pl < w.heap.size) :
    Op pl w (((W.setCell ⟨w.heap.size, 0, none⟩ (.int .i64 xk)).setCell ⟨w.heap.size, 1, none⟩ (.int .i64 xs)).setCell ⟨w.heap.size, 2, none⟩ v) ∧
    LeftAt (((W.setCell ⟨w.heap.size, 0, none⟩ (.int .i64 xk)).setCell ⟨w.heap.size, 1, none⟩ (.int .i64 xs)).setCell ⟨w.heap.size, 2, none⟩ v) pl l ∧
    (((W.setCell ⟨w.heap.size, 0, none⟩ (.int .i64 xk)).setCell ⟨w.heap.size, 1, none⟩ (.int .i64 xs)).setCell ⟨w.heap.size, 2, none⟩ v).heap.size = W.heap.size ∧
    ∀ b, b ≠ w.heap.size → (((W.setCell ⟨w.heap.size, 0, none⟩ (.int .i64 xk)).setCell ⟨w.heap.size, 1, none⟩ (.int .i64 xs)).setCell ⟨w.heap.size, 2, none⟩ v).heap[b]? = W.heap[b]? := by
  have hk : ∀ b, b ≠ w.heap.size → (((W.setCell ⟨w.heap.size, 0, none⟩ (.int .i64 xk)).setCell ⟨w.heap.size, 1, none⟩ (.int .i64 xs)).setCell ⟨w.heap.size, 2, none⟩ v).heap[b]? = W.heap[b]? := fun b hb =>
    (Below.heap_setCell _ _ _ _ hb).trans ((Below.heap_setCell _ _ _ _ hb).trans (Below.heap_setCell _ _ _ _ hb))
  exact ⟨((h.op.setNew (Nat.le_refl _) (by omega)).setNew (Nat.le_refl _) (by omega)).setNew (Nat.le_refl _) (by omega), (hk pl (by omega)).trans h.left, by simp [World.setCell], hk⟩
set_option maxRecDepth 100000 in
set_option maxHeartbeats 1600000 in
theorem of_stop (f : List Nd) (k : Nat) (hk : k < f.length) (t : W) (fv : Value) (pl : Nat) (l : Int) (w : World) (hf : RdN w pl fv f) (hl : LeftAt w pl l) (h0 : -1000 ≤ l) (h1 : l ≤ 0) :
    Calls Try.prog 17 #[fv, .int .i64 (k : Int), .pointer (some ⟨pl, 0, none⟩)] w fun e w' => ∃ v, e = .returned v ∧ OfPost t k pl l w v w' := by
  obtain ⟨b, off, c, rfl, hlc, hb, hcell⟩ := hf.at_ (by omega)
  obtain ⟨c1, c2, c3⟩ := hcell k hk
  have hpl := lt_blk hl
  have hbl : b < w.heap.size := by omega
  have lc := fld_cell hl 0
  have lf := fld_frozen hl 0
  simp at lc
  have HL := Lib.hid hl
  have hneg : decide (l - 1 < 0) = true := by simp; omega
  obtain ⟨x, hx⟩ : ∃ x, nd f k = x := ⟨_, rfl⟩
  rw [hx] at c1 c2 c3
  obtain ⟨xk, xa, xb⟩ := x
  dsimp only at c1 c2 c3
  have e1 : (l : Int) = l := rfl
  generalize f.length = n at *
  clear hcell hf hl hx
  go_enter Try.func17, Try.ntmps17
  go_upto_region 3 with fail
  obtain ⟨W3, hW3⟩ : ∃ W3, (((w.alloc (Obj.cells #[.int .i64 0, .int .i64 0, .slice none 0 0] 33)).alloc (Obj.cells #[.int .i64 xk, .int .i64 xa, .int .i64 xb] 49)).alloc (Obj.cells #[.int .i64 xk, .int .i64 0, .slice none 0 0] 33)) = W3 := ⟨_, rfl⟩
  rw [hW3]
  have hb3 : Below w.heap.size w W3 := by rw [← hW3]; exact (((Below.refl _ _).alloc (Nat.le_refl _) _).alloc (by simp) _).alloc (by simp; omega) _
  have hl3 : LeftAt W3 pl l := (hb3.block _ hpl).trans HL.out
  have lc3 : W3.cell? ⟨pl, 0, none⟩ = some (.int .i64 l) := by have := fld_cell hl3 0; simpa using this
  have lf3 := fld_frozen hl3 0
  have hh := of_head HL.out hW3
  clear lc lf hb3 hl3 hW3
  go_upto_region 5 with fail
  obtain ⟨W4, hW4⟩ : ∃ W4, W3.setCell ⟨pl, 0, none⟩ (.int .i64 (l - 1)) = W4 := ⟨_, rfl⟩
  rw [hW4] at hh ⊢
  have ht := fun k => fld_cell hh.tree k
  have t0 := ht 0
  have t1 := ht 1
  have t2 := ht 2
  have hr := fun k => fld_cell hh.res k
  have r0 := hr 0
  have r1 := hr 1
  have r2 := hr 2
  have hf := fun k => fld_frozen hh.res k
  have f0 := hf 0
  have f1 := hf 1
  have f2 := hf 2
  have s1 := lt_blk hh.res
  have s2 := lt_blk hh.tree
  simp at t0 t1 t2 r0 r1 r2
  have HH := Lib.hid hh
  clear ht hr hf hh hW4 lc3 lf3
  go_wp2_with fail
  obtain ⟨g1, g2, g3, g4⟩ := HH.out.fin hpl
  have hsz := t.size_pos
  exact bodyPost_ret (v := .agg #[.int .i64 xk, .int .i64 0, .slice none 0 0]) (by simp [results, Try.results17, go_sem, r0, r1, r2]) rfl ⟨_, rfl, g1, ⟨_, _, _, _, _, rfl⟩, .inr ⟨by omega, l - 1, g2, by omega, fun _ => rfl, fun _ => by omega⟩⟩
set_option maxRecDepth 100000 in
set_option maxHeartbeats 1600000 in
theorem of_leaf (f : List Nd) (k : Nat) (hk : k < f.length) (fv : Value) (pl : Nat) (l : Int) (w : World) (hf : RdN w pl fv f) (hl : LeftAt w pl l) (h0 : 1 ≤ l) (h1 : l ≤ 100) (hkind : (nd f k).k = 0 ∨ (nd f k).k = 1 ∨ (nd f k).k = 2) :
    Calls Try.prog 17 #[fv, .int .i64 (k : Int), .pointer (some ⟨pl, 0, none⟩)] w fun e w' => ∃ v, e = .returned v ∧ OfPost (.n0 (nd f k).k (if (nd f k).k = 2 then (nd f k).a else 0)) k pl l w v w' := by
  obtain ⟨b, off, c, rfl, hlc, hb, hcell⟩ := hf.at_ (by omega)
  obtain ⟨c1, c2, c3⟩ := hcell k hk
  have hpl := lt_blk hl
  have hbl : b < w.heap.size := by omega
  have lc := fld_cell hl 0
  have lf := fld_frozen hl 0
  simp at lc
  have HL := Lib.hid hl
  have hneg : decide (l - 1 < 0) = false := by simp; omega
  obtain ⟨x, hx⟩ : ∃ x, nd f k = x := ⟨_, rfl⟩
  rw [hx] at c1 c2 c3
  rw [hx] at hkind ⊢
  obtain ⟨xk, xa, xb⟩ := x
  dsimp only at c1 c2 c3 hkind ⊢
  have e1 : (l : Int) = l := rfl
  generalize f.length = n at *
  clear hcell hf hl hx
  go_enter Try.func17, Try.ntmps17
  go_upto_region 3 with fail
  obtain ⟨W3, hW3⟩ : ∃ W3, (((w.alloc (Obj.cells #[.int .i64 0, .int .i64 0, .slice none 0 0] 33)).alloc (Obj.cells #[.int .i64 xk, .int .i64 xa, .int .i64 xb] 49)).alloc (Obj.cells #[.int .i64 xk, .int .i64 0, .slice none 0 0] 33)) = W3 := ⟨_, rfl⟩
  rw [hW3]
  have hb3 : Below w.heap.size w W3 := by rw [← hW3]; exact (((Below.refl _ _).alloc (Nat.le_refl _) _).alloc (by simp) _).alloc (by simp; omega) _
  have hl3 : LeftAt W3 pl l := (hb3.block _ hpl).trans HL.out
  have lc3 : W3.cell? ⟨pl, 0, none⟩ = some (.int .i64 l) := by have := fld_cell hl3 0; simpa using this
  have lf3 := fld_frozen hl3 0
  have hh := of_head HL.out hW3
  clear lc lf hb3 hl3 hW3
  go_upto_region 6 with fail
  obtain ⟨W4, hW4⟩ : ∃ W4, W3.setCell ⟨pl, 0, none⟩ (.int .i64 (l - 1)) = W4 := ⟨_, rfl⟩
  rw [hW4] at hh ⊢
  have ht := fun k => fld_cell hh.tree k
  have t0 := ht 0
  have t1 := ht 1
  have t2 := ht 2
  have hr := fun k => fld_cell hh.res k
  have r0 := hr 0
  have r1 := hr 1
  have r2 := hr 2
  have hf := fun k => fld_frozen hh.res k
  have f0 := hf 0
  have f1 := hf 1
  have f2 := hf 2
  have ft1 := fld_frozen hh.tree 1
  have hn := fun k => fld_cell hh.node k
  have n0 := hn 0
  have n1 := hn 1
  have s1 := lt_blk hh.res
  have s2 := lt_blk hh.tree
  have s3 := lt_blk hh.node
  simp at t0 t1 t2 r0 r1 r2 n0 n1
  have HH := Lib.hid hh
  clear ht hr hf hh hW4 lc3 lf3 hn
  have hsz : W4.heap.size = W4.heap.size := rfl
  rcases hkind with rfl | rfl | rfl
  · go_wp2_with fail
    obtain ⟨g1, g2, g3, g4⟩ := HH.out.fin hpl
    exact bodyPost_ret (v := .agg #[.int .i64 0, .int .i64 0, .slice none 0 0]) (by simp [results, Try.results17, go_sem, r0, r1, r2]) rfl ⟨_, rfl, g1, ⟨_, _, _, _, _, rfl⟩, .inl ⟨by simp [W.size]; omega, by simpa [W.size] using g2, by simp [Tk], by rw [g3]; exact Nat.le_of_lt s1⟩⟩
  · go_wp2_with fail
    obtain ⟨g1, g2, g3, g4⟩ := HH.out.fin hpl
    exact bodyPost_ret (v := .agg #[.int .i64 1, .int .i64 0, .slice none 0 0]) (by simp [results, Try.results17, go_sem, r0, r1, r2]) rfl ⟨_, rfl, g1, ⟨_, _, _, _, _, rfl⟩, .inl ⟨by simp [W.size]; omega, by simpa [W.size] using g2, by simp [Tk], by rw [g3]; exact Nat.le_of_lt s1⟩⟩
  · go_upto_region 17 with fail
    obtain ⟨W5, hW5⟩ : ∃ W5, W4.setCell ⟨w.heap.size + 2, 1, none⟩ (.int .i64 xa) = W5 := ⟨_, rfl⟩
    have hh5 : OfHead w W5 pl (l - 1) 2 xa xa xb (.slice none 0 0) := by
      rw [← hW5]
      refine ⟨HH.out.op.setNew (by omega) (by omega), (Below.heap_setCell _ _ _ _ (fun (e : pl = w.heap.size + 2) => by omega)).trans HH.out.left, (Below.heap_setCell _ _ _ _ (fun (e : w.heap.size = w.heap.size + 2) => by omega)).trans HH.out.res, (Below.heap_setCell _ _ _ _ (fun (e : w.heap.size + 1 = w.heap.size + 2) => by omega)).trans HH.out.node, ?_⟩
      have := fld_set HH.out.tree 1 (.int .i64 xa)
      simpa using this
    rw [hW5]
    have u0 := fld_cell hh5.tree 0
    have u1 := fld_cell hh5.tree 1
    have u2 := fld_cell hh5.tree 2
    have v0 := fld_cell hh5.res 0
    have v1 := fld_cell hh5.res 1
    have v2 := fld_cell hh5.res 2
    have w0 := fld_frozen hh5.res 0
    have w1 := fld_frozen hh5.res 1
    have w2 := fld_frozen hh5.res 2
    have x1 := lt_blk hh5.res
    have x2 := lt_blk hh5.tree
    simp at u0 u1 u2 v0 v1 v2
    have HH5 := Lib.hid hh5
    clear hh5 hW5
    go_wp2_with fail
    obtain ⟨g1, g2, g3, g4⟩ := HH5.out.fin hpl
    exact bodyPost_ret (v := .agg #[.int .i64 2, .int .i64 xa, .slice none 0 0]) (by simp [results, Try.results17, go_sem, v0, v1, v2]) rfl ⟨_, rfl, g1, ⟨_, _, _, _, _, rfl⟩, .inl ⟨by simp [W.size]; omega, by simpa [W.size] using g2, by simp [Tk], by rw [g3]; exact Nat.le_of_lt x1⟩⟩
theorem of_kids {w w5 W6 : World} {pl n c : Nat} {l5 xk xa xb : Int} (cs : Array Value) (hop : Op pl w w5) (hpl : pl < w.heap.size) (hleft : LeftAt w5 pl l5)
    (hres : w5.heap[w.heap.size]? = some (Obj.cells #[.int .i64 0, .int .i64 0, .slice none 0 0] 33)) (hnode : w5.heap[w.heap.size + 1]? = some (Obj.cells #[.int .i64 xk, .int .i64 xa, .int .i64 xb] 49))
    (htree : w5.heap[w.heap.size + 2]? = some (Obj.cells #[.int .i64 xk, .int .i64 0, .slice none 0 0] 33))
    (hW : (w5.setCell ⟨w.heap.size + 1 + 1, 2, none⟩ (.slice (some ⟨w5.heap.size, 0, none⟩) n c)).alloc (Obj.cells cs 33) = W6) :
    OfHead w W6 pl l5 xk 0 xa xb (.slice (some ⟨w5.heap.size, 0, none⟩) n c) ∧ W6.heap[w5.heap.size]? = some (Obj.cells cs 33) ∧ W6.heap.size = w5.heap.size + 1 ∧ ∀ b, b < w5.heap.size → b ≠ w.heap.size + 2 → W6.heap[b]? = w5.heap[b]? := by
  subst hW
  have hs5 : w.heap.size + 2 < w5.heap.size := lt_blk htree
  have hsz : (w5.setCell ⟨w.heap.size + 1 + 1, 2, none⟩ (.slice (some ⟨w5.heap.size, 0, none⟩) n c)).heap.size = w5.heap.size := by simp [World.setCell]
  have hk : ∀ b, b < w5.heap.size → b ≠ w.heap.size + 2 → ((w5.setCell ⟨w.heap.size + 1 + 1, 2, none⟩ (.slice (some ⟨w5.heap.size, 0, none⟩) n c)).alloc (Obj.cells cs 33)).heap[b]? = w5.heap[b]? := fun b hb hne =>
    (Below.heap_alloc _ _ b (by rw [hsz]; exact hb)).trans (Below.heap_setCell _ _ _ _ (fun (e : b = w.heap.size + 1 + 1) => by omega))
  refine ⟨⟨?_, (hk pl (by omega) (by omega)).trans hleft, (hk _ (by omega) (by omega)).trans hres, (hk _ (by omega) (by omega)).trans hnode, ?_⟩, ?_, ?_, hk⟩
  · have h1 := hop.setNew (k := 2) (u := .slice (some ⟨w5.heap.size, 0, none⟩) n c) (b := w.heap.size + 1 + 1) (by omega) (by omega)
    exact h1.trans (Op.made ((Below.refl _ _).alloc (Nat.le_refl _) _) (by rw [hsz]; omega))
  · refine (Below.heap_alloc _ _ _ (by rw [hsz]; omega)).trans ?_
    have := fld_set htree 2 (.slice (some ⟨w5.heap.size, 0, none⟩) n c)
    simpa using this
  · have := heap_new (w5.setCell ⟨w.heap.size + 1 + 1, 2, none⟩ (.slice (some ⟨w5.heap.size, 0, none⟩) n c)) (Obj.cells cs 33)
    rwa [hsz] at this
  · show (Array.push _ _).size = _
    rw [Array.size_push, hsz]
set_option maxRecDepth 100000 in
set_option maxHeartbeats 1600000 in
theorem of_one (f : List Nd) (k : Nat) (hk : k < f.length) (ih : ∀ j, j < k → OfOk f j) (fv : Value) (pl : Nat) (l : Int) (w : World) (hf : RdN w pl fv f) (hl : LeftAt w pl l) (h0 : 1 ≤ l) (h1 : l ≤ 100) (hkind : (nd f k).k = 3 ∨ (nd f k).k = 6 ∨ (nd f k).k = 7 ∨ (nd f k).k = 10) (ha0 : 0 ≤ (nd f k).a) (hak : (nd f k).a < k) :
    Calls Try.prog 17 #[fv, .int .i64 (k : Int), .pointer (some ⟨pl, 0, none⟩)] w fun e w' => ∃ v, e = .returned v ∧ OfPost (.n1 (nd f k).k (getW (treesL f) (nd f k).a)) k pl l w v w' := by
  obtain ⟨b, off, c, rfl, hlc, hb, hcell⟩ := hf.at_ (by omega)
  obtain ⟨c1, c2, c3⟩ := hcell k hk
  have hpl := lt_blk hl
  have hbl : b < w.heap.size := by omega
  have lc := fld_cell hl 0
  have lf := fld_frozen hl 0
  simp at lc
  have HL := Lib.hid hl
  have hneg : decide (l - 1 < 0) = false := by simp; omega
  obtain ⟨x, hx⟩ : ∃ x, nd f k = x := ⟨_, rfl⟩
  rw [hx] at c1 c2 c3
  rw [hx] at hkind ha0 hak ⊢
  obtain ⟨xk, xa, xb⟩ := x
  dsimp only at c1 c2 c3 hkind ha0 hak ⊢
  obtain ⟨xa, rfl⟩ := Int.eq_ofNat_of_zero_le ha0
  have ih1 := fun W (hb : Below pl w W) => ih xa (by omega) (.slice (some ⟨b, off, none⟩) f.length c) pl (l - 1) W (Rd.below hf hb)
  obtain ⟨T1, hT1⟩ : ∃ T1, getW (treesL f) (xa : Int) = T1 := ⟨_, rfl⟩
  rw [hT1] at ih1 ⊢
  have HIH := Lib.hid ih1
  clear ih ih1 hT1
  have e1 : (l : Int) = l := rfl
  generalize f.length = n at *
  clear hcell hf hl hx
  go_enter Try.func17, Try.ntmps17
  go_upto_region 3 with fail
  obtain ⟨W3, hW3⟩ : ∃ W3, (((w.alloc (Obj.cells #[.int .i64 0, .int .i64 0, .slice none 0 0] 33)).alloc (Obj.cells #[.int .i64 xk, .int .i64 (xa : Int), .int .i64 xb] 49)).alloc (Obj.cells #[.int .i64 xk, .int .i64 0, .slice none 0 0] 33)) = W3 := ⟨_, rfl⟩
  rw [hW3]
  have hb3 : Below w.heap.size w W3 := by rw [← hW3]; exact (((Below.refl _ _).alloc (Nat.le_refl _) _).alloc (by simp) _).alloc (by simp; omega) _
  have hl3 : LeftAt W3 pl l := (hb3.block _ hpl).trans HL.out
  have lc3 : W3.cell? ⟨pl, 0, none⟩ = some (.int .i64 l) := by have := fld_cell hl3 0; simpa using this
  have lf3 := fld_frozen hl3 0
  have hh := of_head HL.out hW3
  clear lc lf hb3 hl3 hW3
  go_upto_region 6 with fail
  obtain ⟨W4, hW4⟩ : ∃ W4, W3.setCell ⟨pl, 0, none⟩ (.int .i64 (l - 1)) = W4 := ⟨_, rfl⟩
  rw [hW4] at hh ⊢
  have ht := fun k => fld_cell hh.tree k
  have t0 := ht 0
  have t1 := ht 1
  have t2 := ht 2
  have hr := fun k => fld_cell hh.res k
  have r0 := hr 0
  have r1 := hr 1
  have r2 := hr 2
  have hf := fun k => fld_frozen hh.res k
  have f0 := hf 0
  have f1 := hf 1
  have f2 := hf 2
  have ft1 := fld_frozen hh.tree 1
  have hn := fun k => fld_cell hh.node k
  have n0 := hn 0
  have n1 := hn 1
  have s1 := lt_blk hh.res
  have s2 := lt_blk hh.tree
  have s3 := lt_blk hh.node
  simp at t0 t1 t2 r0 r1 r2 n0 n1
  have HH := Lib.hid hh
  clear ht hr hf hh hW4 lc3 lf3 hn
  have hcall := HIH.out W4 HH.out.op.below HH.out.left (by omega) (by omega)
  have HC := Lib.hid hcall
  clear hcall
  rcases hkind with rfl | rfl | rfl | rfl
  all_goals
    go_wp2_with fail
    refine HC.out.mono ?_
    rintro e w5 ⟨v1, rfl, hop, ⟨k1, s1', A1, n1', c1', rfl⟩, hd⟩
    have hres := (hop.other w.heap.size s1 (by omega)).trans HH.out.res
    have hnode := (hop.other (w.heap.size + 1) s3 (by omega)).trans HH.out.node
    have htree := (hop.other (w.heap.size + 2) s2 (by omega)).trans HH.out.tree
    have y2 := fld_cell htree 2
    have y2f := fld_frozen htree 2
    have hl5 := lt_blk htree
    simp at y2
    have HOP := Lib.hid hop
    have HD := Lib.hid hd
    have HRES := Lib.hid hres
    have HNODE := Lib.hid hnode
    have HTREE := Lib.hid htree
    clear hop hd hres hnode htree
    go_upto_region 17 with fail
    obtain ⟨W6, hW6⟩ : ∃ W6, (w5.setCell ⟨w.heap.size + 1 + 1, 2, none⟩ (.slice (some ⟨w5.heap.size, 0, none⟩) 1 1)).alloc (Obj.cells #[.int .i64 k1, .int .i64 s1', .slice A1 n1' c1'] 33) = W6 := ⟨_, rfl⟩
    rw [hW6]
    obtain ⟨l5, hl5', hdd⟩ : ∃ l5, LeftAt w5 pl l5 ∧ ((T1.size ≤ l - 1 ∧ l5 = l - 1 - T1.size ∧ Tk w5 T1 W4.heap.size w5.heap.size (.agg #[.int .i64 k1, .int .i64 s1', .slice A1 n1' c1'])) ∨ (l - 1 < T1.size ∧ l5 < 0 ∧ -((xa : Int) + 1) ≤ l5)) := by
      rcases HD.out with ⟨d1, d2, d3⟩ | ⟨d1, l', d2, d3, d4, d5⟩
      · exact ⟨_, d2, .inl ⟨d1, rfl, d3⟩⟩
      · exact ⟨l', d2, .inr ⟨d1, d3, d5 (by omega)⟩⟩
    obtain ⟨hh6, hg6, hsz6, hk6⟩ := of_kids #[.int .i64 k1, .int .i64 s1', .slice A1 n1' c1'] (HH.out.op.trans HOP.out) hpl hl5' HRES.out HNODE.out HTREE.out hW6
    have u0 := fld_cell hh6.tree 0
    have u1 := fld_cell hh6.tree 1
    have u2 := fld_cell hh6.tree 2
    have v0 := fld_cell hh6.res 0
    have v1 := fld_cell hh6.res 1
    have v2 := fld_cell hh6.res 2
    have w0 := fld_frozen hh6.res 0
    have w1 := fld_frozen hh6.res 1
    have w2 := fld_frozen hh6.res 2
    have x1 := lt_blk hh6.res
    have x2 := lt_blk hh6.tree
    simp at u0 u1 u2 v0 v1 v2
    have HH6 := Lib.hid hh6
    have HG6 := Lib.hid hg6
    have HSZ6 := Lib.hid hsz6
    have HK6 := Lib.hid hk6
    have HDD := Lib.hid hdd
    clear hh6 hW6 hg6 hsz6 hk6 hdd hl5'
    go_wp2_with fail
    obtain ⟨g1, g2, g3, g4⟩ := HH6.out.fin hpl
    refine bodyPost_ret (v := .agg #[.int .i64 _, .int .i64 0, .slice (some ⟨w5.heap.size, 0, none⟩) 1 1]) (by simp [results, Try.results17, go_sem, v0, v1, v2]; rfl) rfl ⟨_, rfl, g1, ⟨_, _, _, _, _, rfl⟩, ?_⟩
    rcases HDD.out with ⟨d1, d2, d3⟩ | ⟨d1, d2, d3⟩
    · left
      refine ⟨by simp [W.size]; omega, by rw [d2] at g2; simpa [W.size, Int.sub_sub, Int.add_comm] using g2, w5.heap.size, 1, .agg #[.int .i64 k1, .int .i64 s1', .slice A1 n1' c1'], rfl, by omega, by omega, by rw [g3, HSZ6.out]; omega, ?_, ?_⟩
      · exact ⟨_, _, _, #[.int .i64 k1, .int .i64 s1', .slice A1 n1' c1'], rfl, (g4 _ (by omega)).trans HG6.out, by simp, by simp, by simp⟩
      · refine Tk.mono _ _ _ _ _ _ (by omega) (Nat.le_refl _) (Tk.keep _ _ _ _ (fun b q1 q2 => (g4 b (by omega)).trans (HK6.out b q2 (by omega))) d3)
    · right
      exact ⟨by simp [W.size]; omega, l5, g2, d2, fun h => by omega, fun _ => by omega⟩
end Go.Proofs.Ytccknopchddicaa
