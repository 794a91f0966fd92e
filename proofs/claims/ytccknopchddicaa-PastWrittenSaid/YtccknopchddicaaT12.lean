/- contract: the rule of PastWritten. -/
import Derived.Test.YtccknopchddicaaT11
import Derived.Test.YtccknopchddicaaB5
import Derived.Test.YtccknopchddicaaP5
import Derived.Deep.RegionHeld3
import Derived.Deep.DeepCutAuto
namespace Go.Proofs.Ytccknopchddicaa
open Go.RowKit Stile
def mtObj1 (x : Mt) : Obj := Obj.cells #[.int .i64 x.kk, .int .i64 x.ks, .slice x.kA x.kids.length x.kc] 33
def mtObj2 (x y : Mt) : Obj := Obj.cells #[.int .i64 x.kk, .int .i64 x.ks, .slice x.kA x.kids.length x.kc, .int .i64 y.kk, .int .i64 y.ks, .slice y.kA y.kids.length y.kc] 33
theorem mk1_has {W W' : World} {x : Mt} (k : Int) (hx : x.has W) (hb : Below (W.heap.size + 1) (W.alloc (mtObj1 x)) W') : (Mt.n1 k W.heap.size 1 x).has W' := by
  have h1 : Below W.heap.size W (W.alloc (mtObj1 x)) := (Below.refl _ _).alloc (Nat.le_refl _) _
  have hW' := h1.trans (hb.mono (by omega))
  have hg : W'.heap[W.heap.size]? = some (mtObj1 x) := (hb.block _ (by omega)).trans (heap_new _ _)
  exact ⟨Nat.le_refl _, ⟨_, _, _, _, rfl, hg, by simp, by simp, by simp⟩, hx.made hW'⟩
theorem mk2_has {W W' : World} {x y : Mt} (k : Int) (hx : x.has W) (hy : y.has W) (hb : Below (W.heap.size + 1) (W.alloc (mtObj2 x y)) W') : (Mt.n2 k W.heap.size 2 x y).has W' := by
  have h1 : Below W.heap.size W (W.alloc (mtObj2 x y)) := (Below.refl _ _).alloc (Nat.le_refl _) _
  have hW' := h1.trans (hb.mono (by omega))
  have hg : W'.heap[W.heap.size]? = some (mtObj2 x y) := (hb.block _ (by omega)).trans (heap_new _ _)
  exact ⟨Nat.le_refl _, ⟨_, _, _, _, rfl, hg, by simp, by simp, by simp⟩, ⟨_, _, _, _, rfl, hg, by simp, by simp, by simp⟩, hx.made hW', hy.made hW'⟩
/-- the two blocks at the head of a rule: the part, and the result -/
structure ByHead (w W : World) (x : Mt) : Prop where
  below : Below w.heap.size w W
  box : W.heap[w.heap.size]? = some (mtObj1 x)
  res : W.heap[w.heap.size + 1]? = some (Obj.cells #[.int .i64 0, .int .i64 0, .slice none 0 0] 33)
theorem ByHead.made {w W W' : World} {x : Mt} (h : ByHead w W x) (hb : Below W.heap.size W W') : ByHead w W' x :=
  ⟨h.below.trans (hb.mono h.below.size), (hb.block _ (lt_blk h.box)).trans h.box, (hb.block _ (lt_blk h.res)).trans h.res⟩
theorem by_head (w : World) (x : Mt) : ByHead w ((w.alloc (Obj.cells #[.int .i64 x.kk, .int .i64 x.ks, .slice x.kA x.kids.length x.kc] 33)).alloc (Obj.cells #[.int .i64 0, .int .i64 0, .slice none 0 0] 33)) x :=
  ⟨((Below.refl _ _).alloc (Nat.le_refl _) _).alloc (by simp) _, heap_old2 _ _ _, heap_new2 _ _ _⟩
theorem cell_up {w1 w2 : World} {a : Addr} {v : Value} (h : w1.cell? a = some v) (hb : Below w1.heap.size w1 w2) : w2.cell? a = some v := (hb.cell (lt_of_cell h)).trans h
theorem up_alloc (w1 : World) (o : Obj) : Below w1.heap.size w1 (w1.alloc o) := (Below.refl _ _).alloc (Nat.le_refl _) _
def BoxS (X : Nat) (x : Mt) (W : World) : Prop := W.cell? ⟨X, 0, none⟩ = some (.int .i64 x.kk) ∧ W.cell? ⟨X, 1, none⟩ = some (.int .i64 x.ks) ∧ W.cell? ⟨X, 2, none⟩ = some (.slice x.kA x.kids.length x.kc)
theorem BoxS.up {X : Nat} {x : Mt} {w1 w2 : World} (h : BoxS X x w1) (hb : Below w1.heap.size w1 w2) : BoxS X x w2 := ⟨cell_up h.1 hb, cell_up h.2.1 hb, cell_up h.2.2 hb⟩
theorem cell_set3 {W : World} {X b k : Nat} {v u0 u1 u2 : Value} (h : W.cell? ⟨X, k, none⟩ = some v) (hb : X ≠ b) : (((W.setCell ⟨b, 0, none⟩ u0).setCell ⟨b, 1, none⟩ u1).setCell ⟨b, 2, none⟩ u2).cell? ⟨X, k, none⟩ = some v := by
  have e : ∀ (w1 : World) j u, (w1.setCell ⟨b, j, none⟩ u).heap[X]? = w1.heap[X]? := fun w1 j u => Below.heap_setCell w1 _ _ _ hb
  exact (World.cell?_of_block (w := W) ((e _ _ _).trans ((e _ _ _).trans (e _ _ _)))).trans h
theorem BoxS.set3 {X b : Nat} {x : Mt} {W : World} (u0 u1 u2 : Value) (h : BoxS X x W) (hb : X ≠ b) : BoxS X x (((W.setCell ⟨b, 0, none⟩ u0).setCell ⟨b, 1, none⟩ u1).setCell ⟨b, 2, none⟩ u2) := ⟨cell_set3 h.1 hb, cell_set3 h.2.1 hb, cell_set3 h.2.2 hb⟩
theorem box_at {w : World} {X : Nat} {x : Mt} (h : w.heap[X]? = some (mtObj1 x)) : BoxS X x w := ⟨by have := fld_cell h 0; simpa using this, by have := fld_cell h 1; simpa using this, by have := fld_cell h 2; simpa using this⟩
/-- the result's block, as a store finds it -/
def ResS (X : Nat) (W : World) : Prop := (W.cell? ⟨X, 0, none⟩ = some (.int .i64 0) ∧ W.cell? ⟨X, 1, none⟩ = some (.int .i64 0) ∧ W.cell? ⟨X, 2, none⟩ = some (.slice none 0 0)) ∧ W.frozen? ⟨X, 0, none⟩ = false ∧ W.frozen? ⟨X, 1, none⟩ = false ∧ W.frozen? ⟨X, 2, none⟩ = false ∧ X < W.heap.size
theorem res_at {w : World} {X : Nat} (h : w.heap[X]? = some (Obj.cells #[.int .i64 0, .int .i64 0, .slice none 0 0] 33)) : ResS X w :=
  ⟨⟨by have := fld_cell h 0; simpa using this, by have := fld_cell h 1; simpa using this, by have := fld_cell h 2; simpa using this⟩, fld_frozen h 0, fld_frozen h 1, fld_frozen h 2, lt_blk h⟩
/-- what wCopy leaves -/
def CopyOut (x : Mt) (W : World) (m9 : Mt) (w' : World) : Prop := m9.w = x.w ∧ m9.has w' ∧ (∀ g ∈ m9.blks, W.heap.size ≤ g) ∧ Below W.heap.size W w'
theorem copy_out (x : Mt) (W : World) (hx : x.has W) : Calls Try.prog 10 #[.agg #[.int .i64 x.kk, .int .i64 x.ks, .slice x.kA x.kids.length x.kc]] W fun e w' => ∃ m9 : Mt, e = .returned (.agg #[.int .i64 m9.kk, .int .i64 m9.ks, .slice m9.kA m9.kids.length m9.kc]) ∧ CopyOut x W m9 w' :=
  (copy_any x W hx).mono fun e w' ⟨h1, m9, h2, h3, h4, h5⟩ => ⟨m9, h2, h3, h4, h5, h1⟩
/-- what a rule owes -/
def ByOut (byT : W → Option W) (m : Mt) (w0 w : World) (e : Ending) (w' : World) : Prop :=
  Below w.heap.size w w' ∧ ∃ m' : Mt, e = .returned (.tuple #[m'.val, .bool (byT m.w).isSome]) ∧
      ∀ u, byT m.w = some u → m'.w = u ∧ m'.has w' ∧ ∀ g ∈ m'.blks, g ∈ m.blks ∨ w.heap.size ≤ g ∨ g < w0.heap.size
theorem by_out {byT : W → Option W} {x m' : Mt} {w0 w W : World} {u0 u1 u2 : Value} {t : Stile.W} (hr : byT x.w = some t) (hx : x.has w) (hm : m'.has W) (hw : m'.w = t) (hb : Below w.heap.size w W) (hk : ∀ g ∈ m'.blks, g ∈ x.blks ∨ w.heap.size + 2 ≤ g) :
    ByOut byT x w0 w (.returned (.tuple #[m'.val, .bool true])) (((W.setCell ⟨w.heap.size + 1, 0, none⟩ u0).setCell ⟨w.heap.size + 1, 1, none⟩ u1).setCell ⟨w.heap.size + 1, 2, none⟩ u2) := by
  have hne : ∀ g ∈ m'.blks, g ≠ w.heap.size + 1 := fun g hg e => by
    rcases hk g hg with h | h
    · have := hx.lt g h; omega
    · omega
  refine ⟨((hb.setCell (by simp) _).setCell (by simp) _).setCell (by simp) _, m', by rw [hr]; rfl, fun u hu => ?_⟩
  rw [hr] at hu
  injection hu with hu
  refine ⟨hw.trans hu, ((hm.set hne).set hne).set hne, fun g hg => ?_⟩
  rcases hk g hg with h | h
  · exact .inl h
  · exact .inr (.inl (by omega))
set_option maxRecDepth 100000 in
set_option maxHeartbeats 1600000 in
theorem past_by3 (how : Int) (ph : Addr) (w0 w : World) (x : Mt) (hx : x.has w) (hc : w.cell? ph = some (.int .i64 how)) (h0 : -9223372036854775808 ≤ how) (h1 : how ≤ 9223372036854775807) (hk : pick how 5 = 3) :
    Calls Try.prog 7 #[.agg #[.int .i64 x.kk, .int .i64 x.ks, .slice x.kA x.kids.length x.kc], .pointer (some ph)] w (ByOut (pastRule how) x w0 w) := by
  have hp := fun W => pick_any how 5 W h0 h1 (by omega) (by omega)
  rw [hk] at hp
  have hr : pastRule how x.w = some (.n2 4 x.w x.w) := by unfold pastRule; rw [hk]; rfl
  have hcl := lt_of_cell hc
  have HP := Lib.hid hp
  have HX := Lib.hid hx
  have HR := Lib.hid hr
  clear hp hx hr hk
  go_enter Try.func7, Try.ntmps7
  go_wp2_with fail
  refine (HP.out _).mono ?_
  rintro e w1 ⟨rfl, rfl⟩
  go_upto_region 8 with fail
  have hh := by_head w x
  obtain ⟨W2, hW2⟩ : ∃ W2, (w.alloc (Obj.cells #[.int .i64 x.kk, .int .i64 x.ks, .slice x.kA x.kids.length x.kc] 33)).alloc (Obj.cells #[.int .i64 0, .int .i64 0, .slice none 0 0] 33) = W2 := ⟨_, rfl⟩
  rw [hW2] at hh ⊢
  clear hW2
  have hH0 : ByHead w W2.drew x := hh.made (Below.refl _ _).drew
  have hX0 : x.has W2.drew := HX.out.below hH0.below (fun g hg => HX.out.lt g hg)
  have hS0 : (W2.drew.cell? ⟨w.heap.size, 0, none⟩ = some (.int .i64 x.kk) ∧ W2.drew.cell? ⟨w.heap.size, 1, none⟩ = some (.int .i64 x.ks) ∧ W2.drew.cell? ⟨w.heap.size, 2, none⟩ = some (.slice x.kA x.kids.length x.kc)) := box_at hH0.box
  have HH0 := Lib.hid hH0
  have HX0 := Lib.hid hX0
  clear hh hH0 hX0
  go_region_held3 (fun w' => (w'.cell? ⟨w.heap.size, 0, none⟩ = some (.int .i64 x.kk) ∧ w'.cell? ⟨w.heap.size, 1, none⟩ = some (.int .i64 x.ks) ∧ w'.cell? ⟨w.heap.size, 2, none⟩ = some (.slice x.kA x.kids.length x.kc))) (first | assumption | exact hS9 | exact hS9a | exact hS10 | exact BoxS.set3 _ _ _ hS10 (by omega))
    (first
      | (go_at_call 10; refine Calls.mono (copy_out x _ HX0.out) ?_; rintro e w9 ⟨m9, rfl, hc9⟩; have hS9 := (box_at HH0.out.box).up hc9.2.2.2; have hS9a := hS9.up (up_alloc w9 (mtObj2 x m9)); have HC9 := Lib.hid hc9; clear hc9)
      | (go_at_call 9; refine Calls.mono (wmake_any _ _ _ _ _) ?_; rintro e w10 ⟨rfl, hb10⟩; have hS10 := hS9a.up hb10; obtain ⟨⟨y0, y1, y2⟩, z0, z1, z2, zl⟩ := res_at ((HH0.out.made HC9.out.2.2.2).made (up_alloc w9 (mtObj2 x m9)) |>.made hb10).res; have HB10 := Lib.hid hb10; clear hb10))
  all_goals
    clear hS9 hS9a hS10 hS0
    go_wp2_with fail
    obtain ⟨hb10, hc9, hh0, hx0, hx⟩ : _ ∧ _ ∧ _ ∧ _ ∧ _ := ⟨HB10.out, HC9.out, HH0.out, HX0.out, HX.out⟩
    obtain ⟨e1, e2, e3, e4⟩ := hc9
    have hs2 : w.heap.size + 2 ≤ W2.drew.heap.size := lt_blk hh0.res
    have hs9 := e4.size
    have hw9 := hh0.below.trans (e4.mono hh0.below.size)
    refine bodyPost_ret (v := .tuple #[(Mt.n2 4 w9.heap.size 2 x m9).val, .bool true]) (by simp [results, Try.results7, go_sem, y0, y1, y2]; rfl) rfl (by_out HR.out hx (mk2_has (W := w9) 4 (hx0.made e4) e2 (by have h := hb10; simpa [mtObj2] using h)) (by simp [Mt.w, e1]) ?_ ?_)
    · exact (hw9.trans ((up_alloc w9 _).mono hw9.size)).trans (hb10.mono (by simp; omega))
    · intro g hg
      simp [Mt.blks] at hg
      rcases hg with rfl | hg | hg
      · exact .inr (by omega)
      · exact .inl hg
      · exact .inr (by have := e3 g hg; omega)
set_option maxRecDepth 100000 in
set_option maxHeartbeats 1600000 in
theorem past_by4 (how : Int) (ph : Addr) (w0 w : World) (x : Mt) (hx : x.has w) (hc : w.cell? ph = some (.int .i64 how)) (h0 : -9223372036854775808 ≤ how) (h1 : how ≤ 9223372036854775807) (hk : pick how 5 = 4) :
    Calls Try.prog 7 #[.agg #[.int .i64 x.kk, .int .i64 x.ks, .slice x.kA x.kids.length x.kc], .pointer (some ph)] w (ByOut (pastRule how) x w0 w) := by
  have hp := fun W => pick_any how 5 W h0 h1 (by omega) (by omega)
  rw [hk] at hp
  have hr : pastRule how x.w = some (.n2 5 x.w (.n0 1 0)) := by unfold pastRule; rw [hk]; rfl
  have hcl := lt_of_cell hc
  have HP := Lib.hid hp
  have HX := Lib.hid hx
  have HR := Lib.hid hr
  clear hp hx hr hk
  go_enter Try.func7, Try.ntmps7
  go_wp2_with fail
  refine (HP.out _).mono ?_
  rintro e w1 ⟨rfl, rfl⟩
  go_upto_region 9 with fail
  have hh := by_head w x
  obtain ⟨W2, hW2⟩ : ∃ W2, (w.alloc (Obj.cells #[.int .i64 x.kk, .int .i64 x.ks, .slice x.kA x.kids.length x.kc] 33)).alloc (Obj.cells #[.int .i64 0, .int .i64 0, .slice none 0 0] 33) = W2 := ⟨_, rfl⟩
  rw [hW2] at hh ⊢
  clear hW2
  have hH0 : ByHead w W2.drew x := hh.made (Below.refl _ _).drew
  have hX0 : x.has W2.drew := HX.out.below hH0.below (fun g hg => HX.out.lt g hg)
  have hS0 : (W2.drew.cell? ⟨w.heap.size, 0, none⟩ = some (.int .i64 x.kk) ∧ W2.drew.cell? ⟨w.heap.size, 1, none⟩ = some (.int .i64 x.ks) ∧ W2.drew.cell? ⟨w.heap.size, 2, none⟩ = some (.slice x.kA x.kids.length x.kc)) := box_at hH0.box
  have HH0 := Lib.hid hH0
  have HX0 := Lib.hid hX0
  clear hh hH0 hX0
  go_region_held3 (fun w' => (w'.cell? ⟨w.heap.size, 0, none⟩ = some (.int .i64 x.kk) ∧ w'.cell? ⟨w.heap.size, 1, none⟩ = some (.int .i64 x.ks) ∧ w'.cell? ⟨w.heap.size, 2, none⟩ = some (.slice x.kA x.kids.length x.kc))) (first | assumption | exact hS9 | exact hS9a | exact hS10 | exact BoxS.set3 _ _ _ hS10 (by omega))
    (first
      | (go_at_call_of 9 (Value.int .i64 1); refine Calls.mono (wmake_any _ _ _ _ _) ?_; rintro e w9 ⟨rfl, hb9⟩; have hS9 := (box_at HH0.out.box).up hb9; have hS9a := hS9.up (up_alloc w9 (mtObj2 x (.n0 1 0))); have HB9 := Lib.hid hb9; clear hb9)
      | (go_at_call_of 9 (Value.int .i64 5); refine Calls.mono (wmake_any _ _ _ _ _) ?_; rintro e w10 ⟨rfl, hb10⟩; have hS10 := hS9a.up hb10; obtain ⟨⟨y0, y1, y2⟩, z0, z1, z2, zl⟩ := res_at ((HH0.out.made HB9.out).made (up_alloc w9 (mtObj2 x (.n0 1 0))) |>.made hb10).res; have HB10 := Lib.hid hb10; clear hb10))
  all_goals
    clear hS9 hS9a hS10 hS0
    go_wp2_with fail
    obtain ⟨hb10, e4, hh0, hx0, hx⟩ : _ ∧ _ ∧ _ ∧ _ ∧ _ := ⟨HB10.out, HB9.out, HH0.out, HX0.out, HX.out⟩
    have hs2 : w.heap.size + 2 ≤ W2.drew.heap.size := lt_blk hh0.res
    have hs9 := e4.size
    have hw9 := hh0.below.trans (e4.mono hh0.below.size)
    refine bodyPost_ret (v := .tuple #[(Mt.n2 5 w9.heap.size 2 x (.n0 1 0)).val, .bool true]) (by simp [results, Try.results7, go_sem, y0, y1, y2]; rfl) rfl (by_out HR.out hx (mk2_has (W := w9) (y := .n0 1 0) 5 (hx0.made e4) trivial (by have h := hb10; simpa [mtObj2, Mt.kk, Mt.ks, Mt.kA, Mt.kids, Mt.kc] using h)) (by simp [Mt.w]) ?_ ?_)
    · exact (hw9.trans ((up_alloc w9 _).mono hw9.size)).trans (hb10.mono (by simp; omega))
    · intro g hg
      simp [Mt.blks] at hg
      rcases hg with rfl | hg
      · exact .inr (by omega)
      · exact .inl hg
set_option maxRecDepth 100000 in
set_option maxHeartbeats 1600000 in
theorem past_by2 (how : Int) (ph : Addr) (w0 w : World) (x : Mt) (hx : x.has w) (hc : w.cell? ph = some (.int .i64 how)) (h0 : -9223372036854775808 ≤ how) (h1 : how ≤ 9223372036854775807) (hk : pick how 5 = 2 ∨ ((pick how 5 = 0 ∨ pick how 5 = 1) ∧ x.kk ≠ 11)) :
    Calls Try.prog 7 #[.agg #[.int .i64 x.kk, .int .i64 x.ks, .slice x.kA x.kids.length x.kc], .pointer (some ph)] w (ByOut (pastRule how) x w0 w) := by
  have hp := fun W => pick_any how 5 W h0 h1 (by omega) (by omega)
  have hr : pastRule how x.w = some (.n1 3 (.n1 3 x.w)) := by
    unfold pastRule
    rcases hk with e | ⟨e | e, hn⟩ <;> rw [e]
    · rfl
    all_goals
      cases x with
      | n0 k s => rfl
      | n1 k g c a => rfl
      | n2 k g c a b =>
        simp [Mt.kk] at hn
        simp [Mt.w, hn]
  have hcl := lt_of_cell hc
  obtain ⟨X0, hX0⟩ : ∃ k, x.kk = k := ⟨_, rfl⟩
  have hkb : pick how 5 = 2 ∨ ((pick how 5 = 0 ∨ pick how 5 = 1) ∧ (X0 == 11) = false) := by rw [← hX0]; simpa using hk
  rw [hX0]
  have HP := Lib.hid hp
  have HX := Lib.hid hx
  have HR := Lib.hid hr
  have HX0 := Lib.hid hX0
  clear hp hx hr hk hX0
  have hkey : ∃ (j : Int) (b : Bool), pick how 5 = j ∧ 0 ≤ j ∧ j ≤ 2 ∧ decide (j < 2) = b ∧ (b = true → (X0 == 11) = false) := by
    rcases hkb with e | ⟨e | e, hn⟩
    · exact ⟨2, false, e, by omega, by omega, rfl, fun h => by cases h⟩
    · exact ⟨0, true, e, by omega, by omega, rfl, fun _ => hn⟩
    · exact ⟨1, true, e, by omega, by omega, rfl, fun _ => hn⟩
  obtain ⟨j, b, hj, hj0, hj2, hjb, hbn⟩ := hkey
  rw [hj] at HP
  clear hkb hj
  cases b
  all_goals
    first | (have hn : (X0 == 11) = false := hbn rfl) | skip
    clear hbn
    go_enter Try.func7, Try.ntmps7
    go_wp2_with fail
    refine (HP.out _).mono ?_
    rintro e w1 ⟨rfl, rfl⟩
    go_upto_region 6 with fail
    have hh := by_head w x
    rw [HX0.out] at hh
    obtain ⟨W2, hW2⟩ : ∃ W2, (w.alloc (Obj.cells #[.int .i64 X0, .int .i64 x.ks, .slice x.kA x.kids.length x.kc] 33)).alloc (Obj.cells #[.int .i64 0, .int .i64 0, .slice none 0 0] 33) = W2 := ⟨_, rfl⟩
    rw [hW2] at hh ⊢
    clear hW2
    have hX0 : x.has W2 := HX.out.below hh.below (fun g hg => HX.out.lt g hg)
    obtain ⟨q0, q1, q2⟩ := box_at hh.box
    rw [HX0.out] at q0
    have HH0 := Lib.hid hh
    have HXX := Lib.hid hX0
    have hs2 : w.heap.size + 2 ≤ W2.heap.size := lt_blk hh.res
    clear hh hX0
    have tok : True := trivial
    go_wp2_with (first
      | (have _t := tok; go_at_call 9; refine Calls.mono (wmake_any _ _ _ _ _) ?_; rintro e w9 ⟨rfl, hb9⟩; have hl9 := hb9.size; have HB9 := Lib.hid hb9; clear hb9 tok)
      | (go_at_call 9; refine Calls.mono (wmake_any _ _ _ _ _) ?_; rintro e w10 ⟨rfl, hb10⟩; obtain ⟨⟨y0, y1, y2⟩, z0, z1, z2, zl⟩ := res_at (((HH0.out.made (up_alloc W2 _)).made HB9.out).made (up_alloc w9 _) |>.made hb10).res; have HB10 := Lib.hid hb10; clear hb10))
    obtain ⟨hb10, hb9, hh0, hx0, hx⟩ : _ ∧ _ ∧ _ ∧ _ ∧ _ := ⟨HB10.out, HB9.out, HH0.out, HXX.out, HX.out⟩
    have hz9 : W2.heap.size + 1 ≤ w9.heap.size := by simpa using hl9
    have hh9 : (Mt.n1 3 W2.heap.size 1 x).has w9 := mk1_has (W := W2) 3 hx0 (by rw [mtObj1, HX0.out]; simpa using hb9)
    refine bodyPost_ret (v := .tuple #[(Mt.n1 3 w9.heap.size 1 (.n1 3 W2.heap.size 1 x)).val, .bool true]) (by simp [results, Try.results7, go_sem, y0, y1, y2]; rfl) rfl (by_out HR.out hx (mk1_has (W := w9) 3 hh9 (by simpa [mtObj1, Mt.kk, Mt.ks, Mt.kA, Mt.kids, Mt.kc] using hb10)) (by simp [Mt.w]) ?_ ?_)
    · exact (((hh0.below.trans ((up_alloc W2 _).mono hh0.below.size)).trans (hb9.mono (by simp; omega))).trans ((up_alloc w9 _).mono (by omega))).trans (hb10.mono (by simp; omega))
    · intro g hg
      simp [Mt.blks] at hg
      rcases hg with rfl | rfl | hg
      · exact .inr (by omega)
      · exact .inr (by omega)
      · exact .inl hg
end Go.Proofs.Ytccknopchddicaa
