/- contract: the rule of FormAbsorbed. -/
import Derived.Test.YtccknopchddicaaGreatDoorMGl
import Derived.Test.YtccknopchddicaaGreatDoorMGx
set_option linter.unusedSimpArgs false
set_option linter.unusedVariables false
set_option linter.unnecessarySimpa false
namespace Go.Proofs.YtccknopchddicaaGreatDoor
open Go.RowKit Stile
set_option maxRecDepth 100000 in
set_option maxHeartbeats 3200000 in
theorem ab_true (pb : Addr) (Y : Nat) (y : Mt) (w0 w : World)  (x : Mt) (hx : x.has w) (h0 : w0.heap.size ≤ w.heap.size) (hc : w.cell? pb = some (.bool true)) (hy : w.cell? ⟨Y, 0, none⟩ = some (.int .i64 y.kk)) (hyS : KidS Y 0 y w) (hyh : y.has w) (hyb : ∀ g ∈ y.blks, g < w0.heap.size) (hYl : Y < w0.heap.size) :
    Calls Tryz.prog 31 #[.agg #[.int .i64 x.kk, .int .i64 x.ks, .slice x.kA x.kids.length x.kc], .pointer (some pb), .pointer (some ⟨Y, 0, none⟩)] w (ByOut (abRule true y.w) x w0 w) := by
  have hr : (abRule true y.w) x.w = some (W.n2 4 x.w (W.n2 5 x.w y.w)) := rfl
  have hcl_0 := lt_of_cell hc
  have hcl_1 := lt_of_cell hy
  have HX := Lib.hid hx
  have HR := Lib.hid hr
  have HZ := Lib.hid h0
  clear hx hr h0
  go_enter Tryz.func31, Tryz.ntmps31
  go_upto_region 2 with fail
  have hh : ByHead w ((w.alloc (Obj.cells #[.int .i64 x.kk, .int .i64 x.ks, .slice x.kA x.kids.length x.kc] 29)).alloc (Obj.cells #[.int .i64 0, .int .i64 0, .slice none 0 0] 29)) x := by_head w x
  obtain ⟨W2, hW2⟩ : ∃ W2, (w.alloc (Obj.cells #[.int .i64 x.kk, .int .i64 x.ks, .slice x.kA x.kids.length x.kc] 29)).alloc (Obj.cells #[.int .i64 0, .int .i64 0, .slice none 0 0] 29) = W2 := ⟨_, rfl⟩
  rw [hW2] at hh ⊢
  clear hW2
  have hs2 : w.heap.size + 2 ≤ W2.heap.size := lt_blk hh.res
  have hX2 : x.has W2 := HX.out.below hh.below (fun g hg => HX.out.lt g hg)
  have hcw_0 : W2.cell? pb = some (.bool true) := (hh.below.cell hcl_0).trans hc
  have hcw_1 : W2.cell? ⟨Y, 0, none⟩ = some (.int .i64 y.kk) := (hh.below.cell hcl_1).trans hy
  have hX5 : x.has W2.drew := hX2.made (Below.refl _ _).drew
  have hH5 : ByHead w W2.drew x := hh.made (Below.refl _ _).drew
  have HS0 := Lib.hid (show AllS [(w.heap.size, 0, x), (Y, 0, y)] W2.drew from ⟨box_kid hH5.box, (hyS.up hH5.below), trivial⟩)
  have HH_0 := Lib.hid hX5
  have HO_y := Lib.hid (show y.has W2.drew from hyh.made hH5.below)
  have HH5 := Lib.hid hH5
  clear hh hX2 hX5 hH5  
  have hsb : W2.heap.size ≤ W2.drew.heap.size := Nat.le_refl _
  have t1 : True := trivial
  have t2 : True := trivial
  have t3 : True := trivial
  go_region_held3 (fun w' => ((w'.cell? ⟨w.heap.size, 0, none⟩ = some (.int .i64 x.kk) ∧ w'.cell? ⟨w.heap.size, 1, none⟩ = some (.int .i64 x.ks) ∧ w'.cell? ⟨w.heap.size, 2, none⟩ = some (.slice x.kA x.kids.length x.kc)) ∧ (w'.cell? ⟨Y, 0, none⟩ = some (.int .i64 y.kk) ∧ w'.cell? ⟨Y, 1, none⟩ = some (.int .i64 y.ks) ∧ w'.cell? ⟨Y, 2, none⟩ = some (.slice y.kA y.kids.length y.kc)) ∧ True)) (first | exact HS0.out | exact HS0.out.up (up_alloc _ _) | exact HS1.out | exact HS1.out.up (up_alloc _ _) | exact HS2.out | exact HS2.out.up (up_alloc _ _) | exact HS3.out | exact AllS.set3 _ _ _ HS3.out ⟨by omega, by omega, trivial⟩) (first
          | (have _t := t1; go_at_call 17; refine Calls.mono (copy_out x _ HH_0.out) ?_; rintro e e1 ⟨cm1, rfl, hc1⟩; have HC1 := Lib.hid hc1; have HB1 := Lib.hid hc1.2.2.2; have HU1 := Lib.hid (hc1.2.2.2); have HS1 := Lib.hid (HS0.out.up hc1.2.2.2); clear hc1 t1)
          | (have _t := t2; go_at_call 16; refine Calls.mono (wmake_any _ _ _ _ _) ?_; rintro e e2 ⟨rfl, hp2⟩; have hb2 : Below (e1.alloc (mtObj2 cm1 y)).heap.size (e1.alloc (mtObj2 cm1 y)) e2 := hp2; have HB2 := Lib.hid hb2; have HU2 := Lib.hid (up_trans HU1.out (up_call hb2)); have HS2 := Lib.hid (HS1.out.up (up_call hb2)); clear hb2 hp2 t2)
          | (have _t := t3; go_at_call 16; refine Calls.mono (wmake_any _ _ _ _ _) ?_; rintro e e3 ⟨rfl, hp3⟩; have hb3 : Below (e2.alloc (mtObj2 x (Mt.n2 5 e1.heap.size 2 cm1 y))).heap.size (e2.alloc (mtObj2 x (Mt.n2 5 e1.heap.size 2 cm1 y))) e3 := hp3; have HB3 := Lib.hid hb3; have HU3 := Lib.hid (up_trans HU2.out (up_call hb3)); have HS3 := Lib.hid (HS2.out.up (up_call hb3)); obtain ⟨⟨y0, y1, y2⟩, z0, z1, z2, zl⟩ := res_at (HH5.out.made HU3.out).res; clear hb3 hp3 t3))
  all_goals
    go_wp2_with fail
    have hsz_0 : w.heap.size + 2 ≤ W2.drew.heap.size := by omega
    have s1 : Below W2.drew.heap.size W2.drew e1 := HB1.out
    have u1 : Below W2.drew.heap.size W2.drew e1 := s1
    have hsz_1 : w.heap.size + 2 ≤ e1.heap.size := Nat.le_trans hsz_0 u1.size
    have s2 : Below e1.heap.size e1 e2 := up_call HB2.out
    have u2 : Below W2.drew.heap.size W2.drew e2 := up_trans u1 s2
    have hsz_2 : w.heap.size + 2 ≤ e2.heap.size := Nat.le_trans hsz_0 u2.size
    have s3 : Below e2.heap.size e2 e3 := up_call HB3.out
    have u3 : Below W2.drew.heap.size W2.drew e3 := up_trans u2 s3
    have hsz_3 : w.heap.size + 2 ≤ e3.heap.size := Nat.le_trans hsz_0 u3.size
    obtain ⟨c1a, c1b, c1c, c1d⟩ := HC1.out
    have m2 : (Mt.n2 5 e1.heap.size 2 cm1 y).has e2 := mk2_has (W := e1) 5 c1b (HO_y.out.made u1) (up_next HB2.out)
    have f2 : Fr x (w.heap.size + 2) w0.heap.size (Mt.n2 5 e1.heap.size 2 cm1 y) := Fr.n2 hsz_1 (Fr.new c1c hsz_0) (Fr.old hyb)
    have m3 : (Mt.n2 4 e2.heap.size 2 x (Mt.n2 5 e1.heap.size 2 cm1 y)).has e3 := mk2_has (W := e2) 4 (HH_0.out.made u2) m2 (up_next HB3.out)
    have f3 : Fr x (w.heap.size + 2) w0.heap.size (Mt.n2 4 e2.heap.size 2 x (Mt.n2 5 e1.heap.size 2 cm1 y)) := Fr.n2 hsz_2 (Fr.self _ _ _) f2
    have ub : Below w.heap.size w e3 := HH5.out.below.trans (u3.mono (by omega))
    refine bodyPost_ret (v := .tuple #[(Mt.n2 4 e2.heap.size 2 x (Mt.n2 5 e1.heap.size 2 cm1 y)).val, .bool true]) (by simp [results, Tryz.results31, go_sem, y0, y1, y2]; rfl) rfl (by_fr HR.out HX.out HZ.out m3 (by simp only [Mt.w, c1a]) ub f3)
set_option maxRecDepth 100000 in
set_option maxHeartbeats 3200000 in
theorem ab_false (pb : Addr) (Y : Nat) (y : Mt) (w0 w : World)  (x : Mt) (hx : x.has w) (h0 : w0.heap.size ≤ w.heap.size) (hc : w.cell? pb = some (.bool false)) (hy : w.cell? ⟨Y, 0, none⟩ = some (.int .i64 y.kk)) (hyS : KidS Y 0 y w) (hyh : y.has w) (hyb : ∀ g ∈ y.blks, g < w0.heap.size) (hYl : Y < w0.heap.size) :
    Calls Tryz.prog 31 #[.agg #[.int .i64 x.kk, .int .i64 x.ks, .slice x.kA x.kids.length x.kc], .pointer (some pb), .pointer (some ⟨Y, 0, none⟩)] w (ByOut (abRule false y.w) x w0 w) := by
  have hr : (abRule false y.w) x.w = some (W.n2 5 x.w (W.n2 4 x.w y.w)) := rfl
  have hcl_0 := lt_of_cell hc
  have hcl_1 := lt_of_cell hy
  have HX := Lib.hid hx
  have HR := Lib.hid hr
  have HZ := Lib.hid h0
  clear hx hr h0
  go_enter Tryz.func31, Tryz.ntmps31
  go_upto_region 3 with fail
  have hh : ByHead w ((w.alloc (Obj.cells #[.int .i64 x.kk, .int .i64 x.ks, .slice x.kA x.kids.length x.kc] 29)).alloc (Obj.cells #[.int .i64 0, .int .i64 0, .slice none 0 0] 29)) x := by_head w x
  obtain ⟨W2, hW2⟩ : ∃ W2, (w.alloc (Obj.cells #[.int .i64 x.kk, .int .i64 x.ks, .slice x.kA x.kids.length x.kc] 29)).alloc (Obj.cells #[.int .i64 0, .int .i64 0, .slice none 0 0] 29) = W2 := ⟨_, rfl⟩
  rw [hW2] at hh ⊢
  clear hW2
  have hs2 : w.heap.size + 2 ≤ W2.heap.size := lt_blk hh.res
  have hX2 : x.has W2 := HX.out.below hh.below (fun g hg => HX.out.lt g hg)
  have hcw_0 : W2.cell? pb = some (.bool false) := (hh.below.cell hcl_0).trans hc
  have hcw_1 : W2.cell? ⟨Y, 0, none⟩ = some (.int .i64 y.kk) := (hh.below.cell hcl_1).trans hy
  have hX5 : x.has W2.drew := hX2.made (Below.refl _ _).drew
  have hH5 : ByHead w W2.drew x := hh.made (Below.refl _ _).drew
  have HS0 := Lib.hid (show AllS [(w.heap.size, 0, x), (Y, 0, y)] W2.drew from ⟨box_kid hH5.box, (hyS.up hH5.below), trivial⟩)
  have HH_0 := Lib.hid hX5
  have HO_y := Lib.hid (show y.has W2.drew from hyh.made hH5.below)
  have HH5 := Lib.hid hH5
  clear hh hX2 hX5 hH5  
  have hsb : W2.heap.size ≤ W2.drew.heap.size := Nat.le_refl _
  have t1 : True := trivial
  have t2 : True := trivial
  have t3 : True := trivial
  go_region_held3 (fun w' => ((w'.cell? ⟨w.heap.size, 0, none⟩ = some (.int .i64 x.kk) ∧ w'.cell? ⟨w.heap.size, 1, none⟩ = some (.int .i64 x.ks) ∧ w'.cell? ⟨w.heap.size, 2, none⟩ = some (.slice x.kA x.kids.length x.kc)) ∧ (w'.cell? ⟨Y, 0, none⟩ = some (.int .i64 y.kk) ∧ w'.cell? ⟨Y, 1, none⟩ = some (.int .i64 y.ks) ∧ w'.cell? ⟨Y, 2, none⟩ = some (.slice y.kA y.kids.length y.kc)) ∧ True)) (first | exact HS0.out | exact HS0.out.up (up_alloc _ _) | exact HS1.out | exact HS1.out.up (up_alloc _ _) | exact HS2.out | exact HS2.out.up (up_alloc _ _) | exact HS3.out | exact AllS.set3 _ _ _ HS3.out ⟨by omega, by omega, trivial⟩) (first
          | (have _t := t1; go_at_call 17; refine Calls.mono (copy_out x _ HH_0.out) ?_; rintro e e1 ⟨cm1, rfl, hc1⟩; have HC1 := Lib.hid hc1; have HB1 := Lib.hid hc1.2.2.2; have HU1 := Lib.hid (hc1.2.2.2); have HS1 := Lib.hid (HS0.out.up hc1.2.2.2); clear hc1 t1)
          | (have _t := t2; go_at_call 16; refine Calls.mono (wmake_any _ _ _ _ _) ?_; rintro e e2 ⟨rfl, hp2⟩; have hb2 : Below (e1.alloc (mtObj2 cm1 y)).heap.size (e1.alloc (mtObj2 cm1 y)) e2 := hp2; have HB2 := Lib.hid hb2; have HU2 := Lib.hid (up_trans HU1.out (up_call hb2)); have HS2 := Lib.hid (HS1.out.up (up_call hb2)); clear hb2 hp2 t2)
          | (have _t := t3; go_at_call 16; refine Calls.mono (wmake_any _ _ _ _ _) ?_; rintro e e3 ⟨rfl, hp3⟩; have hb3 : Below (e2.alloc (mtObj2 x (Mt.n2 4 e1.heap.size 2 cm1 y))).heap.size (e2.alloc (mtObj2 x (Mt.n2 4 e1.heap.size 2 cm1 y))) e3 := hp3; have HB3 := Lib.hid hb3; have HU3 := Lib.hid (up_trans HU2.out (up_call hb3)); have HS3 := Lib.hid (HS2.out.up (up_call hb3)); obtain ⟨⟨y0, y1, y2⟩, z0, z1, z2, zl⟩ := res_at (HH5.out.made HU3.out).res; clear hb3 hp3 t3))
  all_goals
    go_wp2_with fail
    have hsz_0 : w.heap.size + 2 ≤ W2.drew.heap.size := by omega
    have s1 : Below W2.drew.heap.size W2.drew e1 := HB1.out
    have u1 : Below W2.drew.heap.size W2.drew e1 := s1
    have hsz_1 : w.heap.size + 2 ≤ e1.heap.size := Nat.le_trans hsz_0 u1.size
    have s2 : Below e1.heap.size e1 e2 := up_call HB2.out
    have u2 : Below W2.drew.heap.size W2.drew e2 := up_trans u1 s2
    have hsz_2 : w.heap.size + 2 ≤ e2.heap.size := Nat.le_trans hsz_0 u2.size
    have s3 : Below e2.heap.size e2 e3 := up_call HB3.out
    have u3 : Below W2.drew.heap.size W2.drew e3 := up_trans u2 s3
    have hsz_3 : w.heap.size + 2 ≤ e3.heap.size := Nat.le_trans hsz_0 u3.size
    obtain ⟨c1a, c1b, c1c, c1d⟩ := HC1.out
    have m2 : (Mt.n2 4 e1.heap.size 2 cm1 y).has e2 := mk2_has (W := e1) 4 c1b (HO_y.out.made u1) (up_next HB2.out)
    have f2 : Fr x (w.heap.size + 2) w0.heap.size (Mt.n2 4 e1.heap.size 2 cm1 y) := Fr.n2 hsz_1 (Fr.new c1c hsz_0) (Fr.old hyb)
    have m3 : (Mt.n2 5 e2.heap.size 2 x (Mt.n2 4 e1.heap.size 2 cm1 y)).has e3 := mk2_has (W := e2) 5 (HH_0.out.made u2) m2 (up_next HB3.out)
    have f3 : Fr x (w.heap.size + 2) w0.heap.size (Mt.n2 5 e2.heap.size 2 x (Mt.n2 4 e1.heap.size 2 cm1 y)) := Fr.n2 hsz_2 (Fr.self _ _ _) f2
    have ub : Below w.heap.size w e3 := HH5.out.below.trans (u3.mono (by omega))
    refine bodyPost_ret (v := .tuple #[(Mt.n2 5 e2.heap.size 2 x (Mt.n2 4 e1.heap.size 2 cm1 y)).val, .bool true]) (by simp [results, Tryz.results31, go_sem, y0, y1, y2]; rfl) rfl (by_fr HR.out HX.out HZ.out m3 (by simp only [Mt.w, c1a]) ub f3)
end Go.Proofs.YtccknopchddicaaGreatDoor
/- contract: the rule of FormAbsorbed, whole. -/
namespace Go.Proofs.YtccknopchddicaaGreatDoor
open Go.RowKit Stile
theorem ab_by_ok {mm : Int} (both : Bool) (pb : Addr) (Y : Nat) (y : Mt) (w0 : World) (hc : w0.cell? pb = some (.bool both)) (hyS : KidS Y 0 y w0) (hyh : y.has w0) : ByOk futK mm w0 31 #[.pointer (some pb), .pointer (some ⟨Y, 0, none⟩)] (abRule both y.w) := by
  intro m w hb hm hok hsz
  have hcw : w.cell? pb = some (.bool both) := (hb.cell (lt_of_cell hc)).trans hc
  have h0 : w0.heap.size ≤ w.heap.size := hb.size
  have hS : KidS Y 0 y w := hyS.up hb
  have hh : y.has w := hyh.made hb
  have hYl : Y < w0.heap.size := lt_of_cell (p := ⟨Y, 0, none⟩) hyS.1
  have hyb : ∀ g ∈ y.blks, g < w0.heap.size := hyh.lt
  show Calls _ _ #[m.val, .pointer (some pb), .pointer (some ⟨Y, 0, none⟩)] w (ByOut (abRule both y.w) m w0 w)
  cases both
  · exact ab_false pb Y y w0 w m hm h0 hcw hS.1 hS hh hyb hYl
  · exact ab_true pb Y y w0 w m hm h0 hcw hS.1 hS hh hyb hYl
end Go.Proofs.YtccknopchddicaaGreatDoor
/- contract: the change of FormAbsorbed. -/
namespace Go.Proofs.YtccknopchddicaaGreatDoor
open Go.RowKit Stile
/-- the part that is put beside: any one of the whole's, by any number -/
def abPart (f : List Nd) (wi : Int) : W := (tree f).get ((tree f).paths.getD (pick wi (tree f).size).toNat [])
/-- the cells that the choice reads -/
def AbS (po : Nat) (sv : Value) (pn : Addr) (wi : Int) (sg J ab o : Nat) (x : Mt) (W : World) : Prop :=
  W.cell? ⟨po, 0, none⟩ = some sv ∧ W.cell? pn = some (.int .i64 wi) ∧ W.cell? ⟨sg, J, none⟩ = some (.pointer (some ⟨ab, o, none⟩)) ∧ KidS ab o x W
theorem AbS.up {po : Nat} {sv : Value} {pn : Addr} {wi : Int} {sg J ab o : Nat} {x : Mt} {w1 w2 : World} (h : AbS po sv pn wi sg J ab o x w1) (hb : Below w1.heap.size w1 w2) : AbS po sv pn wi sg J ab o x w2 :=
  ⟨cell_up h.1 hb, cell_up h.2.1 hb, cell_up h.2.2.1 hb, h.2.2.2.up hb⟩
theorem cell_set3p {W : World} {p : Addr} {b : Nat} {v u0 u1 u2 : Value} (h : W.cell? p = some v) (hb : p.block ≠ b) : (((W.setCell ⟨b, 0, none⟩ u0).setCell ⟨b, 1, none⟩ u1).setCell ⟨b, 2, none⟩ u2).cell? p = some v := by
  have e : ∀ (w1 : World) j u, (w1.setCell ⟨b, j, none⟩ u).heap[p.block]? = w1.heap[p.block]? := fun w1 j u => Below.heap_setCell w1 _ _ _ hb
  exact (World.cell?_of_block (w := W) ((e _ _ _).trans ((e _ _ _).trans (e _ _ _)))).trans h
theorem AbS.set3 {po : Nat} {sv : Value} {pn : Addr} {wi : Int} {sg J ab o b : Nat} {x : Mt} {W : World} (u0 u1 u2 : Value) (h : AbS po sv pn wi sg J ab o x W) (h1 : po ≠ b) (h2 : pn.block ≠ b) (h3 : sg ≠ b) (h4 : ab ≠ b) : AbS po sv pn wi sg J ab o x (((W.setCell ⟨b, 0, none⟩ u0).setCell ⟨b, 1, none⟩ u1).setCell ⟨b, 2, none⟩ u2) :=
  ⟨cell_set3p h.1 h1, cell_set3p h.2.1 h2, cell_set3p h.2.2.1 h3, h.2.2.2.set3 u0 u1 u2 h4⟩
theorem set3_kid {W : World} {Y : Nat} {m : Mt} {c0 c1 c2 : Value} (h : W.heap[Y]? = some (Obj.cells #[c0, c1, c2] 29)) : KidS Y 0 m (((W.setCell ⟨Y, 0, none⟩ (.int .i64 m.kk)).setCell ⟨Y, 1, none⟩ (.int .i64 m.ks)).setCell ⟨Y, 2, none⟩ (.slice m.kA m.kids.length m.kc)) := by
  have h3 := fld_set (fld_set (fld_set h 0 (.int .i64 m.kk)) 1 (.int .i64 m.ks)) 2 (.slice m.kA m.kids.length m.kc)
  exact ⟨by rw [fld_cell h3]; rfl, by rw [fld_cell h3]; rfl, by rw [fld_cell h3]; rfl⟩
set_option maxRecDepth 100000 in
set_option maxHeartbeats 3200000 in
theorem ab_change {mm : Int} (wi : Int) (both : Bool) (which : Int) (fv : Value) (f : List Nd) (pf pw pn pb : Addr) (w : World) (hf : RdN w w.heap.size fv f) (hok : okF futK mm f) (hn0 : 0 < f.length) (hn : f.length ≤ 40) (hw0 : -9223372036854775808 ≤ which) (hw1 : which ≤ 9223372036854775807)
    (hi0 : -9223372036854775808 ≤ wi) (hi1 : wi ≤ 9223372036854775807) (h1 : w.cell? pf = some fv) (h2 : w.cell? pw = some (.int .i64 which)) (h3 : w.cell? pn = some (.int .i64 wi)) (h4 : w.cell? pb = some (.bool both)) :
    Calls Tryz.prog 28 #[.pointer (some pf), .pointer (some pn), .pointer (some pw), .pointer (some pb)] w (SwapOut (swapR f which (abRule both (abPart f wi))) w) := by
  have hmf : ∀ (fn : Fn) (first cap : Array Value) (w : World), (Instr.makeFunc fn first cap).run Tryz.prog w = .ok (.func fn first cap) w := fun _ _ _ _ => rfl
  have hof := of_all futK_any f hok hn (f.length - 1) (by omega)
  have htw : getW (treesL f) ((f.length - 1 : Nat) : Int) = tree f := by unfold tree; congr 1; omega
  unfold OfOk at hof
  rw [htw] at hof
  have hsw : ∀ (W : World) (Y : Nat) (y : Mt), Below w.heap.size w W → KidS Y 0 y W → y.has W → y.w.size ≤ 100 → Calls Tryz.prog 14 #[fv, .int .i64 which, .func (.func 31) #[] #[.pointer (some pb), .pointer (some ⟨Y, 0, none⟩)]] W (SwapOut (swapR f which (abRule both y.w)) W) := fun W Y y hb hS hh hs =>
    swap_any futK_any f fv which 31 _ (abRule both y.w) W (Rd.mono (Rd.below hf hb) hb.size) hok hn0 hn hw0 hw1 (fun _ _ => rfl) (ab_by_ok both pb Y y W ((hb.cell (lt_of_cell h4)).trans h4) hS hh) (fun t u => ab_size both y.w t u hs)
  obtain ⟨P, hP⟩ : ∃ P, abPart f wi = P := ⟨_, rfl⟩
  have hPs : 100 < (tree f).size → swapR f which (abRule both P) = none := fun h => by unfold swapR; rw [if_pos h]
  unfold abPart at hP
  obtain ⟨T, hT⟩ : ∃ T, tree f = T := ⟨_, rfl⟩
  have hPP : abPart f wi = P := hP
  rw [hT] at hof hP hPs
  rw [hPP]
  have hof1 := hof fv w.heap.size 100 (w.alloc (Obj.cells #[.int .i64 100] 3)) (Rd.below hf ((Below.refl _ _).alloc (Nat.le_refl _) _)) (heap_new _ _) (by omega) (by omega)
  obtain ⟨fA, fc, rfl, hfc, hfrest⟩ := id hf
  clear hfrest hPP
  obtain ⟨n, hnl⟩ : ∃ n, f.length = n := ⟨_, rfl⟩
  rw [hnl] at hof1 hfc hn0 hn h1 hsw
  have HOF := Lib.hid hof1
  have HP := Lib.hid hP
  have HPS := Lib.hid hPs
  have HSW := Lib.hid hsw
  have l1 := lt_of_cell h1
  have l2 := lt_of_cell h2
  have l3 := lt_of_cell h3
  have l4 := lt_of_cell h4
  have hcast : ((n - 1 : Nat) : Int) = (n : Int) - 1 := by omega
  rw [hcast] at HOF
  clear hof htw hof1 hP hPs hsw hT hf hok hcast hnl h4
  go_enter Tryz.func28, Tryz.ntmps28
  go_wp2_with fail
  refine HOF.out.mono ?_
  rintro e w2 ⟨v2, rfl, hop, ⟨vk, vs, vA, vn, vc, rfl⟩, hd⟩
  have HOP := Lib.hid hop
  have HD := Lib.hid hd
  clear hop hd
  go_upto_region 3 with fail
  obtain ⟨W3, hW3⟩ : ∃ W3, w2.alloc (Obj.cells #[.int .i64 vk, .int .i64 vs, .slice vA vn vc] 29) = W3 := ⟨_, rfl⟩
  have hb3 : Below w2.heap.size w2 W3 := by rw [← hW3]; exact (Below.refl _ _).alloc (Nat.le_refl _) _
  have hr3 : W3.heap[w2.heap.size]? = some (Obj.cells #[.int .i64 vk, .int .i64 vs, .slice vA vn vc] 29) := by rw [← hW3]; exact heap_new _ _
  have hs2 : w.heap.size + 1 ≤ w2.heap.size := by have := HOP.out.below.size; simpa using this
  have hbw3 : Below w.heap.size w W3 := by
    have h1 : Below w.heap.size w (w.alloc (Obj.cells #[.int .i64 100] 3)) := (Below.refl _ _).alloc (Nat.le_refl _) _
    exact (h1.trans HOP.out.below).trans (hb3.mono (by omega))
  rw [hW3]
  clear hW3
  have hlow : ∃ l2, W3.heap[w.heap.size]? = some (Obj.cells #[.int .i64 l2] 3) ∧ ((0 ≤ l2 ∧ T.size ≤ 100 ∧ Tk w2 T (w.heap.size + 1) w2.heap.size (.agg #[.int .i64 vk, .int .i64 vs, .slice vA vn vc])) ∨ (l2 < 0 ∧ 100 < T.size)) := by
    rcases HD.out with ⟨d1, d2, d3⟩ | ⟨d1, l', d2, d3, d4, d5⟩
    · refine ⟨_, (hb3.block _ (by omega)).trans d2, .inl ⟨by omega, by omega, ?_⟩⟩
      simpa using d3
    · exact ⟨l', (hb3.block _ (by omega)).trans d2, .inr ⟨d3, by omega⟩⟩
  obtain ⟨l2', hl2, hdd⟩ := hlow
  have hlc := fld_cell hl2 0
  simp at hlc
  have hs3 : w2.heap.size < W3.heap.size := lt_blk hr3
  have HBW3 := Lib.hid hbw3
  have HB3 := Lib.hid hb3
  have HR3 := Lib.hid hr3
  have HL2 := Lib.hid hl2
  clear hbw3 hb3 hr3 hl2
  rcases hdd with ⟨hl0, hT100, htk⟩ | ⟨hl0, hT100⟩
  · have hdec : decide (l2' < 0) = false := by simp; omega
    obtain ⟨m, hmw, hmv, hmh, hmb, hmn⟩ := Mt.of_tk _ _ _ _ htk
    have HMW := Lib.hid hmw
    have HMV := Lib.hid hmv
    have HMH := Lib.hid (hmh.made HB3.out)
    clear htk hmw hmv hmh hmb hmn
    go_upto_region 6 with fail
    obtain ⟨W5, hW5⟩ : ∃ W5, W3.alloc (Obj.cells #[.slice none 0 0] 41) = W5 := ⟨_, rfl⟩
    have hb5 : Below W3.heap.size W3 W5 := by rw [← hW5]; exact (Below.refl _ _).alloc (Nat.le_refl _) _
    have hp5 : PtrAt W5 W3.heap.size (.slice none 0 0) [] := ⟨by rw [← hW5]; exact heap_new _ _, World.ownsRow_nil _ _ _ _⟩
    have hr5 : W5.heap[w2.heap.size]? = some (Obj.cells #[.int .i64 vk, .int .i64 vs, .slice vA vn vc] 29) := (hb5.block _ hs3).trans HR3.out
    rw [hW5]
    clear hW5
    have hk5 : KidAt W5 (w2.heap.size, 0).1 (w2.heap.size, 0).2 m.val := by rw [HMV.out]; exact ⟨_, _, _, _, rfl, hr5, by simp, by simp, by simp⟩
    have hm5 := HMH.out.made hb5
    have hsz : m.w.size ≤ 100 := by rw [HMW.out]; exact hT100
    have hparts := wparts_any m (w2.heap.size, 0) [] W3.heap.size _ W5 hk5 hm5 hp5 (by simp; omega)
    unfold ptrV at hparts
    dsimp only at hparts
    have HPA := Lib.hid hparts
    have HP5 := Lib.hid hp5
    have HK5 := Lib.hid hk5
    have HM5 := Lib.hid hm5
    have HB5 := Lib.hid (HBW3.out.trans (hb5.mono (by have := HBW3.out.size; omega)))
    have HSZ := Lib.hid hsz
    clear hparts hp5 hk5 hm5 hb5 hr5 hsz
    go_wp2_with fail
    refine HPA.out.mono ?_
    rintro e w6 ⟨⟨v6, rfl⟩, sv6, hp6, hf6⟩
    have hk6 := hf6.kid HP5.out HK5.out
    have hm6 := hf6.mt HP5.out HM5.out
    have hb6 : Below w.heap.size w w6 := HB5.out.trans (hf6.below.mono (by have := HBW3.out.size; omega))
    rw [List.nil_append] at hp6
    obtain ⟨N, hN⟩ : ∃ N, m.w.size = N := ⟨_, rfl⟩
    have hLN : (m.addrs (w2.heap.size, 0)).length = N := by rw [Mt.addrs_len, hN]
    have hN100 : N ≤ 100 := by rw [← hN]; exact HSZ.out
    have hN1 : 0 < N := by rw [← hN]; exact W.size_pos _
    have hpn : m.w.paths.length = N := by rw [Mt.paths_len, hN]
    have hown6 := hp6.own
    rw [hLN] at hown6
    obtain ⟨sg, sc, rfl, hsc, hsg, _⟩ := own_ptr hown6 hLN hN1
    have hac := fld_cell hp6.blk 0
    simp at hac
    have hpl6 := lt_blk hp6.blk
    have hpr := pick_range (x := wi) (n := (N : Int)) (by omega)
    obtain ⟨J, hJ⟩ : ∃ J : Nat, pick wi (N : Int) = J := ⟨(pick wi (N : Int)).toNat, by omega⟩
    have hpick := fun W => pick_any wi (N : Int) W hi0 hi1 (by omega) (by omega)
    rw [hJ] at hpr hpick
    have hJN : J < N := by omega
    have hJi0 : (0 : Int) ≤ (J : Int) := by omega
    have hJi1 : (J : Int) < (N : Int) := by omega
    obtain ⟨p, hpd⟩ : ∃ p, m.w.paths[J]'(by omega) = p := ⟨_, rfl⟩
    have hpm : p ∈ m.w.paths := by rw [← hpd]; exact List.getElem_mem _
    have hPw : P = m.w.get p := by
      rw [← HP.out, ← HMW.out, hN, hJ, ← hpd]
      simp [List.getD, show J < m.w.paths.length by omega]
    have hcell : w6.cell? ⟨sg, J, none⟩ = some (ptrV (m.addr (w2.heap.size, 0) p)) := by
      obtain ⟨g, c, e1, _, _, e2⟩ := own_ptr hown6 hLN hJN
      injection e1 with e1
      injection e1 with e1
      injection e1 with e1
      rw [e1, e2, ← hpd]
      simp [Mt.addrs, List.getD, show J < m.w.paths.length by omega]
    obtain ⟨hka, hxh, hxb, hab⟩ := Mt.at_path m (w2.heap.size, 0) p hpm hk6 hm6
    have hxw := Mt.get_w m p
    have hxs : (m.get p).w.size ≤ 100 := by rw [hxw]; have := get_size m.w p; omega
    obtain ⟨x, hx⟩ : ∃ x, m.get p = x := ⟨_, rfl⟩
    obtain ⟨⟨ab, aj⟩, ha⟩ : ∃ a, m.addr (w2.heap.size, 0) p = a := ⟨_, rfl⟩
    rw [hx] at hka hxh hxw hxs
    rw [ha] at hka hcell
    have hxP : x.w = P := by rw [hxw, hPw]
    have hgl : ab < w6.heap.size := hka.lt
    have h36 : w6.cell? pn = some (.int .i64 wi) := (hb6.cell l3).trans h3
    have hS6 : AbS W3.heap.size (.slice (some ⟨sg, 0, none⟩) N sc) pn wi sg J ab (aj * 3) x w6 := ⟨hac, h36, hcell, by rw [Nat.mul_comm]; exact kid_at hka⟩
    have hbs := hb6.size
    have HPICK := Lib.hid hpick
    have HXH := Lib.hid (hxh.made ((Below.refl _ _).drew))
    have HXS := Lib.hid hxs
    have HXP := Lib.hid hxP
    have HS0 := Lib.hid (hS6.up ((Below.refl _ _).drew))
    have HB6 := Lib.hid hb6
    have hn3 : pn.block < w6.heap.size := by omega
    have hsgl : sg < w6.heap.size := hsg
    clear hk6 hm6 hp6 hf6 hown6 hLN hac h36 hcell hka hxh hxb hab hxw hxs hxP hx ha hpm hpd hPw hS6 hpick hpr hJ hpn hN hb6 HP5 HK5 HM5 HPA HB5 hlc h3
    have t1 : True := trivial
    have t2 : True := trivial
    go_upto_region 7 with fail
    go_region_held3 (fun w' => w'.cell? ⟨W3.heap.size, 0, none⟩ = some (.slice (some ⟨sg, 0, none⟩) N sc) ∧ w'.cell? pn = some (.int .i64 wi) ∧ w'.cell? ⟨sg, J, none⟩ = some (.pointer (some ⟨ab, aj * 3, none⟩)) ∧ (w'.cell? ⟨ab, aj * 3, none⟩ = some (.int .i64 x.kk) ∧ w'.cell? ⟨ab, aj * 3 + 1, none⟩ = some (.int .i64 x.ks) ∧ w'.cell? ⟨ab, aj * 3 + 2, none⟩ = some (.slice x.kA x.kids.length x.kc)))
      (first | exact HS0.out | exact HS0.out.up (up_alloc _ _) | exact HS9.out | exact HS9.out.up (up_alloc _ _) | exact AbS.set3 _ _ _ HS9.out (by omega) (by omega) (by omega) (by omega))
      (first
        | (have _t := t1; go_at_call 18; refine Calls.mono (HPICK.out _) ?_; rintro e w8 ⟨rfl, rfl⟩; clear t1)
        | (have _t := t2; go_at_call 17; refine Calls.mono (copy_out x w6.drew HXH.out) ?_; rintro e e9 ⟨m9, rfl, hc9⟩; have HC9 := Lib.hid hc9; have HS9 := Lib.hid (HS0.out.up hc9.2.2.2); have HU9 := Lib.hid hc9.2.2.2; clear hc9 t2)
        | (have _t := t2; go_at_call 17; refine Calls.mono (copy_out x (w6.drew.alloc zObj) (HXH.out.made (up_alloc _ _))) ?_; rintro e e9 ⟨m9, rfl, hc9⟩; have HC9 := Lib.hid hc9; have HS9 := Lib.hid ((HS0.out.up (up_alloc _ zObj)).up hc9.2.2.2); have HU9 := Lib.hid (up_call hc9.2.2.2); have HY9 := Lib.hid (show e9.heap[w6.heap.size]? = some zObj from (hc9.2.2.2.block _ (by simp)).trans (heap_new w6.drew zObj)); obtain ⟨⟨y0, y1, y2⟩, z0, z1, z2, zl⟩ := res_at HY9.out; clear hc9 t2))
    all_goals
      rename_i hheld
      clear hheld
      obtain ⟨c1, c2, c3, c4⟩ := HC9.out
      have hu9 := HU9.out
      have hus := hu9.size
      have hb9 : Below w.heap.size w e9 := (HB6.out.trans ((Below.refl _ _).drew)).trans (hu9.mono hbs)
      have hus2 : w6.heap.size ≤ e9.heap.size := hus
      first
        | (have hy := HY9.out
           have hyl := lt_blk hy
           have hne : ∀ g ∈ m9.blks, g ≠ w6.heap.size := fun g hg e => by
             have h := c3 g hg
             have e2 : (w6.drew.alloc zObj).heap.size = w6.heap.size + 1 := by simp
             omega
           obtain ⟨WF, hWF⟩ : ∃ WF, ((e9.setCell ⟨w6.heap.size, 0, none⟩ (.int .i64 m9.kk)).setCell ⟨w6.heap.size, 1, none⟩ (.int .i64 m9.ks)).setCell ⟨w6.heap.size, 2, none⟩ (.slice m9.kA m9.kids.length m9.kc) = WF := ⟨_, rfl⟩
           have hk : KidS w6.heap.size 0 m9 WF := by rw [← hWF]; exact set3_kid hy
           have hm : m9.has WF := by rw [← hWF]; exact ((c2.set hne).set hne).set hne
           have hb : Below w.heap.size w WF := by rw [← hWF]; exact ((hb9.setCell hbs _).setCell hbs _).setCell hbs _
           obtain ⟨Y, hY⟩ : ∃ Y, w6.heap.size = Y := ⟨_, rfl⟩
           rw [hWF, hY]
           rw [hY] at hk
           clear hWF y0 y1 y2 z0 z1 z2 zl)
        | (obtain ⟨WF, hWF⟩ : ∃ WF, e9.alloc (Obj.cells #[.int .i64 m9.kk, .int .i64 m9.ks, .slice m9.kA m9.kids.length m9.kc] 29) = WF := ⟨_, rfl⟩
           have hk : KidS e9.heap.size 0 m9 WF := by rw [← hWF]; exact box_kid (heap_new e9 (mtObj1 m9))
           have hm : m9.has WF := by rw [← hWF]; exact c2.made (up_alloc _ _)
           have hb : Below w.heap.size w WF := by rw [← hWF]; exact hb9.alloc (by omega) _
           obtain ⟨Y, hY⟩ : ∃ Y, e9.heap.size = Y := ⟨_, rfl⟩
           rw [hWF, hY]
           rw [hY] at hk
           clear hWF)
      have hsw := HSW.out WF Y m9 hb hk hm (by rw [c1]; exact HXS.out)
      rw [c1, HXP.out] at hsw
      have h1F : WF.cell? pf = some (.slice fA n fc) := (hb.cell l1).trans h1
      have h2F : WF.cell? pw = some (.int .i64 which) := (hb.cell l2).trans h2
      have HS := Lib.hid hsw
      have HBF := Lib.hid hb
      clear hsw hb hk hm c1 c2 c3 c4 hu9 hus hb9 hus2 hY HS0 HS9 HU9 HC9 HSW HOF HP HPS HPICK
      go_wp2_with fail
      refine HS.out.mono ?_
      rintro e w9 ⟨hbz, gv, bz, rfl, hxz, hyz⟩
      have HBZ := Lib.hid hbz
      have HXZ := Lib.hid hxz
      have HYZ := Lib.hid hyz
      clear hbz hxz hyz
      go_wp2_with fail
      go_ret2
      exact ⟨HBF.out.trans (HBZ.out.mono HBF.out.size), _, _, rfl, HXZ.out, HYZ.out⟩
  · have hdec : decide (l2' < 0) = true := by simp; omega
    go_wp2_with fail
    go_ret2
    exact ⟨HBW3.out, _, _, rfl, fun _ => rfl, fun u h => by rw [HPS.out hT100] at h; cases h⟩
end Go.Proofs.YtccknopchddicaaGreatDoor
/- contract: FormAbsorbed answers true. -/
namespace Go.Proofs.YtccknopchddicaaGreatDoor
open Go.RowKit Stile
theorem abPart_ok {mm : Int} {f : List Nd} (hok : okF futK mm f) (hn0 : 0 < f.length) (wi : Int) : (abPart f wi).ok futK mm :=
  get_ok _ _ (tree_ok futK_any f hok (by intro e; rw [e] at hn0; simp at hn0))
theorem new_4 (w : World) (o0 o1 o2 o3 : Obj) : ((((w.alloc o0).alloc o1).alloc o2).alloc o3).heap[w.heap.size]? = some o0 ∧ ((((w.alloc o0).alloc o1).alloc o2).alloc o3).heap[w.heap.size + 1]? = some o1 ∧ ((((w.alloc o0).alloc o1).alloc o2).alloc o3).heap[w.heap.size + 2]? = some o2 ∧ ((((w.alloc o0).alloc o1).alloc o2).alloc o3).heap[w.heap.size + 3]? = some o3 := by
  obtain ⟨h0, h1, h2⟩ := three_new w o0 o1 o2
  have h := heap_new (((w.alloc o0).alloc o1).alloc o2) o3
  rw [show (((w.alloc o0).alloc o1).alloc o2).heap.size = w.heap.size + 3 from by simp] at h
  exact ⟨(Below.heap_alloc _ o3 _ (by simp; try omega)).trans h0, (Below.heap_alloc _ o3 _ (by simp; try omega)).trans h1, (Below.heap_alloc _ o3 _ (by simp; try omega)).trans h2, h⟩
set_option maxRecDepth 100000 in
set_option maxHeartbeats 800000 in
theorem ab_law (L which : Int) (wi : Int) (both : Bool) (fv lv : Value) (f : List Nd) (l : List Int) (w : World) (hf : RdN w w.heap.size fv f) (hl : RdI w w.heap.size lv l) (hg : ErrVar w) (hw0 : -9223372036854775808 ≤ which) (hw1 : which ≤ 9223372036854775807) (hi0 : -9223372036854775808 ≤ wi) (hi1 : wi ≤ 9223372036854775807) :
    Calls Tryz.prog 8 #[.int .i64 L, fv, lv, .int .i64 which, .int .i64 wi, .bool both] w (TrueB w) := by
  have hmf : ∀ (fn : Fn) (first cap : Array Value) (w : World), (Instr.makeFunc fn first cap).run Tryz.prog w = .ok (.func fn first cap) w := fun _ _ _ _ => rfl
  obtain ⟨fA, fc, rfl, _, _⟩ := id hf
  have H : ∀ W, Below w.heap.size w W → W.cell? ⟨w.heap.size, 0, none⟩ = some (.slice fA f.length fc) → W.cell? ⟨w.heap.size + 1, 0, none⟩ = some (.int .i64 which) → W.cell? ⟨w.heap.size + 2, 0, none⟩ = some (.int .i64 wi) → W.cell? ⟨w.heap.size + 3, 0, none⟩ = some (.bool both) →
      Calls Tryz.prog 12 #[.int .i64 L, .slice fA f.length fc, lv, .func (.func 28) #[] #[.pointer (some ⟨w.heap.size, 0, none⟩), .pointer (some ⟨w.heap.size + 2, 0, none⟩), .pointer (some ⟨w.heap.size + 1, 0, none⟩), .pointer (some ⟨w.heap.size + 3, 0, none⟩)]] W (TrueB W) := fun W hb c0 c1 c2 c3 => by
    have hfW := Rd.mono (Rd.below hf hb) hb.size
    have hlW := Rd.mono (Rd.below hl hb) hb.size
    by_cases hbad : checkP L (setsOf L) f ≠ 0 ∨ wcheckP L l ≠ 0
    · exact wform_bad L _ lv f l W _ _ hfW hlW hbad
    · have hc : checkP L (setsOf L) f = 0 := by omega
      have hw : wcheckP L l = 0 := by omega
      obtain ⟨hL, hn0, hn, hok⟩ := checkP_ok.1 hc
      obtain ⟨n, rfl⟩ := Int.eq_ofNat_of_zero_le (show 0 ≤ L by omega)
      refine wform_ok n _ lv f l W _ _ (swapR f which (abRule both (abPart f wi))) hfW hlW (ErrVar.below hg hb) hc hw (fun _ _ => rfl) (fun W2 hb2 => ?_) (fun u hu => ?_)
      · exact ab_change wi both which _ f _ _ _ _ W2 (Rd.mono (Rd.below hfW hb2) hb2.size) hok hn0 hn hw0 hw1 hi0 hi1 ((hb2.cell (lt_of_cell c0)).trans c0) ((hb2.cell (lt_of_cell c1)).trans c1) ((hb2.cell (lt_of_cell c2)).trans c2) ((hb2.cell (lt_of_cell c3)).trans c3)
      · obtain ⟨a1, a2⟩ := swapR_spec (D := fun _ => True) futK_any hok hn0 (fun t u h1 h2 => ab_spec both (abPart f wi) (abPart_ok hok hn0 wi) t u h1 h2) hu
        refine ⟨a1, fun x hx => ?_⟩
        rw [holds_eq _ f (fun i hi => ⟨futK_any _ (hok i hi).1, (hok i hi).2⟩) (by intro e; rw [e] at hn0; simp at hn0)]
        exact a2 x (fun _ _ => trivial)
  have HH := Lib.hid H
  obtain ⟨lA, lc, rfl, _, _⟩ := id hl
  clear H hf hl hg
  go_enter Tryz.func8, Tryz.ntmps8
  go_wp2_with fail
  obtain ⟨t0, t1, t2, t3⟩ := new_4 w (Obj.cells #[.slice fA f.length fc] 22) (Obj.cells #[.int .i64 which] 3) (Obj.cells #[.int .i64 wi] 3) (Obj.cells #[.bool both] 4)
  have hb : Below w.heap.size w ((((w.alloc (Obj.cells #[.slice fA f.length fc] 22)).alloc (Obj.cells #[.int .i64 which] 3)).alloc (Obj.cells #[.int .i64 wi] 3)).alloc (Obj.cells #[.bool both] 4)) := (((((Below.refl _ _).alloc (Nat.le_refl _) _).alloc (by simp) _).alloc (by simp; omega) _).alloc (by simp; omega) _)
  refine (HH.out _ hb (by rw [fld_cell t0]; rfl) (by rw [fld_cell t1]; rfl) (by rw [fld_cell t2]; rfl) (by rw [fld_cell t3]; rfl)).mono ?_
  rintro e w2 ⟨rfl, hb2⟩
  have HB := Lib.hid (hb.trans (hb2.mono hb.size))
  clear hb hb2 t0 t1 t2 t3
  go_wp2_with fail
  go_ret
  exact ⟨rfl, HB.out⟩
end Go.Proofs.YtccknopchddicaaGreatDoor
