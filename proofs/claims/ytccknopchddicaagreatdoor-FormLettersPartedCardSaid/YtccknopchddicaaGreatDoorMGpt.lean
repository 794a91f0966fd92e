/- contract: the rule of FormLettersParted, by the others. -/
import Derived.Test.YtccknopchddicaaGreatDoorMGx
import Derived.Test.YtccknopchddicaaGreatDoorMM1
import Derived.Test.YtccknopchddicaaGreatDoorMW1
set_option linter.unusedSimpArgs false
set_option linter.unusedVariables false
set_option linter.unnecessarySimpa false
namespace Go.Proofs.YtccknopchddicaaGreatDoor
open Go.RowKit Stile
theorem cell_setp {W : World} {p : Addr} {v u : Value} {b k : Nat} (h : W.cell? p = some v) (hb : p.block ≠ b) : (W.setCell ⟨b, k, none⟩ u).cell? p = some v :=
  (World.cell?_of_block (w := W) (Below.heap_setCell W _ _ _ hb)).trans h
theorem n1_at {W : World} {g : Nat} {k : Int} {x : Mt} (h : W.heap[g]? = some (mtObj1 x)) (hx : x.has W) : (Mt.n1 k g 1 x).has W :=
  ⟨Nat.le_refl _, ⟨_, _, _, _, rfl, h, by simp, by simp, by simp⟩, hx⟩
/-- the two boxes of the sets -/
theorem pt_boxes (W : World) (x : Mt) : Below W.heap.size W ((W.alloc (mtObj1 x)).alloc (mtObj1 x)).drew ∧ ((W.alloc (mtObj1 x)).alloc (mtObj1 x)).drew.heap[W.heap.size]? = some (mtObj1 x) ∧ ((W.alloc (mtObj1 x)).alloc (mtObj1 x)).drew.heap[W.heap.size + 1]? = some (mtObj1 x) :=
  ⟨((up_alloc W _).alloc (by simp) _).drew, heap_old2 _ _ _, heap_new2 _ _ _⟩
set_option maxRecDepth 100000 in
set_option maxHeartbeats 3200000 in
theorem pt_others (gi fi : Int → Int) (L cut M s : Int) (po pl pc : Addr) (w0 w : World) (h0 : w0.heap.size ≤ w.heap.size) (hc : w.cell? po = some (.bool true)) (hl : w.cell? pl = some (.int .i64 L)) (hcut : w.cell? pc = some (.int .i64 cut))
    (hL0 : 0 ≤ L) (hL6 : L ≤ 6) (hM : IntKind.i64.wrap (2 ^ L.toNat) = M) (hM1 : IntKind.i64.wrap (M - 1) = M - 1) (hM2 : IntKind.i64.wrap (M - 1 - s) = M - 1 - s) :
    Calls Tryz.prog 37 #[.agg #[.int .i64 2, .int .i64 s, .slice none 0 0], .pointer (some po), .pointer (some pl), .pointer (some pc)] w (ByOut (ptRule (M - 1) fi gi true) (Mt.n0 2 s) w0 w) := by
  have hr : ptRule (M - 1) fi gi true (Mt.n0 2 s).w = some (W.n2 4 anyW (.n1 3 (.n0 2 (M - 1 - s)))) := rfl
  have hx : (Mt.n0 2 s).has w := trivial
  have l0 := lt_of_cell hc
  have l1 := lt_of_cell hl
  have HX := Lib.hid hx
  have HR := Lib.hid hr
  have HZ := Lib.hid h0
  clear hx hr h0
  go_enter Tryz.func37, Tryz.ntmps37
  go_upto_region 3 with fail
  have hh : ByHead w ((w.alloc (Obj.cells #[.int .i64 2, .int .i64 s, .slice none 0 0] 29)).alloc (Obj.cells #[.int .i64 0, .int .i64 0, .slice none 0 0] 29)) (Mt.n0 2 s) := by_head w (Mt.n0 2 s)
  obtain ⟨W2, hW2⟩ : ∃ W2, (w.alloc (Obj.cells #[.int .i64 2, .int .i64 s, .slice none 0 0] 29)).alloc (Obj.cells #[.int .i64 0, .int .i64 0, .slice none 0 0] 29) = W2 := ⟨_, rfl⟩
  rw [hW2] at hh ⊢
  clear hW2
  have hs2 : w.heap.size + 2 ≤ W2.heap.size := lt_blk hh.res
  have HS0 := Lib.hid (show AllS [(w.heap.size, 0, (Mt.n0 2 s))] W2 from ⟨box_kid hh.box, trivial⟩)
  have HHD := Lib.hid hh
  clear hh
  go_region_held3 (fun w' => ((w'.cell? ⟨w.heap.size, 0, none⟩ = some (.int .i64 2) ∧ w'.cell? ⟨w.heap.size, 1, none⟩ = some (.int .i64 s) ∧ w'.cell? ⟨w.heap.size, 2, none⟩ = some (.slice none 0 0)) ∧ True))
    (first | exact HS0.out.draw | exact HS0.out.up ((up_alloc _ _).drew) | exact (HS0.out.up (up_alloc _ _)).up ((up_alloc _ _).drew) | exact HS0.out | exact HS0.out.up (up_alloc _ _) | exact (HS0.out.up (up_alloc _ _)).up (up_alloc _ _)) (fail)
  all_goals
    rename_i hheld
    clear hheld
    obtain ⟨hU, hbA, hbB⟩ := pt_boxes W2 (Mt.n0 2 s)
    obtain ⟨W3, hW3⟩ : ∃ W3, ((W2.alloc (Obj.cells #[.int .i64 2, .int .i64 s, .slice none 0 0] 29)).alloc (Obj.cells #[.int .i64 2, .int .i64 s, .slice none 0 0] 29)).drew = W3 := ⟨_, rfl⟩
    have e3 : ((W2.alloc (mtObj1 (Mt.n0 2 s))).alloc (mtObj1 (Mt.n0 2 s))).drew = W3 := hW3
    rw [e3] at hU hbA hbB
    rw [hW3]
    clear hW3 e3
    have hsz3 : W2.heap.size + 2 ≤ W3.heap.size := lt_blk hbB
    have hh : ByHead w W3 (Mt.n0 2 s) := HHD.out.made hU
    have hcx : W3.cell? po = some (.bool true) := (hh.below.cell l0).trans hc
    have hlx : W3.cell? pl = some (.int .i64 L) := (hh.below.cell l1).trans hl
    have HHE := Lib.hid hh
    have HLX := Lib.hid hlx
    have HBA := Lib.hid hbA
    have HBB := Lib.hid hbB
    clear hh hlx hbA hbB hU HS0 HHD
    go_upto_region 5 with fail
    have hxk : KidS w.heap.size 0 (Mt.n0 2 s) W3 := box_kid HHE.out.box
    have HS1 := Lib.hid (show W3.drew.cell? pl = some (.int .i64 L) ∧ W3.drew.cell? ⟨w.heap.size, 1, none⟩ = some (.int .i64 s) from ⟨HLX.out, hxk.2.1⟩)
    have kA1 : W3.cell? ⟨W2.heap.size, 1, none⟩ = some (.int .i64 s) := (box_kid HBA.out).2.1
    have kB1 : W3.cell? ⟨W2.heap.size + 1, 1, none⟩ = some (.int .i64 s) := (box_kid HBB.out).2.1
    have fA1 : W3.frozen? ⟨W2.heap.size, 1, none⟩ = false := fld_frozen HBA.out 1
    have fB1 : W3.frozen? ⟨W2.heap.size + 1, 1, none⟩ = false := fld_frozen HBB.out 1
    clear hxk hcx
    go_region_held3 (fun w' => w'.cell? pl = some (.int .i64 L) ∧ w'.cell? ⟨w.heap.size, 1, none⟩ = some (.int .i64 s))
      (first | exact HS1.out | exact ⟨cell_setp HS1.out.1 (by omega), cell_setp HS1.out.2 (show w.heap.size ≠ _ by omega)⟩) (fail)
    rename_i hheld
    clear hheld kA1 kB1 fA1 fB1 HS1
    first
      | (obtain ⟨W4, hW4⟩ : ∃ W4, (W3.setCell ⟨W2.heap.size, 1, none⟩ (.int .i64 (M - 1 - s))).drew = W4 := ⟨_, rfl⟩
         have hbx : W4.heap[W2.heap.size]? = some (mtObj1 (Mt.n0 2 (M - 1 - s))) := by rw [← hW4]; exact fld_set HBA.out 1 _
         have hU4 : Below W2.heap.size W3 W4 := by rw [← hW4]; exact (((Below.refl _ _).setCell (by simp) _).drew)
         rw [hW4]
         clear hW4
         obtain ⟨A, hA⟩ : ∃ A, W2.heap.size = A := ⟨_, rfl⟩
         have hA4 : w.heap.size + 2 ≤ A := by omega
         rw [hA] at hbx ⊢
         clear hA)
      | (obtain ⟨W4, hW4⟩ : ∃ W4, (W3.setCell ⟨W2.heap.size + 1, 1, none⟩ (.int .i64 (M - 1 - s))).drew = W4 := ⟨_, rfl⟩
         have hbx : W4.heap[W2.heap.size + 1]? = some (mtObj1 (Mt.n0 2 (M - 1 - s))) := by rw [← hW4]; exact fld_set HBB.out 1 _
         have hU4 : Below W2.heap.size W3 W4 := by rw [← hW4]; exact (((Below.refl _ _).setCell (by simp) _).drew)
         rw [hW4]
         clear hW4
         obtain ⟨A, hA⟩ : ∃ A, W2.heap.size + 1 = A := ⟨_, rfl⟩
         have hA4 : w.heap.size + 2 ≤ A := by omega
         rw [hA] at hbx ⊢
         clear hA)
    have hh : ByHead w W4 (Mt.n0 2 s) := ⟨HHE.out.below.trans (hU4.mono (by omega)), (hU4.block _ (by omega)).trans HHE.out.box, (hU4.block _ (by omega)).trans HHE.out.res⟩
    have hkx := box_kid hbx
    obtain ⟨kx0, kx1, kx2⟩ : (W4.cell? ⟨A, 0, none⟩ = some (.int .i64 2) ∧ W4.cell? ⟨A, 1, none⟩ = some (.int .i64 (M - 1 - s)) ∧ W4.cell? ⟨A, 2, none⟩ = some (.slice none 0 0)) := id hkx
    have hs4 : w.heap.size + 2 ≤ W4.heap.size := lt_blk hh.res
    have HS2 := Lib.hid (show AllS [(A, 0, (Mt.n0 2 (M - 1 - s)))] W4.drew from ⟨hkx.draw, trivial⟩)
    have HH5 := Lib.hid (show ByHead w W4.drew (Mt.n0 2 s) from hh.made ((Below.refl _ _).drew))
    clear hh hkx hbx hU4 HHE HLX HBA HBB
    go_upto_region 6 with fail
    clear kx0 kx1 kx2
    have hsb : W4.heap.size ≤ W4.drew.heap.size := Nat.le_refl _
    have t1 : True := trivial
    have t2 : True := trivial
    have t3 : True := trivial
    go_region_held3 (fun w' => ((w'.cell? ⟨A, 0, none⟩ = some (.int .i64 2) ∧ w'.cell? ⟨A, 1, none⟩ = some (.int .i64 (M - 1 - s)) ∧ w'.cell? ⟨A, 2, none⟩ = some (.slice none 0 0)) ∧ True)) (first | exact HS2.out | exact HS2.out.up (up_alloc _ _) | exact HS3.out | exact HS3.out.up (up_alloc _ _) | exact HS4.out | exact HS4.out.up (up_alloc _ _) | exact HS5.out | exact AllS.set3 _ _ _ HS5.out ⟨by omega, trivial⟩) (first
      | (have _t := t1; go_at_call 23; refine Calls.mono (any_any _) ?_; rintro e e1 ⟨ga1, rfl, hg1, hm1, hz1⟩; have hb1 : Below W4.drew.heap.size W4.drew e1 := hz1; have hgg : W4.heap.size ≤ ga1 := hg1; have HM1 := Lib.hid hm1; have HU1 := Lib.hid hb1; have HS3 := Lib.hid (HS2.out.up hb1); clear hg1 hm1 hz1 hb1 t1)
      | (have _t := t1; go_at_call 23; refine Calls.mono (any_any _) ?_; rintro e e1 ⟨ga1, rfl, hg1, hm1, hz1⟩; have hb1 : Below (W4.drew.alloc (mtObj1 (Mt.n0 2 (M - 1 - s)))).heap.size (W4.drew.alloc (mtObj1 (Mt.n0 2 (M - 1 - s)))) e1 := hz1; have hgg : W4.heap.size ≤ ga1 := Nat.le_trans (by simp) hg1; have HM1 := Lib.hid hm1; have HQ1 := Lib.hid (show e1.heap[W4.drew.heap.size]? = some (mtObj1 (Mt.n0 2 (M - 1 - s))) from (hb1.block _ (by simp)).trans (heap_new _ _)); have HU1 := Lib.hid (up_call hb1); have HS3 := Lib.hid (HS2.out.up (up_call hb1)); clear hg1 hm1 hz1 hb1 t1)
      | (have _t := t2; go_at_call 16; refine Calls.mono (wmake_any _ _ _ _ _) ?_; rintro e e2 ⟨rfl, hp2⟩; have hb2 : Below (e1.alloc (mtObj1 (Mt.n0 2 (M - 1 - s)))).heap.size (e1.alloc (mtObj1 (Mt.n0 2 (M - 1 - s)))) e2 := hp2; have HQ2 := Lib.hid (show e2.heap[e1.heap.size]? = some (mtObj1 (Mt.n0 2 (M - 1 - s))) from (hb2.block _ (by simp)).trans (heap_new _ _)); have HV2 := Lib.hid (up_call hb2); have HU2 := Lib.hid (up_trans HU1.out (up_call hb2)); have HS4 := Lib.hid (HS3.out.up (up_call hb2)); clear hp2 hb2 t2)
      | (have _t := t2; go_at_call 16; refine Calls.mono (wmake_any _ _ _ _ _) ?_; rintro e e2 ⟨rfl, hp2⟩; have hb2 : Below e1.heap.size e1 e2 := hp2; have HQ2 := Lib.hid (show e2.heap[W4.drew.heap.size]? = some (mtObj1 (Mt.n0 2 (M - 1 - s))) from (hb2.block _ (lt_blk HQ1.out)).trans HQ1.out); have HV2 := Lib.hid hb2; have HU2 := Lib.hid (up_trans HU1.out hb2); have HS4 := Lib.hid (HS3.out.up hb2); clear hp2 hb2 t2)
      | (have _t := t3; go_at_call 16; refine Calls.mono (wmake_any _ _ _ _ _) ?_; rintro e e3 ⟨rfl, hp3⟩; have hb3 : Below (e2.alloc (mtObj2 (Mt.n1 6 ga1 1 (Mt.n0 0 0)) (Mt.n1 3 e1.heap.size 1 (Mt.n0 2 (M - 1 - s))))).heap.size (e2.alloc (mtObj2 (Mt.n1 6 ga1 1 (Mt.n0 0 0)) (Mt.n1 3 e1.heap.size 1 (Mt.n0 2 (M - 1 - s))))) e3 := hp3; have HB3 := Lib.hid hb3; have HU3 := Lib.hid (up_trans HU2.out (up_call hb3)); have HS5 := Lib.hid (HS4.out.up (up_call hb3)); obtain ⟨⟨y0, y1, y2⟩, z0, z1, z2, zl⟩ := res_at (HH5.out.made HU3.out).res; clear hp3 hb3 t3)
      | (have _t := t3; go_at_call 16; refine Calls.mono (wmake_any _ _ _ _ _) ?_; rintro e e3 ⟨rfl, hp3⟩; have hb3 : Below (e2.alloc (mtObj2 (Mt.n1 6 ga1 1 (Mt.n0 0 0)) (Mt.n1 3 W4.drew.heap.size 1 (Mt.n0 2 (M - 1 - s))))).heap.size (e2.alloc (mtObj2 (Mt.n1 6 ga1 1 (Mt.n0 0 0)) (Mt.n1 3 W4.drew.heap.size 1 (Mt.n0 2 (M - 1 - s))))) e3 := hp3; have HB3 := Lib.hid hb3; have HU3 := Lib.hid (up_trans HU2.out (up_call hb3)); have HS5 := Lib.hid (HS4.out.up (up_call hb3)); obtain ⟨⟨y0, y1, y2⟩, z0, z1, z2, zl⟩ := res_at (HH5.out.made HU3.out).res; clear hp3 hb3 t3))
    all_goals
      go_wp2_with fail
      have u1 := HU1.out
      have u2 := HU2.out
      have u3 := HU3.out
      have l1 := u1.size
      have l2 := u2.size
      have hm2 := HM1.out.made HV2.out
      have ub : Below w.heap.size w e3 := HH5.out.below.trans (u3.mono (by omega))
      first
        | exact bodyPost_ret (v := .tuple #[(Mt.n2 4 e2.heap.size 2 (Mt.n1 6 ga1 1 (Mt.n0 0 0)) (Mt.n1 3 e1.heap.size 1 (Mt.n0 2 (M - 1 - s)))).val, .bool true]) (by simp [results, Tryz.results37, go_sem, y0, y1, y2]; rfl) rfl (by_fr HR.out HX.out HZ.out (mk2_has (W := e2) 4 hm2 (n1_at (k := 3) (x := (Mt.n0 2 (M - 1 - s))) HQ2.out trivial) (up_next HB3.out) : (Mt.n2 4 e2.heap.size 2 (Mt.n1 6 ga1 1 (Mt.n0 0 0)) (Mt.n1 3 e1.heap.size 1 (Mt.n0 2 (M - 1 - s)))).has e3) rfl ub (Fr.n2 (by omega) (Fr.n1 (by omega) Fr.n0) (Fr.n1 (by omega) Fr.n0)))
        | exact bodyPost_ret (v := .tuple #[(Mt.n2 4 e2.heap.size 2 (Mt.n1 6 ga1 1 (Mt.n0 0 0)) (Mt.n1 3 W4.drew.heap.size 1 (Mt.n0 2 (M - 1 - s)))).val, .bool true]) (by simp [results, Tryz.results37, go_sem, y0, y1, y2]; rfl) rfl (by_fr HR.out HX.out HZ.out (mk2_has (W := e2) 4 hm2 (n1_at (k := 3) (x := (Mt.n0 2 (M - 1 - s))) HQ2.out trivial) (up_next HB3.out) : (Mt.n2 4 e2.heap.size 2 (Mt.n1 6 ga1 1 (Mt.n0 0 0)) (Mt.n1 3 W4.drew.heap.size 1 (Mt.n0 2 (M - 1 - s)))).has e3) rfl ub (Fr.n2 (by omega) (Fr.n1 (by omega) Fr.n0) (Fr.n1 (by omega) Fr.n0)))
end Go.Proofs.YtccknopchddicaaGreatDoor
/- contract: the rule of FormLettersParted, in two sets. -/
namespace Go.Proofs.YtccknopchddicaaGreatDoor
open Go.RowKit Stile
set_option maxRecDepth 100000 in
set_option maxHeartbeats 3200000 in
theorem pt_cut (c : Int) (L cut s : Int) (po pl pc : Addr) (w0 w : World) (h0 : w0.heap.size ≤ w.heap.size) (hc : w.cell? po = some (.bool false)) (hl : w.cell? pl = some (.int .i64 L)) (hcut : w.cell? pc = some (.int .i64 cut)) :
    Calls Tryz.prog 37 #[.agg #[.int .i64 2, .int .i64 s, .slice none 0 0], .pointer (some po), .pointer (some pl), .pointer (some pc)] w (ByOut (ptRule c (fun s => bits .and .i64 s cut) (fun s => bits .andNot .i64 s cut) false) (Mt.n0 2 s) w0 w) := by
  have hr : ptRule c (fun s => bits .and .i64 s cut) (fun s => bits .andNot .i64 s cut) false (Mt.n0 2 s).w = some (W.n2 5 (.n0 2 (bits .and .i64 s cut)) (.n0 2 (bits .andNot .i64 s cut))) := rfl
  have hx : (Mt.n0 2 s).has w := trivial
  have l0 := lt_of_cell hc
  have l1 := lt_of_cell hcut
  have HX := Lib.hid hx
  have HR := Lib.hid hr
  have HZ := Lib.hid h0
  clear hx hr h0
  go_enter Tryz.func37, Tryz.ntmps37
  go_upto_region 3 with fail
  have hh : ByHead w ((w.alloc (Obj.cells #[.int .i64 2, .int .i64 s, .slice none 0 0] 29)).alloc (Obj.cells #[.int .i64 0, .int .i64 0, .slice none 0 0] 29)) (Mt.n0 2 s) := by_head w (Mt.n0 2 s)
  obtain ⟨W2, hW2⟩ : ∃ W2, (w.alloc (Obj.cells #[.int .i64 2, .int .i64 s, .slice none 0 0] 29)).alloc (Obj.cells #[.int .i64 0, .int .i64 0, .slice none 0 0] 29) = W2 := ⟨_, rfl⟩
  rw [hW2] at hh ⊢
  clear hW2
  have hs2 : w.heap.size + 2 ≤ W2.heap.size := lt_blk hh.res
  have HS0 := Lib.hid (show AllS [(w.heap.size, 0, (Mt.n0 2 s))] W2 from ⟨box_kid hh.box, trivial⟩)
  have HHD := Lib.hid hh
  clear hh
  go_region_held3 (fun w' => ((w'.cell? ⟨w.heap.size, 0, none⟩ = some (.int .i64 2) ∧ w'.cell? ⟨w.heap.size, 1, none⟩ = some (.int .i64 s) ∧ w'.cell? ⟨w.heap.size, 2, none⟩ = some (.slice none 0 0)) ∧ True))
    (first | exact HS0.out.draw | exact HS0.out.up ((up_alloc _ _).drew) | exact (HS0.out.up (up_alloc _ _)).up ((up_alloc _ _).drew) | exact HS0.out | exact HS0.out.up (up_alloc _ _) | exact (HS0.out.up (up_alloc _ _)).up (up_alloc _ _)) (fail)
  all_goals
    rename_i hheld
    clear hheld
    obtain ⟨hU, hbA, hbB⟩ := pt_boxes W2 (Mt.n0 2 s)
    obtain ⟨W3, hW3⟩ : ∃ W3, ((W2.alloc (Obj.cells #[.int .i64 2, .int .i64 s, .slice none 0 0] 29)).alloc (Obj.cells #[.int .i64 2, .int .i64 s, .slice none 0 0] 29)).drew = W3 := ⟨_, rfl⟩
    have e3 : ((W2.alloc (mtObj1 (Mt.n0 2 s))).alloc (mtObj1 (Mt.n0 2 s))).drew = W3 := hW3
    rw [e3] at hU hbA hbB
    rw [hW3]
    clear hW3 e3
    have hsz3 : W2.heap.size + 2 ≤ W3.heap.size := lt_blk hbB
    have hh : ByHead w W3 (Mt.n0 2 s) := HHD.out.made hU
    have hcx : W3.cell? po = some (.bool false) := (hh.below.cell l0).trans hc
    have hlx : W3.cell? pc = some (.int .i64 cut) := (hh.below.cell l1).trans hcut
    have HHE := Lib.hid hh
    have HLX := Lib.hid hlx
    have HBA := Lib.hid hbA
    have HBB := Lib.hid hbB
    clear hh hlx hbA hbB hU HS0 HHD
    go_upto_region 7 with fail
    have hxk : KidS w.heap.size 0 (Mt.n0 2 s) W3 := box_kid HHE.out.box
    have HS1 := Lib.hid (show W3.drew.cell? pc = some (.int .i64 cut) ∧ W3.drew.cell? ⟨w.heap.size, 1, none⟩ = some (.int .i64 s) from ⟨HLX.out, hxk.2.1⟩)
    have kA1 : W3.cell? ⟨W2.heap.size, 1, none⟩ = some (.int .i64 s) := (box_kid HBA.out).2.1
    have kB1 : W3.cell? ⟨W2.heap.size + 1, 1, none⟩ = some (.int .i64 s) := (box_kid HBB.out).2.1
    have fA1 : W3.frozen? ⟨W2.heap.size, 1, none⟩ = false := fld_frozen HBA.out 1
    have fB1 : W3.frozen? ⟨W2.heap.size + 1, 1, none⟩ = false := fld_frozen HBB.out 1
    clear hxk hcx
    go_region_held3 (fun w' => w'.cell? pc = some (.int .i64 cut) ∧ w'.cell? ⟨w.heap.size, 1, none⟩ = some (.int .i64 s))
      (first | exact HS1.out | exact ⟨cell_setp HS1.out.1 (by omega), cell_setp HS1.out.2 (show w.heap.size ≠ _ by omega)⟩ | exact ⟨cell_setp (cell_setp HS1.out.1 (by omega)) (by omega), cell_setp (cell_setp HS1.out.2 (show w.heap.size ≠ _ by omega)) (show w.heap.size ≠ _ by omega)⟩) (fail)
    rename_i hheld
    clear hheld kA1 kB1 fA1 fB1 HS1
    first
      | (obtain ⟨W4, hW4⟩ : ∃ W4, ((W3.setCell ⟨W2.heap.size, 1, none⟩ (.int .i64 (bits .and .i64 s cut))).setCell ⟨W2.heap.size + 1, 1, none⟩ (.int .i64 (bits .andNot .i64 s cut))).drew = W4 := ⟨_, rfl⟩
         have hbx : W4.heap[W2.heap.size]? = some (mtObj1 (Mt.n0 2 (bits .and .i64 s cut))) := by rw [← hW4]; exact (Below.heap_setCell (W3.setCell ⟨W2.heap.size, 1, none⟩ (.int .i64 (bits .and .i64 s cut))) ⟨W2.heap.size + 1, 1, none⟩ (.int .i64 (bits .andNot .i64 s cut)) (W2.heap.size) (show (W2.heap.size) ≠ W2.heap.size + 1 by omega)).trans (fld_set HBA.out 1 _)
         have hby : W4.heap[W2.heap.size + 1]? = some (mtObj1 (Mt.n0 2 (bits .andNot .i64 s cut))) := by rw [← hW4]; exact fld_set ((Below.heap_setCell W3 ⟨W2.heap.size, 1, none⟩ (.int .i64 (bits .and .i64 s cut)) (W2.heap.size + 1) (show (W2.heap.size + 1) ≠ W2.heap.size by omega)).trans HBB.out) 1 _
         have hU4 : Below W2.heap.size W3 W4 := by rw [← hW4]; exact ((((Below.refl _ _).setCell (by simp) _).setCell (by simp) _).drew)
         rw [hW4]
         clear hW4
         obtain ⟨A, hA⟩ : ∃ A, W2.heap.size = A := ⟨_, rfl⟩
         obtain ⟨B, hB⟩ : ∃ B, W2.heap.size + 1 = B := ⟨_, rfl⟩
         have hA4 : w.heap.size + 2 ≤ A := by omega
         have hB4 : w.heap.size + 2 ≤ B := by omega
         have hlt : A < W4.heap.size ∧ B < W4.heap.size := ⟨by rw [← hA]; exact lt_blk hbx, by rw [← hB]; exact lt_blk hby⟩
         rw [hB] at hby ⊢
         rw [hA] at hbx ⊢
         clear hA hB)
      | (obtain ⟨W4, hW4⟩ : ∃ W4, ((W3.setCell ⟨W2.heap.size + 1, 1, none⟩ (.int .i64 (bits .and .i64 s cut))).setCell ⟨W2.heap.size, 1, none⟩ (.int .i64 (bits .andNot .i64 s cut))).drew = W4 := ⟨_, rfl⟩
         have hbx : W4.heap[W2.heap.size + 1]? = some (mtObj1 (Mt.n0 2 (bits .and .i64 s cut))) := by rw [← hW4]; exact (Below.heap_setCell (W3.setCell ⟨W2.heap.size + 1, 1, none⟩ (.int .i64 (bits .and .i64 s cut))) ⟨W2.heap.size, 1, none⟩ (.int .i64 (bits .andNot .i64 s cut)) (W2.heap.size + 1) (show (W2.heap.size + 1) ≠ W2.heap.size by omega)).trans (fld_set HBB.out 1 _)
         have hby : W4.heap[W2.heap.size]? = some (mtObj1 (Mt.n0 2 (bits .andNot .i64 s cut))) := by rw [← hW4]; exact fld_set ((Below.heap_setCell W3 ⟨W2.heap.size + 1, 1, none⟩ (.int .i64 (bits .and .i64 s cut)) (W2.heap.size) (show (W2.heap.size) ≠ W2.heap.size + 1 by omega)).trans HBA.out) 1 _
         have hU4 : Below W2.heap.size W3 W4 := by rw [← hW4]; exact ((((Below.refl _ _).setCell (by simp) _).setCell (by simp) _).drew)
         rw [hW4]
         clear hW4
         obtain ⟨A, hA⟩ : ∃ A, W2.heap.size + 1 = A := ⟨_, rfl⟩
         obtain ⟨B, hB⟩ : ∃ B, W2.heap.size = B := ⟨_, rfl⟩
         have hA4 : w.heap.size + 2 ≤ A := by omega
         have hB4 : w.heap.size + 2 ≤ B := by omega
         have hlt : A < W4.heap.size ∧ B < W4.heap.size := ⟨by rw [← hA]; exact lt_blk hbx, by rw [← hB]; exact lt_blk hby⟩
         rw [hA] at hbx ⊢
         rw [hB] at hby ⊢
         clear hA hB)
    have hh : ByHead w W4 (Mt.n0 2 s) := ⟨HHE.out.below.trans (hU4.mono (by omega)), (hU4.block _ (by omega)).trans HHE.out.box, (hU4.block _ (by omega)).trans HHE.out.res⟩
    have hkx := box_kid hbx
    have hky := box_kid hby
    obtain ⟨kx0, kx1, kx2⟩ : (W4.cell? ⟨A, 0, none⟩ = some (.int .i64 2) ∧ W4.cell? ⟨A, 1, none⟩ = some (.int .i64 (bits .and .i64 s cut)) ∧ W4.cell? ⟨A, 2, none⟩ = some (.slice none 0 0)) := hkx
    obtain ⟨ky0, ky1, ky2⟩ : (W4.cell? ⟨B, 0, none⟩ = some (.int .i64 2) ∧ W4.cell? ⟨B, 1, none⟩ = some (.int .i64 (bits .andNot .i64 s cut)) ∧ W4.cell? ⟨B, 2, none⟩ = some (.slice none 0 0)) := hky
    have hs4 : w.heap.size + 2 ≤ W4.heap.size := lt_blk hh.res
    have HH5 := Lib.hid hh
    clear hh hbx hby hU4 HHE HLX HBA HBB
    go_wp2_with (first
      | (go_at_call 16; refine Calls.mono (wmake_any _ _ _ _ _) ?_; rintro e e1 ⟨rfl, hp1⟩; have hb1 : Below (W4.alloc (mtObj2 (Mt.n0 2 (bits .and .i64 s cut)) (Mt.n0 2 (bits .andNot .i64 s cut)))).heap.size (W4.alloc (mtObj2 (Mt.n0 2 (bits .and .i64 s cut)) (Mt.n0 2 (bits .andNot .i64 s cut)))) e1 := hp1; have HB1 := Lib.hid hb1; obtain ⟨⟨y0, y1, y2⟩, z0, z1, z2, zl⟩ := res_at (HH5.out.made (up_call hb1)).res; clear hp1 hb1))
    have ub : Below w.heap.size w e1 := HH5.out.below.trans ((up_call HB1.out).mono (by omega))
    exact bodyPost_ret (v := .tuple #[(Mt.n2 5 W4.heap.size 2 (Mt.n0 2 (bits .and .i64 s cut)) (Mt.n0 2 (bits .andNot .i64 s cut))).val, .bool true]) (by simp [results, Tryz.results37, go_sem, y0, y1, y2]; rfl) rfl (by_fr HR.out HX.out HZ.out (mk2_has (W := W4) 5 (x := (Mt.n0 2 (bits .and .i64 s cut))) (y := (Mt.n0 2 (bits .andNot .i64 s cut))) trivial trivial (up_next HB1.out) : (Mt.n2 5 W4.heap.size 2 (Mt.n0 2 (bits .and .i64 s cut)) (Mt.n0 2 (bits .andNot .i64 s cut))).has e1) rfl ub (Fr.n2 (by omega) Fr.n0 Fr.n0))
end Go.Proofs.YtccknopchddicaaGreatDoor
/- contract: the rule of FormLettersParted, where it does not apply. -/
namespace Go.Proofs.YtccknopchddicaaGreatDoor
open Go.RowKit Stile
set_option maxRecDepth 100000 in
set_option maxHeartbeats 3200000 in
theorem pt_no (c : Int) (fi gi : Int → Int) (others : Bool) (L cut : Int) (po pl pc : Addr) (w0 w : World)  (x : Mt) (hx : x.has w) (h0 : w0.heap.size ≤ w.heap.size) (hc : w.cell? po = some (.bool others)) (hl : w.cell? pl = some (.int .i64 L)) (hcut : w.cell? pc = some (.int .i64 cut)) (h2 : x.kk ≠ 2) (hr0 : ptRule c fi gi others x.w = none) :
    Calls Tryz.prog 37 #[.agg #[.int .i64 x.kk, .int .i64 x.ks, .slice x.kA x.kids.length x.kc], .pointer (some po), .pointer (some pl), .pointer (some pc)] w (ByOut (ptRule c fi gi others) x w0 w) := by
  have hr : (ptRule c fi gi others) x.w = none := hr0
  have hcl_0 := lt_of_cell hc
  have hcl_1 := lt_of_cell hl
  have hcl_2 := lt_of_cell hcut
  have HX := Lib.hid hx
  have HR := Lib.hid hr
  have HZ := Lib.hid h0
  clear hx hr h0
  have e2 : (x.kk == 2) = false := beq_eq_false_iff_ne.2 h2
  have d2 : (x.kk != 2) = true := bne_iff_ne.2 h2
  go_enter Tryz.func37, Tryz.ntmps37
  go_wp2_with fail
  refine bodyPost_ret (v := .tuple #[x.val, .bool false]) (by simp [results, Tryz.results37, go_sem]; rfl) rfl (by_none HR.out (((Below.refl _ _).alloc (Nat.le_refl _) _).alloc (by simp) _))
end Go.Proofs.YtccknopchddicaaGreatDoor
/- contract: the rule of FormLettersParted, whole; the sets. -/
namespace Go.Proofs.YtccknopchddicaaGreatDoor
open Go.RowKit Stile
theorem i64_small (n : Nat) (h : n < 9223372036854775808) : IntKind.i64.wrap (n : Int) = n := by rw [IntKind.wrap_i64]; omega
theorem sets_val {L : Int} (hL : 1 ≤ L ∧ L ≤ 6) : setsOf L = ((2 ^ L.toNat : Nat) : Int) := by
  obtain ⟨n, rfl⟩ := Int.eq_ofNat_of_zero_le (show 0 ≤ L by omega)
  have h : n = 1 ∨ n = 2 ∨ n = 3 ∨ n = 4 ∨ n = 5 ∨ n = 6 := by omega
  rcases h with rfl | rfl | rfl | rfl | rfl | rfl <;> decide
theorem pow6 {n : Nat} (h : n ≤ 6) : 2 ^ n ≤ 64 := Nat.le_trans (Nat.pow_le_pow_right (by omega) h) (by decide)
theorem part_and (s cut : Int) (h0 : 0 ≤ s) (h1 : s < 64) : bits .and .i64 s cut = ((s.toNat &&& (BitVec.ofInt 64 cut).toNat : Nat) : Int) := by
  obtain ⟨a, rfl⟩ := Int.eq_ofNat_of_zero_le h0
  show IntKind.i64.wrap ((BitVec.ofInt 64 (a : Int) &&& BitVec.ofInt 64 cut).toNat : Int) = _
  have hx : a &&& (BitVec.ofInt 64 cut).toNat ≤ a := Nat.and_le_left
  rw [BitVec.toNat_and, ofInt_i64 a (by omega), Int.toNat_natCast, i64_small _ (by omega)]
theorem part_not (s cut : Int) (h0 : 0 ≤ s) (h1 : s < 64) : bits .andNot .i64 s cut = ((s.toNat &&& (~~~ (BitVec.ofInt 64 cut)).toNat : Nat) : Int) := by
  obtain ⟨a, rfl⟩ := Int.eq_ofNat_of_zero_le h0
  show IntKind.i64.wrap ((BitVec.ofInt 64 (a : Int) &&& ~~~ BitVec.ofInt 64 cut).toNat : Int) = _
  have hx : a &&& (~~~ BitVec.ofInt 64 cut).toNat ≤ a := Nat.and_le_left
  rw [BitVec.toNat_and, ofInt_i64 a (by omega), Int.toNat_natCast, i64_small _ (by omega)]
theorem part_two (L : Int) (hL : 1 ≤ L ∧ L ≤ 6) (cut s : Int) (h0 : 0 ≤ s) (h1 : s < setsOf L) :
    (0 ≤ bits .and .i64 s cut ∧ bits .and .i64 s cut < setsOf L) ∧ (0 ≤ bits .andNot .i64 s cut ∧ bits .andNot .i64 s cut < setsOf L) ∧ ∀ a : Int, (0 ≤ a ∧ a < L) → (bit (bits .and .i64 s cut) a || bit (bits .andNot .i64 s cut) a) = bit s a := by
  have hM := sets_val hL
  have hp := pow6 (n := L.toNat) (by omega)
  have hs : s < 64 := by omega
  rw [part_and s cut h0 hs, part_not s cut h0 hs]
  have e1 : s.toNat &&& (BitVec.ofInt 64 cut).toNat ≤ s.toNat := Nat.and_le_left
  have e2 : s.toNat &&& (~~~ BitVec.ofInt 64 cut).toNat ≤ s.toNat := Nat.and_le_left
  refine ⟨⟨by omega, by omega⟩, ⟨by omega, by omega⟩, fun a ha => ?_⟩
  unfold bit
  rw [Int.toNat_natCast, Int.toNat_natCast, Nat.testBit_and, Nat.testBit_and, BitVec.testBit_toNat, BitVec.testBit_toNat, BitVec.getLsbD_not]
  have hd : decide (a.toNat < 64) = true := by simp; omega
  rw [hd]
  cases s.toNat.testBit a.toNat <;> cases (BitVec.ofInt 64 cut).getLsbD a.toNat <;> rfl
theorem part_others (L : Int) (hL : 1 ≤ L ∧ L ≤ 6) (s : Int) (h0 : 0 ≤ s) (h1 : s < setsOf L) :
    0 ≤ setsOf L - 1 - s ∧ setsOf L - 1 - s < setsOf L ∧ ∀ a : Int, (0 ≤ a ∧ a < L) → bit (setsOf L - 1 - s) a = !bit s a := by
  have hM := sets_val hL
  obtain ⟨n, rfl⟩ := Int.eq_ofNat_of_zero_le h0
  refine ⟨by omega, by omega, fun a ha => ?_⟩
  have hn : n < 2 ^ L.toNat := by omega
  have e : setsOf L - 1 - (n : Int) = ((2 ^ L.toNat - (n + 1) : Nat) : Int) := by omega
  rw [e]
  unfold bit
  rw [Int.toNat_natCast, Int.toNat_natCast, Nat.testBit_two_pow_sub_succ hn]
  have hd : decide (a.toNat < L.toNat) = true := by simp; omega
  rw [hd]
  rfl
/-- the rule, with the sets as Go reckons them -/
def ptR (L cut : Int) (others : Bool) : W → Option W := ptRule (setsOf L - 1) (fun s => bits .and .i64 s cut) (fun s => bits .andNot .i64 s cut) others
theorem pt_by_ok (L cut : Int) (hL : 1 ≤ L ∧ L ≤ 6) (others : Bool) (po pl pc : Addr) (w0 : World) (ho : w0.cell? po = some (.bool others)) (hl : w0.cell? pl = some (.int .i64 L)) (hc : w0.cell? pc = some (.int .i64 cut)) :
    ByOk futK (setsOf L) w0 37 #[.pointer (some po), .pointer (some pl), .pointer (some pc)] (ptR L cut others) := by
  intro m w hb hm hok hsz
  have how : w.cell? po = some (.bool others) := (hb.cell (lt_of_cell ho)).trans ho
  have hlw : w.cell? pl = some (.int .i64 L) := (hb.cell (lt_of_cell hl)).trans hl
  have hcw : w.cell? pc = some (.int .i64 cut) := (hb.cell (lt_of_cell hc)).trans hc
  have h0 : w0.heap.size ≤ w.heap.size := hb.size
  have hM := sets_val hL
  have hp := pow6 (n := L.toNat) (by omega)
  show Calls _ _ #[m.val, .pointer (some po), .pointer (some pl), .pointer (some pc)] w (ByOut (ptR L cut others) m w0 w)
  unfold ptR
  cases m with
  | n0 k s =>
    by_cases h2 : k = 2
    · subst h2
      obtain ⟨h5, h6⟩ := hok.2.2.1 rfl
      cases others
      · exact pt_cut _ L cut s po pl pc w0 w h0 how hlw hcw
      · exact pt_others _ _ L cut (setsOf L) s po pl pc w0 w h0 how hlw hcw (by omega) (by omega) rfl (by rw [IntKind.wrap_i64]; omega) (by rw [IntKind.wrap_i64]; omega)
    · refine pt_no _ _ _ others L cut po pl pc w0 w (.n0 k s) hm h0 how hlw hcw h2 ?_
      show (if k = 2 then _ else none) = none
      rw [if_neg h2]
  | n1 k g c x =>
    have hk := one_kk hok
    exact pt_no _ _ _ others L cut po pl pc w0 w (.n1 k g c x) hm h0 how hlw hcw (by intro e; have e : k = 2 := e; omega) rfl
  | n2 k g c x y =>
    have hk := two_kk hok
    exact pt_no _ _ _ others L cut po pl pc w0 w (.n2 k g c x y) hm h0 how hlw hcw (by intro e; have e : k = 2 := e; omega) rfl
end Go.Proofs.YtccknopchddicaaGreatDoor
/- contract: FormLettersParted answers true. -/
namespace Go.Proofs.YtccknopchddicaaGreatDoor
open Go.RowKit Stile
theorem new_4 (w : World) (o0 o1 o2 o3 : Obj) : ((((w.alloc o0).alloc o1).alloc o2).alloc o3).heap[w.heap.size]? = some o0 ∧ ((((w.alloc o0).alloc o1).alloc o2).alloc o3).heap[w.heap.size + 1]? = some o1 ∧ ((((w.alloc o0).alloc o1).alloc o2).alloc o3).heap[w.heap.size + 2]? = some o2 ∧ ((((w.alloc o0).alloc o1).alloc o2).alloc o3).heap[w.heap.size + 3]? = some o3 := by
  obtain ⟨h0, h1, h2⟩ := three_new w o0 o1 o2
  have h := heap_new (((w.alloc o0).alloc o1).alloc o2) o3
  rw [show (((w.alloc o0).alloc o1).alloc o2).heap.size = w.heap.size + 3 from by simp] at h
  exact ⟨(Below.heap_alloc _ o3 _ (by simp; try omega)).trans h0, (Below.heap_alloc _ o3 _ (by simp; try omega)).trans h1, (Below.heap_alloc _ o3 _ (by simp; try omega)).trans h2, h⟩
theorem new_5 (w : World) (o0 o1 o2 o3 o4 : Obj) : (((((w.alloc o0).alloc o1).alloc o2).alloc o3).alloc o4).heap[w.heap.size]? = some o0 ∧ (((((w.alloc o0).alloc o1).alloc o2).alloc o3).alloc o4).heap[w.heap.size + 1]? = some o1 ∧ (((((w.alloc o0).alloc o1).alloc o2).alloc o3).alloc o4).heap[w.heap.size + 2]? = some o2 ∧ (((((w.alloc o0).alloc o1).alloc o2).alloc o3).alloc o4).heap[w.heap.size + 3]? = some o3 ∧ (((((w.alloc o0).alloc o1).alloc o2).alloc o3).alloc o4).heap[w.heap.size + 4]? = some o4 := by
  obtain ⟨h0, h1, h2, h3⟩ := new_4 w o0 o1 o2 o3
  have h := heap_new ((((w.alloc o0).alloc o1).alloc o2).alloc o3) o4
  rw [show ((((w.alloc o0).alloc o1).alloc o2).alloc o3).heap.size = w.heap.size + 4 from by simp] at h
  exact ⟨(Below.heap_alloc _ o4 _ (by simp; try omega)).trans h0, (Below.heap_alloc _ o4 _ (by simp; try omega)).trans h1, (Below.heap_alloc _ o4 _ (by simp; try omega)).trans h2, (Below.heap_alloc _ o4 _ (by simp; try omega)).trans h3, h⟩
set_option maxRecDepth 100000 in
set_option maxHeartbeats 800000 in
theorem pt_change (L cut : Int) (hL : 1 ≤ L ∧ L ≤ 6) (others : Bool) (which : Int) (fv : Value) (f : List Nd) (pf pw po pl pc : Addr) (w : World) (hf : RdN w w.heap.size fv f) (hok : okF futK (setsOf L) f) (hn0 : 0 < f.length) (hn : f.length ≤ 40) (hw0 : -9223372036854775808 ≤ which) (hw1 : which ≤ 9223372036854775807)
    (h1 : w.cell? pf = some fv) (h2 : w.cell? pw = some (.int .i64 which)) (h3 : w.cell? po = some (.bool others)) (h4 : w.cell? pl = some (.int .i64 L)) (h5 : w.cell? pc = some (.int .i64 cut)) :
    Calls Tryz.prog 36 #[.pointer (some pf), .pointer (some pw), .pointer (some po), .pointer (some pl), .pointer (some pc)] w (SwapOut (swapR f which (ptR L cut others)) w) := by
  have hmf : ∀ (fn : Fn) (first cap : Array Value) (w : World), (Instr.makeFunc fn first cap).run Tryz.prog w = .ok (.func fn first cap) w := fun _ _ _ _ => rfl
  have hs := swap_any futK_any f fv which 37 #[.pointer (some po), .pointer (some pl), .pointer (some pc)] (ptR L cut others) w hf hok hn0 hn hw0 hw1 (fun _ _ => rfl) (pt_by_ok L cut hL others po pl pc w h3 h4 h5) (fun t u => pt_size _ _ _ others t u)
  obtain ⟨fA, fc, rfl, _, _⟩ := id hf
  have l1 := lt_of_cell h1
  have l2 := lt_of_cell h2
  have HS := Lib.hid hs
  clear hs hf hok h3 h4 h5
  go_enter Tryz.func36, Tryz.ntmps36
  go_wp2_with fail
  refine HS.out.mono ?_
  rintro e w2 ⟨hb, gv, b, rfl, hx, hy⟩
  have HB := Lib.hid hb
  have HX := Lib.hid hx
  have HY := Lib.hid hy
  clear hb hx hy
  go_wp2_with fail
  go_ret2
  exact ⟨HB.out, _, _, rfl, HX.out, HY.out⟩
set_option maxRecDepth 100000 in
set_option maxHeartbeats 800000 in
theorem pt_law (L which : Int) (cut : Int) (others : Bool) (fv lv : Value) (f : List Nd) (l : List Int) (w : World) (hf : RdN w w.heap.size fv f) (hl : RdI w w.heap.size lv l) (hg : ErrVar w) (hw0 : -9223372036854775808 ≤ which) (hw1 : which ≤ 9223372036854775807) :
    Calls Tryz.prog 11 #[.int .i64 L, fv, lv, .int .i64 which, .int .i64 cut, .bool others] w (TrueB w) := by
  have hmf : ∀ (fn : Fn) (first cap : Array Value) (w : World), (Instr.makeFunc fn first cap).run Tryz.prog w = .ok (.func fn first cap) w := fun _ _ _ _ => rfl
  obtain ⟨fA, fc, rfl, _, _⟩ := id hf
  have H : ∀ W, Below w.heap.size w W → W.cell? ⟨w.heap.size, 0, none⟩ = some (.int .i64 L) → W.cell? ⟨w.heap.size + 1, 0, none⟩ = some (.slice fA f.length fc) → W.cell? ⟨w.heap.size + 2, 0, none⟩ = some (.int .i64 which) → W.cell? ⟨w.heap.size + 3, 0, none⟩ = some (.int .i64 cut) → W.cell? ⟨w.heap.size + 4, 0, none⟩ = some (.bool others) →
      Calls Tryz.prog 12 #[.int .i64 L, .slice fA f.length fc, lv, .func (.func 36) #[] #[.pointer (some ⟨w.heap.size + 1, 0, none⟩), .pointer (some ⟨w.heap.size + 2, 0, none⟩), .pointer (some ⟨w.heap.size + 4, 0, none⟩), .pointer (some ⟨w.heap.size, 0, none⟩), .pointer (some ⟨w.heap.size + 3, 0, none⟩)]] W (TrueB W) := fun W hb c0 c1 c2 c3 c4 => by
    have hfW := Rd.mono (Rd.below hf hb) hb.size
    have hlW := Rd.mono (Rd.below hl hb) hb.size
    by_cases hbad : checkP L (setsOf L) f ≠ 0 ∨ wcheckP L l ≠ 0
    · exact wform_bad L _ lv f l W _ _ hfW hlW hbad
    · have hc : checkP L (setsOf L) f = 0 := by omega
      have hw : wcheckP L l = 0 := by omega
      obtain ⟨hL, hn0, hn, hok⟩ := checkP_ok.1 hc
      obtain ⟨n, rfl⟩ := Int.eq_ofNat_of_zero_le (show 0 ≤ L by omega)
      refine wform_ok n _ lv f l W _ _ (swapR f which (ptR n cut others)) hfW hlW (ErrVar.below hg hb) hc hw (fun _ _ => rfl) (fun W2 hb2 => ?_) (fun u hu => ?_)
      · exact pt_change n cut hL others which _ f _ _ _ _ _ W2 (Rd.mono (Rd.below hfW hb2) hb2.size) hok hn0 hn hw0 hw1 ((hb2.cell (lt_of_cell c1)).trans c1) ((hb2.cell (lt_of_cell c2)).trans c2) ((hb2.cell (lt_of_cell c4)).trans c4) ((hb2.cell (lt_of_cell c0)).trans c0) ((hb2.cell (lt_of_cell c3)).trans c3)
      · obtain ⟨a1, a2⟩ := swapR_spec (D := fun a => 0 ≤ a ∧ a < (n : Int)) futK_any hok hn0 (fun t u h1 h2 => pt_spec _ _ _ others (fun s h0 h1 => part_others n hL s h0 h1) (fun s h0 h1 => part_two n hL cut s h0 h1) t u h1 h2) hu
        refine ⟨a1, fun x hx => ?_⟩
        rw [holds_eq _ f (fun i hi => ⟨futK_any _ (hok i hi).1, (hok i hi).2⟩) (by intro e; rw [e] at hn0; simp at hn0)]
        exact a2 x (hx)
  have HH := Lib.hid H
  obtain ⟨lA, lc, rfl, _, _⟩ := id hl
  clear H hf hl hg
  go_enter Tryz.func11, Tryz.ntmps11
  go_wp2_with fail
  obtain ⟨t0, t1, t2, t3, t4⟩ := new_5 w (Obj.cells #[.int .i64 L] 3) (Obj.cells #[.slice fA f.length fc] 22) (Obj.cells #[.int .i64 which] 3) (Obj.cells #[.int .i64 cut] 3) (Obj.cells #[.bool others] 4)
  have hb : Below w.heap.size w (((((w.alloc (Obj.cells #[.int .i64 L] 3)).alloc (Obj.cells #[.slice fA f.length fc] 22)).alloc (Obj.cells #[.int .i64 which] 3)).alloc (Obj.cells #[.int .i64 cut] 3)).alloc (Obj.cells #[.bool others] 4)) := ((((((Below.refl _ _).alloc (Nat.le_refl _) _).alloc (by simp) _).alloc (by simp; omega) _).alloc (by simp; omega) _).alloc (by simp; omega) _)
  refine (HH.out _ hb (by rw [fld_cell t0]; rfl) (by rw [fld_cell t1]; rfl) (by rw [fld_cell t2]; rfl) (by rw [fld_cell t3]; rfl) (by rw [fld_cell t4]; rfl)).mono ?_
  rintro e w2 ⟨rfl, hb2⟩
  have HB := Lib.hid (hb.trans (hb2.mono hb.size))
  clear hb hb2 t0 t1 t2 t3 t4
  go_wp2_with fail
  go_ret
  exact ⟨rfl, HB.out⟩
end Go.Proofs.YtccknopchddicaaGreatDoor
