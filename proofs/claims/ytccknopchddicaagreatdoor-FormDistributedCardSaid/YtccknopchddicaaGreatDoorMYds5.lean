/- contract: the rule of FormDistributed at next and weak. -/
import Derived.Test.YtccknopchddicaaGreatDoorMYds4
set_option linter.unusedSimpArgs false
set_option linter.unusedVariables false
set_option linter.unnecessarySimpa false
namespace Go.Proofs.YtccknopchddicaaGreatDoor
open Go.RowKit Stile
set_option maxRecDepth 100000 in
set_option maxHeartbeats 3200000 in
theorem ds_in74 (w0 w : World) (g c ga ca : Nat) (p q : Mt) (hx : (Mt.n1 7 g c (Mt.n2 4 ga ca p q)).has w) (h0 : w0.heap.size ≤ w.heap.size) :
    Calls Tryz.prog 25 #[.agg #[.int .i64 7, .int .i64 0, .slice (some ⟨g, 0, none⟩) 1 c]] w (ByOut dsRule (Mt.n1 7 g c (Mt.n2 4 ga ca p q)) w0 w) := by
  have hr : dsRule (Mt.n1 7 g c (Mt.n2 4 ga ca p q)).w = some (W.n2 4 (W.n1 7 p.w) (W.n1 7 q.w)) := rfl
  have HX := Lib.hid hx
  have HR := Lib.hid hr
  have HZ := Lib.hid h0
  clear hx hr h0
  go_enter Tryz.func25, Tryz.ntmps25
  go_upto_region 4 with fail
  have hh : ByHead w ((w.alloc (Obj.cells #[.int .i64 7, .int .i64 0, .slice (some ⟨g, 0, none⟩) 1 c] 29)).alloc (Obj.cells #[.int .i64 0, .int .i64 0, .slice none 0 0] 29)) (Mt.n1 7 g c (Mt.n2 4 ga ca p q)) := by_head w (Mt.n1 7 g c (Mt.n2 4 ga ca p q))
  obtain ⟨W2, hW2⟩ : ∃ W2, (w.alloc (Obj.cells #[.int .i64 7, .int .i64 0, .slice (some ⟨g, 0, none⟩) 1 c] 29)).alloc (Obj.cells #[.int .i64 0, .int .i64 0, .slice none 0 0] 29) = W2 := ⟨_, rfl⟩
  rw [hW2] at hh ⊢
  clear hW2
  have hs2 : w.heap.size + 2 ≤ W2.heap.size := lt_blk hh.res
  have hX2 : (Mt.n1 7 g c (Mt.n2 4 ga ca p q)).has W2 := HX.out.below hh.below (fun g hg => HX.out.lt g hg)
  have hgl_g : g < w.heap.size := HX.out.lt g (by simp [Mt.blks])
  have hgl_ga : ga < w.heap.size := HX.out.lt ga (by simp [Mt.blks])
  obtain ⟨_, ka0, ha0⟩ := id hX2
  obtain ⟨xf0, xf1, xf2⟩ : (W2.cell? ⟨w.heap.size, 0, none⟩ = some (.int .i64 7) ∧ W2.cell? ⟨w.heap.size, 1, none⟩ = some (.int .i64 0) ∧ W2.cell? ⟨w.heap.size, 2, none⟩ = some (.slice (some ⟨g, 0, none⟩) 1 c)) := box_kid hh.box
  obtain ⟨kf0, kf1, kf2⟩ : (W2.cell? ⟨g, 0, none⟩ = some (.int .i64 4) ∧ W2.cell? ⟨g, 1, none⟩ = some (.int .i64 0) ∧ W2.cell? ⟨g, 2, none⟩ = some (.slice (some ⟨ga, 0, none⟩) 2 ca)) := kid_at ka0
  have HHD := Lib.hid hh
  have HX2 := Lib.hid hX2
  clear hh hX2 ka0 ha0
  go_upto_region 7 with fail
  have hU : Below W2.heap.size W2 (W2.alloc (Obj.cells #[.int .i64 4, .int .i64 0, .slice (some ⟨ga, 0, none⟩) 2 ca] 29)) := up_alloc _ _
  have hbx0 : (W2.alloc (Obj.cells #[.int .i64 4, .int .i64 0, .slice (some ⟨ga, 0, none⟩) 2 ca] 29)).heap[W2.heap.size]? = some (mtObj1 (Mt.n2 4 ga ca p q)) := heap_new _ _
  obtain ⟨W3, hW3⟩ : ∃ W3, (W2.alloc (Obj.cells #[.int .i64 4, .int .i64 0, .slice (some ⟨ga, 0, none⟩) 2 ca] 29)) = W3 := ⟨_, rfl⟩
  rw [hW3] at hU hbx0 ⊢
  clear hW3 xf0 xf1 xf2 kf0 kf1 kf2
  have hsz3 : W2.heap.size + 1 ≤ W3.heap.size := lt_blk hbx0
  have hX5 : (Mt.n1 7 g c (Mt.n2 4 ga ca p q)).has W3.drew := (HX2.out.made hU).made (Below.refl _ _).drew
  have hH5 : ByHead w W3.drew (Mt.n1 7 g c (Mt.n2 4 ga ca p q)) := (HHD.out.made hU).made (Below.refl _ _).drew
  obtain ⟨_, ka0, ha0⟩ := id hX5
  obtain ⟨_, ka1, kb1, ha1, hb1⟩ := id ha0
  have HS0 := Lib.hid (show AllS [(w.heap.size, 0, (Mt.n1 7 g c (Mt.n2 4 ga ca p q))), (W2.heap.size, 0, (Mt.n2 4 ga ca p q)), (ga, 0, p), (ga, 3, q)] W3.drew from ⟨box_kid hH5.box, (box_kid hbx0).draw, kid_at ka1, kid_at kb1, trivial⟩)
  have HP := Lib.hid ha1
  have HQ := Lib.hid hb1
  have HH5 := Lib.hid hH5
  clear hU hbx0 hX5 hH5 ka0 ha0 ka1 kb1 ha1 hb1 HHD HX2
  have hsb : W3.heap.size ≤ W3.drew.heap.size := Nat.le_refl _
  have t1 : True := trivial
  have t2 : True := trivial
  have t3 : True := trivial
  go_region_held3 (fun w' => ((w'.cell? ⟨w.heap.size, 0, none⟩ = some (.int .i64 7) ∧ w'.cell? ⟨w.heap.size, 1, none⟩ = some (.int .i64 0) ∧ w'.cell? ⟨w.heap.size, 2, none⟩ = some (.slice (some ⟨g, 0, none⟩) 1 c)) ∧ (w'.cell? ⟨W2.heap.size, 0, none⟩ = some (.int .i64 4) ∧ w'.cell? ⟨W2.heap.size, 1, none⟩ = some (.int .i64 0) ∧ w'.cell? ⟨W2.heap.size, 2, none⟩ = some (.slice (some ⟨ga, 0, none⟩) 2 ca)) ∧ (w'.cell? ⟨ga, 0, none⟩ = some (.int .i64 p.kk) ∧ w'.cell? ⟨ga, 1, none⟩ = some (.int .i64 p.ks) ∧ w'.cell? ⟨ga, 2, none⟩ = some (.slice p.kA p.kids.length p.kc)) ∧ (w'.cell? ⟨ga, 3, none⟩ = some (.int .i64 q.kk) ∧ w'.cell? ⟨ga, 4, none⟩ = some (.int .i64 q.ks) ∧ w'.cell? ⟨ga, 5, none⟩ = some (.slice q.kA q.kids.length q.kc)) ∧ True)) (first | exact HS0.out | exact (HS0.out).up (up_alloc _ _) | exact ((HS0.out).up (up_alloc _ _)).up (up_alloc _ _) | exact HS1.out | exact (HS1.out).up (up_alloc _ _) | exact ((HS1.out).up (up_alloc _ _)).up (up_alloc _ _) | exact HS2.out | exact (HS2.out).up (up_alloc _ _) | exact HS3.out | exact AllS.set3 _ _ _ HS3.out ⟨by omega, by omega, by omega, by omega, trivial⟩) (first
      | (have _t := t1; go_at_call 16; refine Calls.mono (wmake_any _ _ _ _ _) ?_; rintro e e1 ⟨rfl, hp1⟩; have hb1 : Below (W3.drew.alloc (mtObj1 p)).heap.size (W3.drew.alloc (mtObj1 p)) e1 := hp1; have HP1 := Lib.hid (show e1.heap[W3.drew.heap.size]? = some (mtObj1 p) from (hb1.block _ (by simp <;> omega)).trans (heap_new _ _)); have HB1 := Lib.hid hb1; have HV1 := Lib.hid (up_call hb1); have HU1 := Lib.hid (HV1.out); have HS1 := Lib.hid (HS0.out.up HV1.out); clear hb1 hp1 t1)
      | (have _t := t1; go_at_call 16; refine Calls.mono (wmake_any _ _ _ _ _) ?_; rintro e e1 ⟨rfl, hp1⟩; have hb1 : Below ((W3.drew.alloc (mtObj1 p)).alloc (mtObj1 q)).heap.size ((W3.drew.alloc (mtObj1 p)).alloc (mtObj1 q)) e1 := hp1; have HP1 := Lib.hid (show e1.heap[W3.drew.heap.size]? = some (mtObj1 p) from (hb1.block _ (by simp <;> omega)).trans (heap_old2 _ _ _)); have HQ1 := Lib.hid (show e1.heap[W3.drew.heap.size + 1]? = some (mtObj1 q) from (hb1.block _ (by simp <;> omega)).trans (heap_new2 _ _ _)); have HB1 := Lib.hid hb1; have HV1 := Lib.hid ((up_alloc W3.drew _).trans (((up_alloc _ _).trans (hb1.mono (by simp <;> omega))).mono (by simp <;> omega))); have HU1 := Lib.hid (HV1.out); have HS1 := Lib.hid (HS0.out.up HV1.out); clear hb1 hp1 t1)
      | (have _t := t1; go_at_call 16; refine Calls.mono (wmake_any _ _ _ _ _) ?_; rintro e e1 ⟨rfl, hp1⟩; have hb1 : Below ((W3.drew.alloc (mtObj1 q)).alloc (mtObj1 p)).heap.size ((W3.drew.alloc (mtObj1 q)).alloc (mtObj1 p)) e1 := hp1; have HQ1 := Lib.hid (show e1.heap[W3.drew.heap.size]? = some (mtObj1 q) from (hb1.block _ (by simp <;> omega)).trans (heap_old2 _ _ _)); have HP1 := Lib.hid (show e1.heap[W3.drew.heap.size + 1]? = some (mtObj1 p) from (hb1.block _ (by simp <;> omega)).trans (heap_new2 _ _ _)); have HB1 := Lib.hid hb1; have HV1 := Lib.hid ((up_alloc W3.drew _).trans (((up_alloc _ _).trans (hb1.mono (by simp <;> omega))).mono (by simp <;> omega))); have HU1 := Lib.hid (HV1.out); have HS1 := Lib.hid (HS0.out.up HV1.out); clear hb1 hp1 t1)
      | (have _t := t2; go_at_call 16; refine Calls.mono (wmake_any _ _ _ _ _) ?_; rintro e e2 ⟨rfl, hp2⟩; have hb2 : Below (e1.alloc (mtObj1 q)).heap.size (e1.alloc (mtObj1 q)) e2 := hp2; have HQ2 := Lib.hid (show e2.heap[e1.heap.size]? = some (mtObj1 q) from (hb2.block _ (by simp <;> omega)).trans (heap_new _ _)); have HP2 := Lib.hid (show e2.heap[_]? = some (mtObj1 p) from (((up_call hb2).block _ (lt_blk HP1.out)).trans HP1.out)); have HB2 := Lib.hid hb2; have HV2 := Lib.hid (up_call hb2); have HU2 := Lib.hid (up_trans HU1.out HV2.out); have HS2 := Lib.hid (HS1.out.up HV2.out); clear hb2 hp2 t2)
      | (have _t := t2; go_at_call 16; refine Calls.mono (wmake_any _ _ _ _ _) ?_; rintro e e2 ⟨rfl, hp2⟩; have hb2 : Below e1.heap.size e1 e2 := hp2; have HQ2 := Lib.hid (show e2.heap[_]? = some (mtObj1 q) from ((hb2.block _ (lt_blk HQ1.out)).trans HQ1.out)); have HP2 := Lib.hid (show e2.heap[_]? = some (mtObj1 p) from ((hb2.block _ (lt_blk HP1.out)).trans HP1.out)); have HB2 := Lib.hid hb2; have HV2 := Lib.hid (hb2); have HU2 := Lib.hid (up_trans HU1.out HV2.out); have HS2 := Lib.hid (HS1.out.up HV2.out); clear hb2 hp2 t2)
      | (have _t := t3; go_at_call 16; refine Calls.mono (wmake_any _ _ _ _ _) ?_; rintro e e3 ⟨rfl, hp3⟩; have hb3 : Below (e2.alloc (mtObj2 (Mt.n1 7 W3.drew.heap.size 1 p) (Mt.n1 7 e1.heap.size 1 q))).heap.size (e2.alloc (mtObj2 (Mt.n1 7 W3.drew.heap.size 1 p) (Mt.n1 7 e1.heap.size 1 q))) e3 := hp3; have HB3 := Lib.hid hb3; have HV3 := Lib.hid (up_call hb3); have HU3 := Lib.hid (up_trans HU2.out HV3.out); have HS3 := Lib.hid (HS2.out.up HV3.out); obtain ⟨⟨y0, y1, y2⟩, z0, z1, z2, zl⟩ := res_at (HH5.out.made HU3.out).res; clear hb3 hp3 t3)
      | (have _t := t3; go_at_call 16; refine Calls.mono (wmake_any _ _ _ _ _) ?_; rintro e e3 ⟨rfl, hp3⟩; have hb3 : Below (e2.alloc (mtObj2 (Mt.n1 7 W3.drew.heap.size 1 p) (Mt.n1 7 (W3.drew.heap.size + 1) 1 q))).heap.size (e2.alloc (mtObj2 (Mt.n1 7 W3.drew.heap.size 1 p) (Mt.n1 7 (W3.drew.heap.size + 1) 1 q))) e3 := hp3; have HB3 := Lib.hid hb3; have HV3 := Lib.hid (up_call hb3); have HU3 := Lib.hid (up_trans HU2.out HV3.out); have HS3 := Lib.hid (HS2.out.up HV3.out); obtain ⟨⟨y0, y1, y2⟩, z0, z1, z2, zl⟩ := res_at (HH5.out.made HU3.out).res; clear hb3 hp3 t3)
      | (have _t := t3; go_at_call 16; refine Calls.mono (wmake_any _ _ _ _ _) ?_; rintro e e3 ⟨rfl, hp3⟩; have hb3 : Below (e2.alloc (mtObj2 (Mt.n1 7 (W3.drew.heap.size + 1) 1 p) (Mt.n1 7 W3.drew.heap.size 1 q))).heap.size (e2.alloc (mtObj2 (Mt.n1 7 (W3.drew.heap.size + 1) 1 p) (Mt.n1 7 W3.drew.heap.size 1 q))) e3 := hp3; have HB3 := Lib.hid hb3; have HV3 := Lib.hid (up_call hb3); have HU3 := Lib.hid (up_trans HU2.out HV3.out); have HS3 := Lib.hid (HS2.out.up HV3.out); obtain ⟨⟨y0, y1, y2⟩, z0, z1, z2, zl⟩ := res_at (HH5.out.made HU3.out).res; clear hb3 hp3 t3))
  all_goals
    go_wp2_with fail
    have hsz_0 : w.heap.size + 2 ≤ W3.drew.heap.size := by omega
    have u1 := HU1.out
    have u2 := HU2.out
    have u3 := HU3.out
    have l1 := u1.size
    have l2 := u2.size
    have ub : Below w.heap.size w e3 := HH5.out.below.trans (u3.mono (by omega))
    have fp : Fr (Mt.n1 7 g c (Mt.n2 4 ga ca p q)) (w.heap.size + 2) w0.heap.size p := Fr.kid (Fr.kid (Fr.self _ _ _) (z := (Mt.n2 4 ga ca p q)) (by simp [Mt.kids])) (by simp [Mt.kids])
    have fq : Fr (Mt.n1 7 g c (Mt.n2 4 ga ca p q)) (w.heap.size + 2) w0.heap.size q := Fr.kid (Fr.kid (Fr.self _ _ _) (z := (Mt.n2 4 ga ca p q)) (by simp [Mt.kids])) (by simp [Mt.kids])
    have hp2 : p.has e2 := HP.out.made u2
    have hq2 : q.has e2 := HQ.out.made u2
    first
      | exact bodyPost_ret (v := .tuple #[(Mt.n2 4 e2.heap.size 2 (Mt.n1 7 W3.drew.heap.size 1 p) (Mt.n1 7 e1.heap.size 1 q)).val, .bool true]) (by simp [results, Tryz.results25, go_sem, y0, y1, y2]; rfl) rfl (by_fr HR.out HX.out HZ.out (mk2_has (W := e2) 4 (n1_of (x := p) HP2.out hp2) (n1_of (x := q) HQ2.out hq2) (up_next HB3.out) : (Mt.n2 4 e2.heap.size 2 (Mt.n1 7 W3.drew.heap.size 1 p) (Mt.n1 7 e1.heap.size 1 q)).has e3) rfl ub (Fr.n2 (by omega) (Fr.n1 (by omega) fp) (Fr.n1 (by omega) fq)))
      | exact bodyPost_ret (v := .tuple #[(Mt.n2 4 e2.heap.size 2 (Mt.n1 7 W3.drew.heap.size 1 p) (Mt.n1 7 (W3.drew.heap.size + 1) 1 q)).val, .bool true]) (by simp [results, Tryz.results25, go_sem, y0, y1, y2]; rfl) rfl (by_fr HR.out HX.out HZ.out (mk2_has (W := e2) 4 (n1_of (x := p) HP2.out hp2) (n1_of (x := q) HQ2.out hq2) (up_next HB3.out) : (Mt.n2 4 e2.heap.size 2 (Mt.n1 7 W3.drew.heap.size 1 p) (Mt.n1 7 (W3.drew.heap.size + 1) 1 q)).has e3) rfl ub (Fr.n2 (by omega) (Fr.n1 (by omega) fp) (Fr.n1 (by omega) fq)))
      | exact bodyPost_ret (v := .tuple #[(Mt.n2 4 e2.heap.size 2 (Mt.n1 7 (W3.drew.heap.size + 1) 1 p) (Mt.n1 7 W3.drew.heap.size 1 q)).val, .bool true]) (by simp [results, Tryz.results25, go_sem, y0, y1, y2]; rfl) rfl (by_fr HR.out HX.out HZ.out (mk2_has (W := e2) 4 (n1_of (x := p) HP2.out hp2) (n1_of (x := q) HQ2.out hq2) (up_next HB3.out) : (Mt.n2 4 e2.heap.size 2 (Mt.n1 7 (W3.drew.heap.size + 1) 1 p) (Mt.n1 7 W3.drew.heap.size 1 q)).has e3) rfl ub (Fr.n2 (by omega) (Fr.n1 (by omega) fp) (Fr.n1 (by omega) fq)))
set_option maxRecDepth 100000 in
set_option maxHeartbeats 3200000 in
theorem ds_in75 (w0 w : World) (g c ga ca : Nat) (p q : Mt) (hx : (Mt.n1 7 g c (Mt.n2 5 ga ca p q)).has w) (h0 : w0.heap.size ≤ w.heap.size) :
    Calls Tryz.prog 25 #[.agg #[.int .i64 7, .int .i64 0, .slice (some ⟨g, 0, none⟩) 1 c]] w (ByOut dsRule (Mt.n1 7 g c (Mt.n2 5 ga ca p q)) w0 w) := by
  have hr : dsRule (Mt.n1 7 g c (Mt.n2 5 ga ca p q)).w = some (W.n2 5 (W.n1 7 p.w) (W.n1 7 q.w)) := rfl
  have HX := Lib.hid hx
  have HR := Lib.hid hr
  have HZ := Lib.hid h0
  clear hx hr h0
  go_enter Tryz.func25, Tryz.ntmps25
  go_upto_region 4 with fail
  have hh : ByHead w ((w.alloc (Obj.cells #[.int .i64 7, .int .i64 0, .slice (some ⟨g, 0, none⟩) 1 c] 29)).alloc (Obj.cells #[.int .i64 0, .int .i64 0, .slice none 0 0] 29)) (Mt.n1 7 g c (Mt.n2 5 ga ca p q)) := by_head w (Mt.n1 7 g c (Mt.n2 5 ga ca p q))
  obtain ⟨W2, hW2⟩ : ∃ W2, (w.alloc (Obj.cells #[.int .i64 7, .int .i64 0, .slice (some ⟨g, 0, none⟩) 1 c] 29)).alloc (Obj.cells #[.int .i64 0, .int .i64 0, .slice none 0 0] 29) = W2 := ⟨_, rfl⟩
  rw [hW2] at hh ⊢
  clear hW2
  have hs2 : w.heap.size + 2 ≤ W2.heap.size := lt_blk hh.res
  have hX2 : (Mt.n1 7 g c (Mt.n2 5 ga ca p q)).has W2 := HX.out.below hh.below (fun g hg => HX.out.lt g hg)
  have hgl_g : g < w.heap.size := HX.out.lt g (by simp [Mt.blks])
  have hgl_ga : ga < w.heap.size := HX.out.lt ga (by simp [Mt.blks])
  obtain ⟨_, ka0, ha0⟩ := id hX2
  obtain ⟨xf0, xf1, xf2⟩ : (W2.cell? ⟨w.heap.size, 0, none⟩ = some (.int .i64 7) ∧ W2.cell? ⟨w.heap.size, 1, none⟩ = some (.int .i64 0) ∧ W2.cell? ⟨w.heap.size, 2, none⟩ = some (.slice (some ⟨g, 0, none⟩) 1 c)) := box_kid hh.box
  obtain ⟨kf0, kf1, kf2⟩ : (W2.cell? ⟨g, 0, none⟩ = some (.int .i64 5) ∧ W2.cell? ⟨g, 1, none⟩ = some (.int .i64 0) ∧ W2.cell? ⟨g, 2, none⟩ = some (.slice (some ⟨ga, 0, none⟩) 2 ca)) := kid_at ka0
  have HHD := Lib.hid hh
  have HX2 := Lib.hid hX2
  clear hh hX2 ka0 ha0
  go_upto_region 7 with fail
  have hU : Below W2.heap.size W2 (W2.alloc (Obj.cells #[.int .i64 5, .int .i64 0, .slice (some ⟨ga, 0, none⟩) 2 ca] 29)) := up_alloc _ _
  have hbx0 : (W2.alloc (Obj.cells #[.int .i64 5, .int .i64 0, .slice (some ⟨ga, 0, none⟩) 2 ca] 29)).heap[W2.heap.size]? = some (mtObj1 (Mt.n2 5 ga ca p q)) := heap_new _ _
  obtain ⟨W3, hW3⟩ : ∃ W3, (W2.alloc (Obj.cells #[.int .i64 5, .int .i64 0, .slice (some ⟨ga, 0, none⟩) 2 ca] 29)) = W3 := ⟨_, rfl⟩
  rw [hW3] at hU hbx0 ⊢
  clear hW3 xf0 xf1 xf2 kf0 kf1 kf2
  have hsz3 : W2.heap.size + 1 ≤ W3.heap.size := lt_blk hbx0
  have hX5 : (Mt.n1 7 g c (Mt.n2 5 ga ca p q)).has W3.drew := (HX2.out.made hU).made (Below.refl _ _).drew
  have hH5 : ByHead w W3.drew (Mt.n1 7 g c (Mt.n2 5 ga ca p q)) := (HHD.out.made hU).made (Below.refl _ _).drew
  obtain ⟨_, ka0, ha0⟩ := id hX5
  obtain ⟨_, ka1, kb1, ha1, hb1⟩ := id ha0
  have HS0 := Lib.hid (show AllS [(w.heap.size, 0, (Mt.n1 7 g c (Mt.n2 5 ga ca p q))), (W2.heap.size, 0, (Mt.n2 5 ga ca p q)), (ga, 0, p), (ga, 3, q)] W3.drew from ⟨box_kid hH5.box, (box_kid hbx0).draw, kid_at ka1, kid_at kb1, trivial⟩)
  have HP := Lib.hid ha1
  have HQ := Lib.hid hb1
  have HH5 := Lib.hid hH5
  clear hU hbx0 hX5 hH5 ka0 ha0 ka1 kb1 ha1 hb1 HHD HX2
  have hsb : W3.heap.size ≤ W3.drew.heap.size := Nat.le_refl _
  have t1 : True := trivial
  have t2 : True := trivial
  have t3 : True := trivial
  go_region_held3 (fun w' => ((w'.cell? ⟨w.heap.size, 0, none⟩ = some (.int .i64 7) ∧ w'.cell? ⟨w.heap.size, 1, none⟩ = some (.int .i64 0) ∧ w'.cell? ⟨w.heap.size, 2, none⟩ = some (.slice (some ⟨g, 0, none⟩) 1 c)) ∧ (w'.cell? ⟨W2.heap.size, 0, none⟩ = some (.int .i64 5) ∧ w'.cell? ⟨W2.heap.size, 1, none⟩ = some (.int .i64 0) ∧ w'.cell? ⟨W2.heap.size, 2, none⟩ = some (.slice (some ⟨ga, 0, none⟩) 2 ca)) ∧ (w'.cell? ⟨ga, 0, none⟩ = some (.int .i64 p.kk) ∧ w'.cell? ⟨ga, 1, none⟩ = some (.int .i64 p.ks) ∧ w'.cell? ⟨ga, 2, none⟩ = some (.slice p.kA p.kids.length p.kc)) ∧ (w'.cell? ⟨ga, 3, none⟩ = some (.int .i64 q.kk) ∧ w'.cell? ⟨ga, 4, none⟩ = some (.int .i64 q.ks) ∧ w'.cell? ⟨ga, 5, none⟩ = some (.slice q.kA q.kids.length q.kc)) ∧ True)) (first | exact HS0.out | exact (HS0.out).up (up_alloc _ _) | exact ((HS0.out).up (up_alloc _ _)).up (up_alloc _ _) | exact HS1.out | exact (HS1.out).up (up_alloc _ _) | exact ((HS1.out).up (up_alloc _ _)).up (up_alloc _ _) | exact HS2.out | exact (HS2.out).up (up_alloc _ _) | exact HS3.out | exact AllS.set3 _ _ _ HS3.out ⟨by omega, by omega, by omega, by omega, trivial⟩) (first
      | (have _t := t1; go_at_call 16; refine Calls.mono (wmake_any _ _ _ _ _) ?_; rintro e e1 ⟨rfl, hp1⟩; have hb1 : Below (W3.drew.alloc (mtObj1 p)).heap.size (W3.drew.alloc (mtObj1 p)) e1 := hp1; have HP1 := Lib.hid (show e1.heap[W3.drew.heap.size]? = some (mtObj1 p) from (hb1.block _ (by simp <;> omega)).trans (heap_new _ _)); have HB1 := Lib.hid hb1; have HV1 := Lib.hid (up_call hb1); have HU1 := Lib.hid (HV1.out); have HS1 := Lib.hid (HS0.out.up HV1.out); clear hb1 hp1 t1)
      | (have _t := t1; go_at_call 16; refine Calls.mono (wmake_any _ _ _ _ _) ?_; rintro e e1 ⟨rfl, hp1⟩; have hb1 : Below ((W3.drew.alloc (mtObj1 p)).alloc (mtObj1 q)).heap.size ((W3.drew.alloc (mtObj1 p)).alloc (mtObj1 q)) e1 := hp1; have HP1 := Lib.hid (show e1.heap[W3.drew.heap.size]? = some (mtObj1 p) from (hb1.block _ (by simp <;> omega)).trans (heap_old2 _ _ _)); have HQ1 := Lib.hid (show e1.heap[W3.drew.heap.size + 1]? = some (mtObj1 q) from (hb1.block _ (by simp <;> omega)).trans (heap_new2 _ _ _)); have HB1 := Lib.hid hb1; have HV1 := Lib.hid ((up_alloc W3.drew _).trans (((up_alloc _ _).trans (hb1.mono (by simp <;> omega))).mono (by simp <;> omega))); have HU1 := Lib.hid (HV1.out); have HS1 := Lib.hid (HS0.out.up HV1.out); clear hb1 hp1 t1)
      | (have _t := t1; go_at_call 16; refine Calls.mono (wmake_any _ _ _ _ _) ?_; rintro e e1 ⟨rfl, hp1⟩; have hb1 : Below ((W3.drew.alloc (mtObj1 q)).alloc (mtObj1 p)).heap.size ((W3.drew.alloc (mtObj1 q)).alloc (mtObj1 p)) e1 := hp1; have HQ1 := Lib.hid (show e1.heap[W3.drew.heap.size]? = some (mtObj1 q) from (hb1.block _ (by simp <;> omega)).trans (heap_old2 _ _ _)); have HP1 := Lib.hid (show e1.heap[W3.drew.heap.size + 1]? = some (mtObj1 p) from (hb1.block _ (by simp <;> omega)).trans (heap_new2 _ _ _)); have HB1 := Lib.hid hb1; have HV1 := Lib.hid ((up_alloc W3.drew _).trans (((up_alloc _ _).trans (hb1.mono (by simp <;> omega))).mono (by simp <;> omega))); have HU1 := Lib.hid (HV1.out); have HS1 := Lib.hid (HS0.out.up HV1.out); clear hb1 hp1 t1)
      | (have _t := t2; go_at_call 16; refine Calls.mono (wmake_any _ _ _ _ _) ?_; rintro e e2 ⟨rfl, hp2⟩; have hb2 : Below (e1.alloc (mtObj1 q)).heap.size (e1.alloc (mtObj1 q)) e2 := hp2; have HQ2 := Lib.hid (show e2.heap[e1.heap.size]? = some (mtObj1 q) from (hb2.block _ (by simp <;> omega)).trans (heap_new _ _)); have HP2 := Lib.hid (show e2.heap[_]? = some (mtObj1 p) from (((up_call hb2).block _ (lt_blk HP1.out)).trans HP1.out)); have HB2 := Lib.hid hb2; have HV2 := Lib.hid (up_call hb2); have HU2 := Lib.hid (up_trans HU1.out HV2.out); have HS2 := Lib.hid (HS1.out.up HV2.out); clear hb2 hp2 t2)
      | (have _t := t2; go_at_call 16; refine Calls.mono (wmake_any _ _ _ _ _) ?_; rintro e e2 ⟨rfl, hp2⟩; have hb2 : Below e1.heap.size e1 e2 := hp2; have HQ2 := Lib.hid (show e2.heap[_]? = some (mtObj1 q) from ((hb2.block _ (lt_blk HQ1.out)).trans HQ1.out)); have HP2 := Lib.hid (show e2.heap[_]? = some (mtObj1 p) from ((hb2.block _ (lt_blk HP1.out)).trans HP1.out)); have HB2 := Lib.hid hb2; have HV2 := Lib.hid (hb2); have HU2 := Lib.hid (up_trans HU1.out HV2.out); have HS2 := Lib.hid (HS1.out.up HV2.out); clear hb2 hp2 t2)
      | (have _t := t3; go_at_call 16; refine Calls.mono (wmake_any _ _ _ _ _) ?_; rintro e e3 ⟨rfl, hp3⟩; have hb3 : Below (e2.alloc (mtObj2 (Mt.n1 7 W3.drew.heap.size 1 p) (Mt.n1 7 e1.heap.size 1 q))).heap.size (e2.alloc (mtObj2 (Mt.n1 7 W3.drew.heap.size 1 p) (Mt.n1 7 e1.heap.size 1 q))) e3 := hp3; have HB3 := Lib.hid hb3; have HV3 := Lib.hid (up_call hb3); have HU3 := Lib.hid (up_trans HU2.out HV3.out); have HS3 := Lib.hid (HS2.out.up HV3.out); obtain ⟨⟨y0, y1, y2⟩, z0, z1, z2, zl⟩ := res_at (HH5.out.made HU3.out).res; clear hb3 hp3 t3)
      | (have _t := t3; go_at_call 16; refine Calls.mono (wmake_any _ _ _ _ _) ?_; rintro e e3 ⟨rfl, hp3⟩; have hb3 : Below (e2.alloc (mtObj2 (Mt.n1 7 W3.drew.heap.size 1 p) (Mt.n1 7 (W3.drew.heap.size + 1) 1 q))).heap.size (e2.alloc (mtObj2 (Mt.n1 7 W3.drew.heap.size 1 p) (Mt.n1 7 (W3.drew.heap.size + 1) 1 q))) e3 := hp3; have HB3 := Lib.hid hb3; have HV3 := Lib.hid (up_call hb3); have HU3 := Lib.hid (up_trans HU2.out HV3.out); have HS3 := Lib.hid (HS2.out.up HV3.out); obtain ⟨⟨y0, y1, y2⟩, z0, z1, z2, zl⟩ := res_at (HH5.out.made HU3.out).res; clear hb3 hp3 t3)
      | (have _t := t3; go_at_call 16; refine Calls.mono (wmake_any _ _ _ _ _) ?_; rintro e e3 ⟨rfl, hp3⟩; have hb3 : Below (e2.alloc (mtObj2 (Mt.n1 7 (W3.drew.heap.size + 1) 1 p) (Mt.n1 7 W3.drew.heap.size 1 q))).heap.size (e2.alloc (mtObj2 (Mt.n1 7 (W3.drew.heap.size + 1) 1 p) (Mt.n1 7 W3.drew.heap.size 1 q))) e3 := hp3; have HB3 := Lib.hid hb3; have HV3 := Lib.hid (up_call hb3); have HU3 := Lib.hid (up_trans HU2.out HV3.out); have HS3 := Lib.hid (HS2.out.up HV3.out); obtain ⟨⟨y0, y1, y2⟩, z0, z1, z2, zl⟩ := res_at (HH5.out.made HU3.out).res; clear hb3 hp3 t3))
  all_goals
    go_wp2_with fail
    have hsz_0 : w.heap.size + 2 ≤ W3.drew.heap.size := by omega
    have u1 := HU1.out
    have u2 := HU2.out
    have u3 := HU3.out
    have l1 := u1.size
    have l2 := u2.size
    have ub : Below w.heap.size w e3 := HH5.out.below.trans (u3.mono (by omega))
    have fp : Fr (Mt.n1 7 g c (Mt.n2 5 ga ca p q)) (w.heap.size + 2) w0.heap.size p := Fr.kid (Fr.kid (Fr.self _ _ _) (z := (Mt.n2 5 ga ca p q)) (by simp [Mt.kids])) (by simp [Mt.kids])
    have fq : Fr (Mt.n1 7 g c (Mt.n2 5 ga ca p q)) (w.heap.size + 2) w0.heap.size q := Fr.kid (Fr.kid (Fr.self _ _ _) (z := (Mt.n2 5 ga ca p q)) (by simp [Mt.kids])) (by simp [Mt.kids])
    have hp2 : p.has e2 := HP.out.made u2
    have hq2 : q.has e2 := HQ.out.made u2
    first
      | exact bodyPost_ret (v := .tuple #[(Mt.n2 5 e2.heap.size 2 (Mt.n1 7 W3.drew.heap.size 1 p) (Mt.n1 7 e1.heap.size 1 q)).val, .bool true]) (by simp [results, Tryz.results25, go_sem, y0, y1, y2]; rfl) rfl (by_fr HR.out HX.out HZ.out (mk2_has (W := e2) 5 (n1_of (x := p) HP2.out hp2) (n1_of (x := q) HQ2.out hq2) (up_next HB3.out) : (Mt.n2 5 e2.heap.size 2 (Mt.n1 7 W3.drew.heap.size 1 p) (Mt.n1 7 e1.heap.size 1 q)).has e3) rfl ub (Fr.n2 (by omega) (Fr.n1 (by omega) fp) (Fr.n1 (by omega) fq)))
      | exact bodyPost_ret (v := .tuple #[(Mt.n2 5 e2.heap.size 2 (Mt.n1 7 W3.drew.heap.size 1 p) (Mt.n1 7 (W3.drew.heap.size + 1) 1 q)).val, .bool true]) (by simp [results, Tryz.results25, go_sem, y0, y1, y2]; rfl) rfl (by_fr HR.out HX.out HZ.out (mk2_has (W := e2) 5 (n1_of (x := p) HP2.out hp2) (n1_of (x := q) HQ2.out hq2) (up_next HB3.out) : (Mt.n2 5 e2.heap.size 2 (Mt.n1 7 W3.drew.heap.size 1 p) (Mt.n1 7 (W3.drew.heap.size + 1) 1 q)).has e3) rfl ub (Fr.n2 (by omega) (Fr.n1 (by omega) fp) (Fr.n1 (by omega) fq)))
      | exact bodyPost_ret (v := .tuple #[(Mt.n2 5 e2.heap.size 2 (Mt.n1 7 (W3.drew.heap.size + 1) 1 p) (Mt.n1 7 W3.drew.heap.size 1 q)).val, .bool true]) (by simp [results, Tryz.results25, go_sem, y0, y1, y2]; rfl) rfl (by_fr HR.out HX.out HZ.out (mk2_has (W := e2) 5 (n1_of (x := p) HP2.out hp2) (n1_of (x := q) HQ2.out hq2) (up_next HB3.out) : (Mt.n2 5 e2.heap.size 2 (Mt.n1 7 (W3.drew.heap.size + 1) 1 p) (Mt.n1 7 W3.drew.heap.size 1 q)).has e3) rfl ub (Fr.n2 (by omega) (Fr.n1 (by omega) fp) (Fr.n1 (by omega) fq)))
end Go.Proofs.YtccknopchddicaaGreatDoor
