/- contract: the rule of FormTurned, grouped from the other side. -/
import Derived.Test.YtccknopchddicaaGreatDoorMGl
import Derived.Test.YtccknopchddicaaGreatDoorMGx
set_option linter.unusedSimpArgs false
set_option linter.unusedVariables false
set_option linter.unnecessarySimpa false
namespace Go.Proofs.YtccknopchddicaaGreatDoor
open Go.RowKit Stile
set_option maxRecDepth 100000 in
set_option maxHeartbeats 3200000 in
theorem tu_one4 (pa : Addr) (w0 w : World) (g : Nat) (c : Nat) (ga : Nat) (ca : Nat) (p : Mt) (q : Mt) (b : Mt) (hx : (Mt.n2 4 g c (Mt.n2 4 ga ca p q) b).has w) (h0 : w0.heap.size ≤ w.heap.size) (hc : w.cell? pa = some (.bool true)) :
    Calls Tryz.prog 35 #[.agg #[.int .i64 4, .int .i64 0, .slice (some ⟨g, 0, none⟩) 2 c], .pointer (some pa)] w (ByOut (tuRule true) (Mt.n2 4 g c (Mt.n2 4 ga ca p q) b) w0 w) := by
  have hr : (tuRule true) (Mt.n2 4 g c (Mt.n2 4 ga ca p q) b).w = some (W.n2 4 p.w (W.n2 4 q.w b.w)) := rfl
  have hcl_0 := lt_of_cell hc
  have HX := Lib.hid hx
  have HR := Lib.hid hr
  have HZ := Lib.hid h0
  clear hx hr h0
  go_enter Tryz.func35, Tryz.ntmps35
  go_upto_region 3 with fail
  have hh : ByHead w ((w.alloc (Obj.cells #[.int .i64 4, .int .i64 0, .slice (some ⟨g, 0, none⟩) 2 c] 29)).alloc (Obj.cells #[.int .i64 0, .int .i64 0, .slice none 0 0] 29)) (Mt.n2 4 g c (Mt.n2 4 ga ca p q) b) := by_head w (Mt.n2 4 g c (Mt.n2 4 ga ca p q) b)
  obtain ⟨W2, hW2⟩ : ∃ W2, (w.alloc (Obj.cells #[.int .i64 4, .int .i64 0, .slice (some ⟨g, 0, none⟩) 2 c] 29)).alloc (Obj.cells #[.int .i64 0, .int .i64 0, .slice none 0 0] 29) = W2 := ⟨_, rfl⟩
  rw [hW2] at hh ⊢
  clear hW2
  have hs2 : w.heap.size + 2 ≤ W2.heap.size := lt_blk hh.res
  have hX2 : (Mt.n2 4 g c (Mt.n2 4 ga ca p q) b).has W2 := HX.out.below hh.below (fun g hg => HX.out.lt g hg)
  have hcw_0 : W2.cell? pa = some (.bool true) := (hh.below.cell hcl_0).trans hc
  have hgl_g : g < w.heap.size := HX.out.lt g (by simp [Mt.blks])
  have hgl_ga : ga < w.heap.size := HX.out.lt ga (by simp [Mt.blks])
  obtain ⟨_, kaq0, kbq0, haq0, hbq0⟩ := id hX2
  obtain ⟨_, kaq1, kbq1, haq1, hbq1⟩ := id haq0
  have HS0 := Lib.hid (show AllS [(w.heap.size, 0, (Mt.n2 4 g c (Mt.n2 4 ga ca p q) b)), (g, 0, (Mt.n2 4 ga ca p q)), (g, 3, b)] W2 from ⟨box_kid hh.box, kid_at kaq0, kid_at kbq0, trivial⟩)
  have HHD := Lib.hid hh
  have HX2 := Lib.hid hX2
  clear hh hX2 haq0 haq1 hbq0 hbq1 kaq0 kaq1 kbq0 kbq1
  go_region_held3 (fun w' => ((w'.cell? ⟨w.heap.size, 0, none⟩ = some (.int .i64 4) ∧ w'.cell? ⟨w.heap.size, 1, none⟩ = some (.int .i64 0) ∧ w'.cell? ⟨w.heap.size, 2, none⟩ = some (.slice (some ⟨g, 0, none⟩) 2 c)) ∧ (w'.cell? ⟨g, 0, none⟩ = some (.int .i64 4) ∧ w'.cell? ⟨g, 1, none⟩ = some (.int .i64 0) ∧ w'.cell? ⟨g, 2, none⟩ = some (.slice (some ⟨ga, 0, none⟩) 2 ca)) ∧ (w'.cell? ⟨g, 3, none⟩ = some (.int .i64 b.kk) ∧ w'.cell? ⟨g, 4, none⟩ = some (.int .i64 b.ks) ∧ w'.cell? ⟨g, 5, none⟩ = some (.slice b.kA b.kids.length b.kc)) ∧ True)) (first | exact HS0.out.draw | exact HS0.out.up ((up_alloc _ _).drew) | exact (HS0.out.up (up_alloc _ _)).up ((up_alloc _ _).drew) | exact HS0.out | exact HS0.out.up (up_alloc _ _) | exact (HS0.out.up (up_alloc _ _)).up (up_alloc _ _)) (fail)
  · have hU : Below W2.heap.size W2 ((W2.alloc (Obj.cells #[.int .i64 4, .int .i64 0, .slice (some ⟨ga, 0, none⟩) 2 ca] 29)).alloc (Obj.cells #[.int .i64 b.kk, .int .i64 b.ks, .slice b.kA b.kids.length b.kc] 29)).drew := (((up_alloc W2 _).alloc (by simp) _).drew)
    have hbx0 : ((W2.alloc (Obj.cells #[.int .i64 4, .int .i64 0, .slice (some ⟨ga, 0, none⟩) 2 ca] 29)).alloc (Obj.cells #[.int .i64 b.kk, .int .i64 b.ks, .slice b.kA b.kids.length b.kc] 29)).drew.heap[W2.heap.size]? = some (mtObj1 (Mt.n2 4 ga ca p q)) := heap_old2 _ _ _
    have hbx1 : ((W2.alloc (Obj.cells #[.int .i64 4, .int .i64 0, .slice (some ⟨ga, 0, none⟩) 2 ca] 29)).alloc (Obj.cells #[.int .i64 b.kk, .int .i64 b.ks, .slice b.kA b.kids.length b.kc] 29)).drew.heap[(W2.heap.size + 1)]? = some (mtObj1 b) := heap_new2 _ _ _
    obtain ⟨W3, hW3⟩ : ∃ W3, ((W2.alloc (Obj.cells #[.int .i64 4, .int .i64 0, .slice (some ⟨ga, 0, none⟩) 2 ca] 29)).alloc (Obj.cells #[.int .i64 b.kk, .int .i64 b.ks, .slice b.kA b.kids.length b.kc] 29)).drew = W3 := ⟨_, rfl⟩
    rw [hW3] at hU hbx0 hbx1 ⊢
    clear hW3
    have hsz3 : W2.heap.size + 2 ≤ W3.heap.size := lt_blk hbx1
    have hh : ByHead w W3 (Mt.n2 4 g c (Mt.n2 4 ga ca p q) b) := HHD.out.made hU
    have hX3 : (Mt.n2 4 g c (Mt.n2 4 ga ca p q) b).has W3 := HX2.out.made hU
    have hcx_0 : W3.cell? pa = some (.bool true) := (hh.below.cell hcl_0).trans hc
    obtain ⟨xf0, xf1, xf2⟩ : (W3.cell? ⟨w.heap.size, 0, none⟩ = some (.int .i64 4) ∧ W3.cell? ⟨w.heap.size, 1, none⟩ = some (.int .i64 0) ∧ W3.cell? ⟨w.heap.size, 2, none⟩ = some (.slice (some ⟨g, 0, none⟩) 2 c)) := box_kid hh.box
    obtain ⟨bf00, bf01, bf02⟩ : (W3.cell? ⟨W2.heap.size, 0, none⟩ = some (.int .i64 4) ∧ W3.cell? ⟨W2.heap.size, 1, none⟩ = some (.int .i64 0) ∧ W3.cell? ⟨W2.heap.size, 2, none⟩ = some (.slice (some ⟨ga, 0, none⟩) 2 ca)) := box_kid hbx0
    obtain ⟨bf10, bf11, bf12⟩ : (W3.cell? ⟨(W2.heap.size + 1), 0, none⟩ = some (.int .i64 b.kk) ∧ W3.cell? ⟨(W2.heap.size + 1), 1, none⟩ = some (.int .i64 b.ks) ∧ W3.cell? ⟨(W2.heap.size + 1), 2, none⟩ = some (.slice b.kA b.kids.length b.kc)) := box_kid hbx1
    have HHE := Lib.hid hh
    have HX3 := Lib.hid hX3
    have HBX0 := Lib.hid hbx0
    have HBX1 := Lib.hid hbx1
    clear hh hX3 hU HS0 HHD HX2 hbx0 hbx1
    go_upto_region 5 with fail
    have hh := HHE.out
    have hX2 := HX3.out
    have hbx0 := HBX0.out
    have hbx1 := HBX1.out
    clear xf0 xf1 xf2 bf00 bf01 bf02 bf10 bf11 bf12
    have hX5 : (Mt.n2 4 g c (Mt.n2 4 ga ca p q) b).has W3.drew := hX2.made (Below.refl _ _).drew
    have hH5 : ByHead w W3.drew (Mt.n2 4 g c (Mt.n2 4 ga ca p q) b) := hh.made (Below.refl _ _).drew
    obtain ⟨_, ka0, kb0, ha0, hb0⟩ := id hX5
    obtain ⟨_, ka1, kb1, ha1, hb1⟩ := id ha0
    have HS0 := Lib.hid (show AllS [(w.heap.size, 0, (Mt.n2 4 g c (Mt.n2 4 ga ca p q) b)), (W2.heap.size, 0, (Mt.n2 4 ga ca p q)), ((W2.heap.size + 1), 0, b), (ga, 0, p), (ga, 3, q)] W3.drew from ⟨box_kid hH5.box, (box_kid hbx0).draw, (box_kid hbx1).draw, kid_at ka1, kid_at kb1, trivial⟩)
    have HH_0 := Lib.hid hb1
    have HH_1 := Lib.hid hb0
    have HH_2 := Lib.hid ha1
    have HH5 := Lib.hid hH5
    clear hh hX2 hX5 hH5 ha0 ha1 hb0 hb1 ka0 ka1 kb0 kb1 hbx0 hbx1
    have hsb : W3.heap.size ≤ W3.drew.heap.size := Nat.le_refl _
    have t1 : True := trivial
    have t2 : True := trivial
    go_region_held3 (fun w' => ((w'.cell? ⟨w.heap.size, 0, none⟩ = some (.int .i64 4) ∧ w'.cell? ⟨w.heap.size, 1, none⟩ = some (.int .i64 0) ∧ w'.cell? ⟨w.heap.size, 2, none⟩ = some (.slice (some ⟨g, 0, none⟩) 2 c)) ∧ (w'.cell? ⟨W2.heap.size, 0, none⟩ = some (.int .i64 4) ∧ w'.cell? ⟨W2.heap.size, 1, none⟩ = some (.int .i64 0) ∧ w'.cell? ⟨W2.heap.size, 2, none⟩ = some (.slice (some ⟨ga, 0, none⟩) 2 ca)) ∧ (w'.cell? ⟨(W2.heap.size + 1), 0, none⟩ = some (.int .i64 b.kk) ∧ w'.cell? ⟨(W2.heap.size + 1), 1, none⟩ = some (.int .i64 b.ks) ∧ w'.cell? ⟨(W2.heap.size + 1), 2, none⟩ = some (.slice b.kA b.kids.length b.kc)) ∧ (w'.cell? ⟨ga, 0, none⟩ = some (.int .i64 p.kk) ∧ w'.cell? ⟨ga, 1, none⟩ = some (.int .i64 p.ks) ∧ w'.cell? ⟨ga, 2, none⟩ = some (.slice p.kA p.kids.length p.kc)) ∧ (w'.cell? ⟨ga, 3, none⟩ = some (.int .i64 q.kk) ∧ w'.cell? ⟨ga, 4, none⟩ = some (.int .i64 q.ks) ∧ w'.cell? ⟨ga, 5, none⟩ = some (.slice q.kA q.kids.length q.kc)) ∧ True)) (first | exact HS0.out | exact HS0.out.up (up_alloc _ _) | exact HS1.out | exact HS1.out.up (up_alloc _ _) | exact HS2.out | exact AllS.set3 _ _ _ HS2.out ⟨by omega, by omega, by omega, by omega, by omega, trivial⟩) (first
          | (have _t := t1; go_at_call 16; refine Calls.mono (wmake_any _ _ _ _ _) ?_; rintro e e1 ⟨rfl, hp1⟩; have hb1 : Below (W3.drew.alloc (mtObj2 q b)).heap.size (W3.drew.alloc (mtObj2 q b)) e1 := hp1; have HB1 := Lib.hid hb1; have HU1 := Lib.hid (up_call hb1); have HS1 := Lib.hid (HS0.out.up (up_call hb1)); clear hb1 hp1 t1)
          | (have _t := t2; go_at_call 16; refine Calls.mono (wmake_any _ _ _ _ _) ?_; rintro e e2 ⟨rfl, hp2⟩; have hb2 : Below (e1.alloc (mtObj2 p (Mt.n2 4 W3.drew.heap.size 2 q b))).heap.size (e1.alloc (mtObj2 p (Mt.n2 4 W3.drew.heap.size 2 q b))) e2 := hp2; have HB2 := Lib.hid hb2; have HU2 := Lib.hid (up_trans HU1.out (up_call hb2)); have HS2 := Lib.hid (HS1.out.up (up_call hb2)); obtain ⟨⟨y0, y1, y2⟩, z0, z1, z2, zl⟩ := res_at (HH5.out.made HU2.out).res; clear hb2 hp2 t2))
    all_goals
      go_wp2_with fail
      have hsz_0 : w.heap.size + 2 ≤ W3.drew.heap.size := by omega
      have s1 : Below W3.drew.heap.size W3.drew e1 := up_call HB1.out
      have u1 : Below W3.drew.heap.size W3.drew e1 := s1
      have hsz_1 : w.heap.size + 2 ≤ e1.heap.size := Nat.le_trans hsz_0 u1.size
      have s2 : Below e1.heap.size e1 e2 := up_call HB2.out
      have u2 : Below W3.drew.heap.size W3.drew e2 := up_trans u1 s2
      have hsz_2 : w.heap.size + 2 ≤ e2.heap.size := Nat.le_trans hsz_0 u2.size
      have m1 : (Mt.n2 4 W3.drew.heap.size 2 q b).has e1 := mk2_has (W := W3.drew) 4 HH_0.out HH_1.out (up_next HB1.out)
      have f1 : Fr (Mt.n2 4 g c (Mt.n2 4 ga ca p q) b) (w.heap.size + 2) w0.heap.size (Mt.n2 4 W3.drew.heap.size 2 q b) := Fr.n2 hsz_0 (Fr.kid (Fr.kid (Fr.self _ _ _) (z := (Mt.n2 4 ga ca p q)) (by simp [Mt.kids])) (z := q) (by simp [Mt.kids])) (Fr.kid (Fr.self _ _ _) (z := b) (by simp [Mt.kids]))
      have m2 : (Mt.n2 4 e1.heap.size 2 p (Mt.n2 4 W3.drew.heap.size 2 q b)).has e2 := mk2_has (W := e1) 4 (HH_2.out.made u1) m1 (up_next HB2.out)
      have f2 : Fr (Mt.n2 4 g c (Mt.n2 4 ga ca p q) b) (w.heap.size + 2) w0.heap.size (Mt.n2 4 e1.heap.size 2 p (Mt.n2 4 W3.drew.heap.size 2 q b)) := Fr.n2 hsz_1 (Fr.kid (Fr.kid (Fr.self _ _ _) (z := (Mt.n2 4 ga ca p q)) (by simp [Mt.kids])) (z := p) (by simp [Mt.kids])) f1
      have ub : Below w.heap.size w e2 := HH5.out.below.trans (u2.mono (by omega))
      refine bodyPost_ret (v := .tuple #[(Mt.n2 4 e1.heap.size 2 p (Mt.n2 4 W3.drew.heap.size 2 q b)).val, .bool true]) (by simp [results, Tryz.results35, go_sem, y0, y1, y2]; rfl) rfl (by_fr HR.out HX.out HZ.out m2 (by simp only [Mt.w]) ub f2)
  · have hU : Below W2.heap.size W2 ((W2.alloc (Obj.cells #[.int .i64 b.kk, .int .i64 b.ks, .slice b.kA b.kids.length b.kc] 29)).alloc (Obj.cells #[.int .i64 4, .int .i64 0, .slice (some ⟨ga, 0, none⟩) 2 ca] 29)).drew := (((up_alloc W2 _).alloc (by simp) _).drew)
    have hbx0 : ((W2.alloc (Obj.cells #[.int .i64 b.kk, .int .i64 b.ks, .slice b.kA b.kids.length b.kc] 29)).alloc (Obj.cells #[.int .i64 4, .int .i64 0, .slice (some ⟨ga, 0, none⟩) 2 ca] 29)).drew.heap[W2.heap.size]? = some (mtObj1 b) := heap_old2 _ _ _
    have hbx1 : ((W2.alloc (Obj.cells #[.int .i64 b.kk, .int .i64 b.ks, .slice b.kA b.kids.length b.kc] 29)).alloc (Obj.cells #[.int .i64 4, .int .i64 0, .slice (some ⟨ga, 0, none⟩) 2 ca] 29)).drew.heap[(W2.heap.size + 1)]? = some (mtObj1 (Mt.n2 4 ga ca p q)) := heap_new2 _ _ _
    obtain ⟨W3, hW3⟩ : ∃ W3, ((W2.alloc (Obj.cells #[.int .i64 b.kk, .int .i64 b.ks, .slice b.kA b.kids.length b.kc] 29)).alloc (Obj.cells #[.int .i64 4, .int .i64 0, .slice (some ⟨ga, 0, none⟩) 2 ca] 29)).drew = W3 := ⟨_, rfl⟩
    rw [hW3] at hU hbx0 hbx1 ⊢
    clear hW3
    have hsz3 : W2.heap.size + 2 ≤ W3.heap.size := lt_blk hbx1
    have hh : ByHead w W3 (Mt.n2 4 g c (Mt.n2 4 ga ca p q) b) := HHD.out.made hU
    have hX3 : (Mt.n2 4 g c (Mt.n2 4 ga ca p q) b).has W3 := HX2.out.made hU
    have hcx_0 : W3.cell? pa = some (.bool true) := (hh.below.cell hcl_0).trans hc
    obtain ⟨xf0, xf1, xf2⟩ : (W3.cell? ⟨w.heap.size, 0, none⟩ = some (.int .i64 4) ∧ W3.cell? ⟨w.heap.size, 1, none⟩ = some (.int .i64 0) ∧ W3.cell? ⟨w.heap.size, 2, none⟩ = some (.slice (some ⟨g, 0, none⟩) 2 c)) := box_kid hh.box
    obtain ⟨bf00, bf01, bf02⟩ : (W3.cell? ⟨W2.heap.size, 0, none⟩ = some (.int .i64 b.kk) ∧ W3.cell? ⟨W2.heap.size, 1, none⟩ = some (.int .i64 b.ks) ∧ W3.cell? ⟨W2.heap.size, 2, none⟩ = some (.slice b.kA b.kids.length b.kc)) := box_kid hbx0
    obtain ⟨bf10, bf11, bf12⟩ : (W3.cell? ⟨(W2.heap.size + 1), 0, none⟩ = some (.int .i64 4) ∧ W3.cell? ⟨(W2.heap.size + 1), 1, none⟩ = some (.int .i64 0) ∧ W3.cell? ⟨(W2.heap.size + 1), 2, none⟩ = some (.slice (some ⟨ga, 0, none⟩) 2 ca)) := box_kid hbx1
    have HHE := Lib.hid hh
    have HX3 := Lib.hid hX3
    have HBX0 := Lib.hid hbx0
    have HBX1 := Lib.hid hbx1
    clear hh hX3 hU HS0 HHD HX2 hbx0 hbx1
    go_upto_region 5 with fail
    have hh := HHE.out
    have hX2 := HX3.out
    have hbx0 := HBX0.out
    have hbx1 := HBX1.out
    clear xf0 xf1 xf2 bf00 bf01 bf02 bf10 bf11 bf12
    have hX5 : (Mt.n2 4 g c (Mt.n2 4 ga ca p q) b).has W3.drew := hX2.made (Below.refl _ _).drew
    have hH5 : ByHead w W3.drew (Mt.n2 4 g c (Mt.n2 4 ga ca p q) b) := hh.made (Below.refl _ _).drew
    obtain ⟨_, ka0, kb0, ha0, hb0⟩ := id hX5
    obtain ⟨_, ka1, kb1, ha1, hb1⟩ := id ha0
    have HS0 := Lib.hid (show AllS [(w.heap.size, 0, (Mt.n2 4 g c (Mt.n2 4 ga ca p q) b)), (W2.heap.size, 0, b), ((W2.heap.size + 1), 0, (Mt.n2 4 ga ca p q)), (ga, 0, p), (ga, 3, q)] W3.drew from ⟨box_kid hH5.box, (box_kid hbx0).draw, (box_kid hbx1).draw, kid_at ka1, kid_at kb1, trivial⟩)
    have HH_0 := Lib.hid hb1
    have HH_1 := Lib.hid hb0
    have HH_2 := Lib.hid ha1
    have HH5 := Lib.hid hH5
    clear hh hX2 hX5 hH5 ha0 ha1 hb0 hb1 ka0 ka1 kb0 kb1 hbx0 hbx1
    have hsb : W3.heap.size ≤ W3.drew.heap.size := Nat.le_refl _
    have t1 : True := trivial
    have t2 : True := trivial
    go_region_held3 (fun w' => ((w'.cell? ⟨w.heap.size, 0, none⟩ = some (.int .i64 4) ∧ w'.cell? ⟨w.heap.size, 1, none⟩ = some (.int .i64 0) ∧ w'.cell? ⟨w.heap.size, 2, none⟩ = some (.slice (some ⟨g, 0, none⟩) 2 c)) ∧ (w'.cell? ⟨W2.heap.size, 0, none⟩ = some (.int .i64 b.kk) ∧ w'.cell? ⟨W2.heap.size, 1, none⟩ = some (.int .i64 b.ks) ∧ w'.cell? ⟨W2.heap.size, 2, none⟩ = some (.slice b.kA b.kids.length b.kc)) ∧ (w'.cell? ⟨(W2.heap.size + 1), 0, none⟩ = some (.int .i64 4) ∧ w'.cell? ⟨(W2.heap.size + 1), 1, none⟩ = some (.int .i64 0) ∧ w'.cell? ⟨(W2.heap.size + 1), 2, none⟩ = some (.slice (some ⟨ga, 0, none⟩) 2 ca)) ∧ (w'.cell? ⟨ga, 0, none⟩ = some (.int .i64 p.kk) ∧ w'.cell? ⟨ga, 1, none⟩ = some (.int .i64 p.ks) ∧ w'.cell? ⟨ga, 2, none⟩ = some (.slice p.kA p.kids.length p.kc)) ∧ (w'.cell? ⟨ga, 3, none⟩ = some (.int .i64 q.kk) ∧ w'.cell? ⟨ga, 4, none⟩ = some (.int .i64 q.ks) ∧ w'.cell? ⟨ga, 5, none⟩ = some (.slice q.kA q.kids.length q.kc)) ∧ True)) (first | exact HS0.out | exact HS0.out.up (up_alloc _ _) | exact HS1.out | exact HS1.out.up (up_alloc _ _) | exact HS2.out | exact AllS.set3 _ _ _ HS2.out ⟨by omega, by omega, by omega, by omega, by omega, trivial⟩) (first
          | (have _t := t1; go_at_call 16; refine Calls.mono (wmake_any _ _ _ _ _) ?_; rintro e e1 ⟨rfl, hp1⟩; have hb1 : Below (W3.drew.alloc (mtObj2 q b)).heap.size (W3.drew.alloc (mtObj2 q b)) e1 := hp1; have HB1 := Lib.hid hb1; have HU1 := Lib.hid (up_call hb1); have HS1 := Lib.hid (HS0.out.up (up_call hb1)); clear hb1 hp1 t1)
          | (have _t := t2; go_at_call 16; refine Calls.mono (wmake_any _ _ _ _ _) ?_; rintro e e2 ⟨rfl, hp2⟩; have hb2 : Below (e1.alloc (mtObj2 p (Mt.n2 4 W3.drew.heap.size 2 q b))).heap.size (e1.alloc (mtObj2 p (Mt.n2 4 W3.drew.heap.size 2 q b))) e2 := hp2; have HB2 := Lib.hid hb2; have HU2 := Lib.hid (up_trans HU1.out (up_call hb2)); have HS2 := Lib.hid (HS1.out.up (up_call hb2)); obtain ⟨⟨y0, y1, y2⟩, z0, z1, z2, zl⟩ := res_at (HH5.out.made HU2.out).res; clear hb2 hp2 t2))
    all_goals
      go_wp2_with fail
      have hsz_0 : w.heap.size + 2 ≤ W3.drew.heap.size := by omega
      have s1 : Below W3.drew.heap.size W3.drew e1 := up_call HB1.out
      have u1 : Below W3.drew.heap.size W3.drew e1 := s1
      have hsz_1 : w.heap.size + 2 ≤ e1.heap.size := Nat.le_trans hsz_0 u1.size
      have s2 : Below e1.heap.size e1 e2 := up_call HB2.out
      have u2 : Below W3.drew.heap.size W3.drew e2 := up_trans u1 s2
      have hsz_2 : w.heap.size + 2 ≤ e2.heap.size := Nat.le_trans hsz_0 u2.size
      have m1 : (Mt.n2 4 W3.drew.heap.size 2 q b).has e1 := mk2_has (W := W3.drew) 4 HH_0.out HH_1.out (up_next HB1.out)
      have f1 : Fr (Mt.n2 4 g c (Mt.n2 4 ga ca p q) b) (w.heap.size + 2) w0.heap.size (Mt.n2 4 W3.drew.heap.size 2 q b) := Fr.n2 hsz_0 (Fr.kid (Fr.kid (Fr.self _ _ _) (z := (Mt.n2 4 ga ca p q)) (by simp [Mt.kids])) (z := q) (by simp [Mt.kids])) (Fr.kid (Fr.self _ _ _) (z := b) (by simp [Mt.kids]))
      have m2 : (Mt.n2 4 e1.heap.size 2 p (Mt.n2 4 W3.drew.heap.size 2 q b)).has e2 := mk2_has (W := e1) 4 (HH_2.out.made u1) m1 (up_next HB2.out)
      have f2 : Fr (Mt.n2 4 g c (Mt.n2 4 ga ca p q) b) (w.heap.size + 2) w0.heap.size (Mt.n2 4 e1.heap.size 2 p (Mt.n2 4 W3.drew.heap.size 2 q b)) := Fr.n2 hsz_1 (Fr.kid (Fr.kid (Fr.self _ _ _) (z := (Mt.n2 4 ga ca p q)) (by simp [Mt.kids])) (z := p) (by simp [Mt.kids])) f1
      have ub : Below w.heap.size w e2 := HH5.out.below.trans (u2.mono (by omega))
      refine bodyPost_ret (v := .tuple #[(Mt.n2 4 e1.heap.size 2 p (Mt.n2 4 W3.drew.heap.size 2 q b)).val, .bool true]) (by simp [results, Tryz.results35, go_sem, y0, y1, y2]; rfl) rfl (by_fr HR.out HX.out HZ.out m2 (by simp only [Mt.w]) ub f2)
set_option maxRecDepth 100000 in
set_option maxHeartbeats 3200000 in
theorem tu_one5 (pa : Addr) (w0 w : World) (g : Nat) (c : Nat) (ga : Nat) (ca : Nat) (p : Mt) (q : Mt) (b : Mt) (hx : (Mt.n2 5 g c (Mt.n2 5 ga ca p q) b).has w) (h0 : w0.heap.size ≤ w.heap.size) (hc : w.cell? pa = some (.bool true)) :
    Calls Tryz.prog 35 #[.agg #[.int .i64 5, .int .i64 0, .slice (some ⟨g, 0, none⟩) 2 c], .pointer (some pa)] w (ByOut (tuRule true) (Mt.n2 5 g c (Mt.n2 5 ga ca p q) b) w0 w) := by
  have hr : (tuRule true) (Mt.n2 5 g c (Mt.n2 5 ga ca p q) b).w = some (W.n2 5 p.w (W.n2 5 q.w b.w)) := rfl
  have hcl_0 := lt_of_cell hc
  have HX := Lib.hid hx
  have HR := Lib.hid hr
  have HZ := Lib.hid h0
  clear hx hr h0
  go_enter Tryz.func35, Tryz.ntmps35
  go_upto_region 3 with fail
  have hh : ByHead w ((w.alloc (Obj.cells #[.int .i64 5, .int .i64 0, .slice (some ⟨g, 0, none⟩) 2 c] 29)).alloc (Obj.cells #[.int .i64 0, .int .i64 0, .slice none 0 0] 29)) (Mt.n2 5 g c (Mt.n2 5 ga ca p q) b) := by_head w (Mt.n2 5 g c (Mt.n2 5 ga ca p q) b)
  obtain ⟨W2, hW2⟩ : ∃ W2, (w.alloc (Obj.cells #[.int .i64 5, .int .i64 0, .slice (some ⟨g, 0, none⟩) 2 c] 29)).alloc (Obj.cells #[.int .i64 0, .int .i64 0, .slice none 0 0] 29) = W2 := ⟨_, rfl⟩
  rw [hW2] at hh ⊢
  clear hW2
  have hs2 : w.heap.size + 2 ≤ W2.heap.size := lt_blk hh.res
  have hX2 : (Mt.n2 5 g c (Mt.n2 5 ga ca p q) b).has W2 := HX.out.below hh.below (fun g hg => HX.out.lt g hg)
  have hcw_0 : W2.cell? pa = some (.bool true) := (hh.below.cell hcl_0).trans hc
  have hgl_g : g < w.heap.size := HX.out.lt g (by simp [Mt.blks])
  have hgl_ga : ga < w.heap.size := HX.out.lt ga (by simp [Mt.blks])
  obtain ⟨_, kaq0, kbq0, haq0, hbq0⟩ := id hX2
  obtain ⟨_, kaq1, kbq1, haq1, hbq1⟩ := id haq0
  have HS0 := Lib.hid (show AllS [(w.heap.size, 0, (Mt.n2 5 g c (Mt.n2 5 ga ca p q) b)), (g, 0, (Mt.n2 5 ga ca p q)), (g, 3, b)] W2 from ⟨box_kid hh.box, kid_at kaq0, kid_at kbq0, trivial⟩)
  have HHD := Lib.hid hh
  have HX2 := Lib.hid hX2
  clear hh hX2 haq0 haq1 hbq0 hbq1 kaq0 kaq1 kbq0 kbq1
  go_region_held3 (fun w' => ((w'.cell? ⟨w.heap.size, 0, none⟩ = some (.int .i64 5) ∧ w'.cell? ⟨w.heap.size, 1, none⟩ = some (.int .i64 0) ∧ w'.cell? ⟨w.heap.size, 2, none⟩ = some (.slice (some ⟨g, 0, none⟩) 2 c)) ∧ (w'.cell? ⟨g, 0, none⟩ = some (.int .i64 5) ∧ w'.cell? ⟨g, 1, none⟩ = some (.int .i64 0) ∧ w'.cell? ⟨g, 2, none⟩ = some (.slice (some ⟨ga, 0, none⟩) 2 ca)) ∧ (w'.cell? ⟨g, 3, none⟩ = some (.int .i64 b.kk) ∧ w'.cell? ⟨g, 4, none⟩ = some (.int .i64 b.ks) ∧ w'.cell? ⟨g, 5, none⟩ = some (.slice b.kA b.kids.length b.kc)) ∧ True)) (first | exact HS0.out.draw | exact HS0.out.up ((up_alloc _ _).drew) | exact (HS0.out.up (up_alloc _ _)).up ((up_alloc _ _).drew) | exact HS0.out | exact HS0.out.up (up_alloc _ _) | exact (HS0.out.up (up_alloc _ _)).up (up_alloc _ _)) (fail)
  · have hU : Below W2.heap.size W2 ((W2.alloc (Obj.cells #[.int .i64 5, .int .i64 0, .slice (some ⟨ga, 0, none⟩) 2 ca] 29)).alloc (Obj.cells #[.int .i64 b.kk, .int .i64 b.ks, .slice b.kA b.kids.length b.kc] 29)).drew := (((up_alloc W2 _).alloc (by simp) _).drew)
    have hbx0 : ((W2.alloc (Obj.cells #[.int .i64 5, .int .i64 0, .slice (some ⟨ga, 0, none⟩) 2 ca] 29)).alloc (Obj.cells #[.int .i64 b.kk, .int .i64 b.ks, .slice b.kA b.kids.length b.kc] 29)).drew.heap[W2.heap.size]? = some (mtObj1 (Mt.n2 5 ga ca p q)) := heap_old2 _ _ _
    have hbx1 : ((W2.alloc (Obj.cells #[.int .i64 5, .int .i64 0, .slice (some ⟨ga, 0, none⟩) 2 ca] 29)).alloc (Obj.cells #[.int .i64 b.kk, .int .i64 b.ks, .slice b.kA b.kids.length b.kc] 29)).drew.heap[(W2.heap.size + 1)]? = some (mtObj1 b) := heap_new2 _ _ _
    obtain ⟨W3, hW3⟩ : ∃ W3, ((W2.alloc (Obj.cells #[.int .i64 5, .int .i64 0, .slice (some ⟨ga, 0, none⟩) 2 ca] 29)).alloc (Obj.cells #[.int .i64 b.kk, .int .i64 b.ks, .slice b.kA b.kids.length b.kc] 29)).drew = W3 := ⟨_, rfl⟩
    rw [hW3] at hU hbx0 hbx1 ⊢
    clear hW3
    have hsz3 : W2.heap.size + 2 ≤ W3.heap.size := lt_blk hbx1
    have hh : ByHead w W3 (Mt.n2 5 g c (Mt.n2 5 ga ca p q) b) := HHD.out.made hU
    have hX3 : (Mt.n2 5 g c (Mt.n2 5 ga ca p q) b).has W3 := HX2.out.made hU
    have hcx_0 : W3.cell? pa = some (.bool true) := (hh.below.cell hcl_0).trans hc
    obtain ⟨xf0, xf1, xf2⟩ : (W3.cell? ⟨w.heap.size, 0, none⟩ = some (.int .i64 5) ∧ W3.cell? ⟨w.heap.size, 1, none⟩ = some (.int .i64 0) ∧ W3.cell? ⟨w.heap.size, 2, none⟩ = some (.slice (some ⟨g, 0, none⟩) 2 c)) := box_kid hh.box
    obtain ⟨bf00, bf01, bf02⟩ : (W3.cell? ⟨W2.heap.size, 0, none⟩ = some (.int .i64 5) ∧ W3.cell? ⟨W2.heap.size, 1, none⟩ = some (.int .i64 0) ∧ W3.cell? ⟨W2.heap.size, 2, none⟩ = some (.slice (some ⟨ga, 0, none⟩) 2 ca)) := box_kid hbx0
    obtain ⟨bf10, bf11, bf12⟩ : (W3.cell? ⟨(W2.heap.size + 1), 0, none⟩ = some (.int .i64 b.kk) ∧ W3.cell? ⟨(W2.heap.size + 1), 1, none⟩ = some (.int .i64 b.ks) ∧ W3.cell? ⟨(W2.heap.size + 1), 2, none⟩ = some (.slice b.kA b.kids.length b.kc)) := box_kid hbx1
    have HHE := Lib.hid hh
    have HX3 := Lib.hid hX3
    have HBX0 := Lib.hid hbx0
    have HBX1 := Lib.hid hbx1
    clear hh hX3 hU HS0 HHD HX2 hbx0 hbx1
    go_upto_region 5 with fail
    have hh := HHE.out
    have hX2 := HX3.out
    have hbx0 := HBX0.out
    have hbx1 := HBX1.out
    clear xf0 xf1 xf2 bf00 bf01 bf02 bf10 bf11 bf12
    have hX5 : (Mt.n2 5 g c (Mt.n2 5 ga ca p q) b).has W3.drew := hX2.made (Below.refl _ _).drew
    have hH5 : ByHead w W3.drew (Mt.n2 5 g c (Mt.n2 5 ga ca p q) b) := hh.made (Below.refl _ _).drew
    obtain ⟨_, ka0, kb0, ha0, hb0⟩ := id hX5
    obtain ⟨_, ka1, kb1, ha1, hb1⟩ := id ha0
    have HS0 := Lib.hid (show AllS [(w.heap.size, 0, (Mt.n2 5 g c (Mt.n2 5 ga ca p q) b)), (W2.heap.size, 0, (Mt.n2 5 ga ca p q)), ((W2.heap.size + 1), 0, b), (ga, 0, p), (ga, 3, q)] W3.drew from ⟨box_kid hH5.box, (box_kid hbx0).draw, (box_kid hbx1).draw, kid_at ka1, kid_at kb1, trivial⟩)
    have HH_0 := Lib.hid hb1
    have HH_1 := Lib.hid hb0
    have HH_2 := Lib.hid ha1
    have HH5 := Lib.hid hH5
    clear hh hX2 hX5 hH5 ha0 ha1 hb0 hb1 ka0 ka1 kb0 kb1 hbx0 hbx1
    have hsb : W3.heap.size ≤ W3.drew.heap.size := Nat.le_refl _
    have t1 : True := trivial
    have t2 : True := trivial
    go_region_held3 (fun w' => ((w'.cell? ⟨w.heap.size, 0, none⟩ = some (.int .i64 5) ∧ w'.cell? ⟨w.heap.size, 1, none⟩ = some (.int .i64 0) ∧ w'.cell? ⟨w.heap.size, 2, none⟩ = some (.slice (some ⟨g, 0, none⟩) 2 c)) ∧ (w'.cell? ⟨W2.heap.size, 0, none⟩ = some (.int .i64 5) ∧ w'.cell? ⟨W2.heap.size, 1, none⟩ = some (.int .i64 0) ∧ w'.cell? ⟨W2.heap.size, 2, none⟩ = some (.slice (some ⟨ga, 0, none⟩) 2 ca)) ∧ (w'.cell? ⟨(W2.heap.size + 1), 0, none⟩ = some (.int .i64 b.kk) ∧ w'.cell? ⟨(W2.heap.size + 1), 1, none⟩ = some (.int .i64 b.ks) ∧ w'.cell? ⟨(W2.heap.size + 1), 2, none⟩ = some (.slice b.kA b.kids.length b.kc)) ∧ (w'.cell? ⟨ga, 0, none⟩ = some (.int .i64 p.kk) ∧ w'.cell? ⟨ga, 1, none⟩ = some (.int .i64 p.ks) ∧ w'.cell? ⟨ga, 2, none⟩ = some (.slice p.kA p.kids.length p.kc)) ∧ (w'.cell? ⟨ga, 3, none⟩ = some (.int .i64 q.kk) ∧ w'.cell? ⟨ga, 4, none⟩ = some (.int .i64 q.ks) ∧ w'.cell? ⟨ga, 5, none⟩ = some (.slice q.kA q.kids.length q.kc)) ∧ True)) (first | exact HS0.out | exact HS0.out.up (up_alloc _ _) | exact HS1.out | exact HS1.out.up (up_alloc _ _) | exact HS2.out | exact AllS.set3 _ _ _ HS2.out ⟨by omega, by omega, by omega, by omega, by omega, trivial⟩) (first
          | (have _t := t1; go_at_call 16; refine Calls.mono (wmake_any _ _ _ _ _) ?_; rintro e e1 ⟨rfl, hp1⟩; have hb1 : Below (W3.drew.alloc (mtObj2 q b)).heap.size (W3.drew.alloc (mtObj2 q b)) e1 := hp1; have HB1 := Lib.hid hb1; have HU1 := Lib.hid (up_call hb1); have HS1 := Lib.hid (HS0.out.up (up_call hb1)); clear hb1 hp1 t1)
          | (have _t := t2; go_at_call 16; refine Calls.mono (wmake_any _ _ _ _ _) ?_; rintro e e2 ⟨rfl, hp2⟩; have hb2 : Below (e1.alloc (mtObj2 p (Mt.n2 5 W3.drew.heap.size 2 q b))).heap.size (e1.alloc (mtObj2 p (Mt.n2 5 W3.drew.heap.size 2 q b))) e2 := hp2; have HB2 := Lib.hid hb2; have HU2 := Lib.hid (up_trans HU1.out (up_call hb2)); have HS2 := Lib.hid (HS1.out.up (up_call hb2)); obtain ⟨⟨y0, y1, y2⟩, z0, z1, z2, zl⟩ := res_at (HH5.out.made HU2.out).res; clear hb2 hp2 t2))
    all_goals
      go_wp2_with fail
      have hsz_0 : w.heap.size + 2 ≤ W3.drew.heap.size := by omega
      have s1 : Below W3.drew.heap.size W3.drew e1 := up_call HB1.out
      have u1 : Below W3.drew.heap.size W3.drew e1 := s1
      have hsz_1 : w.heap.size + 2 ≤ e1.heap.size := Nat.le_trans hsz_0 u1.size
      have s2 : Below e1.heap.size e1 e2 := up_call HB2.out
      have u2 : Below W3.drew.heap.size W3.drew e2 := up_trans u1 s2
      have hsz_2 : w.heap.size + 2 ≤ e2.heap.size := Nat.le_trans hsz_0 u2.size
      have m1 : (Mt.n2 5 W3.drew.heap.size 2 q b).has e1 := mk2_has (W := W3.drew) 5 HH_0.out HH_1.out (up_next HB1.out)
      have f1 : Fr (Mt.n2 5 g c (Mt.n2 5 ga ca p q) b) (w.heap.size + 2) w0.heap.size (Mt.n2 5 W3.drew.heap.size 2 q b) := Fr.n2 hsz_0 (Fr.kid (Fr.kid (Fr.self _ _ _) (z := (Mt.n2 5 ga ca p q)) (by simp [Mt.kids])) (z := q) (by simp [Mt.kids])) (Fr.kid (Fr.self _ _ _) (z := b) (by simp [Mt.kids]))
      have m2 : (Mt.n2 5 e1.heap.size 2 p (Mt.n2 5 W3.drew.heap.size 2 q b)).has e2 := mk2_has (W := e1) 5 (HH_2.out.made u1) m1 (up_next HB2.out)
      have f2 : Fr (Mt.n2 5 g c (Mt.n2 5 ga ca p q) b) (w.heap.size + 2) w0.heap.size (Mt.n2 5 e1.heap.size 2 p (Mt.n2 5 W3.drew.heap.size 2 q b)) := Fr.n2 hsz_1 (Fr.kid (Fr.kid (Fr.self _ _ _) (z := (Mt.n2 5 ga ca p q)) (by simp [Mt.kids])) (z := p) (by simp [Mt.kids])) f1
      have ub : Below w.heap.size w e2 := HH5.out.below.trans (u2.mono (by omega))
      refine bodyPost_ret (v := .tuple #[(Mt.n2 5 e1.heap.size 2 p (Mt.n2 5 W3.drew.heap.size 2 q b)).val, .bool true]) (by simp [results, Tryz.results35, go_sem, y0, y1, y2]; rfl) rfl (by_fr HR.out HX.out HZ.out m2 (by simp only [Mt.w]) ub f2)
  · have hU : Below W2.heap.size W2 ((W2.alloc (Obj.cells #[.int .i64 b.kk, .int .i64 b.ks, .slice b.kA b.kids.length b.kc] 29)).alloc (Obj.cells #[.int .i64 5, .int .i64 0, .slice (some ⟨ga, 0, none⟩) 2 ca] 29)).drew := (((up_alloc W2 _).alloc (by simp) _).drew)
    have hbx0 : ((W2.alloc (Obj.cells #[.int .i64 b.kk, .int .i64 b.ks, .slice b.kA b.kids.length b.kc] 29)).alloc (Obj.cells #[.int .i64 5, .int .i64 0, .slice (some ⟨ga, 0, none⟩) 2 ca] 29)).drew.heap[W2.heap.size]? = some (mtObj1 b) := heap_old2 _ _ _
    have hbx1 : ((W2.alloc (Obj.cells #[.int .i64 b.kk, .int .i64 b.ks, .slice b.kA b.kids.length b.kc] 29)).alloc (Obj.cells #[.int .i64 5, .int .i64 0, .slice (some ⟨ga, 0, none⟩) 2 ca] 29)).drew.heap[(W2.heap.size + 1)]? = some (mtObj1 (Mt.n2 5 ga ca p q)) := heap_new2 _ _ _
    obtain ⟨W3, hW3⟩ : ∃ W3, ((W2.alloc (Obj.cells #[.int .i64 b.kk, .int .i64 b.ks, .slice b.kA b.kids.length b.kc] 29)).alloc (Obj.cells #[.int .i64 5, .int .i64 0, .slice (some ⟨ga, 0, none⟩) 2 ca] 29)).drew = W3 := ⟨_, rfl⟩
    rw [hW3] at hU hbx0 hbx1 ⊢
    clear hW3
    have hsz3 : W2.heap.size + 2 ≤ W3.heap.size := lt_blk hbx1
    have hh : ByHead w W3 (Mt.n2 5 g c (Mt.n2 5 ga ca p q) b) := HHD.out.made hU
    have hX3 : (Mt.n2 5 g c (Mt.n2 5 ga ca p q) b).has W3 := HX2.out.made hU
    have hcx_0 : W3.cell? pa = some (.bool true) := (hh.below.cell hcl_0).trans hc
    obtain ⟨xf0, xf1, xf2⟩ : (W3.cell? ⟨w.heap.size, 0, none⟩ = some (.int .i64 5) ∧ W3.cell? ⟨w.heap.size, 1, none⟩ = some (.int .i64 0) ∧ W3.cell? ⟨w.heap.size, 2, none⟩ = some (.slice (some ⟨g, 0, none⟩) 2 c)) := box_kid hh.box
    obtain ⟨bf00, bf01, bf02⟩ : (W3.cell? ⟨W2.heap.size, 0, none⟩ = some (.int .i64 b.kk) ∧ W3.cell? ⟨W2.heap.size, 1, none⟩ = some (.int .i64 b.ks) ∧ W3.cell? ⟨W2.heap.size, 2, none⟩ = some (.slice b.kA b.kids.length b.kc)) := box_kid hbx0
    obtain ⟨bf10, bf11, bf12⟩ : (W3.cell? ⟨(W2.heap.size + 1), 0, none⟩ = some (.int .i64 5) ∧ W3.cell? ⟨(W2.heap.size + 1), 1, none⟩ = some (.int .i64 0) ∧ W3.cell? ⟨(W2.heap.size + 1), 2, none⟩ = some (.slice (some ⟨ga, 0, none⟩) 2 ca)) := box_kid hbx1
    have HHE := Lib.hid hh
    have HX3 := Lib.hid hX3
    have HBX0 := Lib.hid hbx0
    have HBX1 := Lib.hid hbx1
    clear hh hX3 hU HS0 HHD HX2 hbx0 hbx1
    go_upto_region 5 with fail
    have hh := HHE.out
    have hX2 := HX3.out
    have hbx0 := HBX0.out
    have hbx1 := HBX1.out
    clear xf0 xf1 xf2 bf00 bf01 bf02 bf10 bf11 bf12
    have hX5 : (Mt.n2 5 g c (Mt.n2 5 ga ca p q) b).has W3.drew := hX2.made (Below.refl _ _).drew
    have hH5 : ByHead w W3.drew (Mt.n2 5 g c (Mt.n2 5 ga ca p q) b) := hh.made (Below.refl _ _).drew
    obtain ⟨_, ka0, kb0, ha0, hb0⟩ := id hX5
    obtain ⟨_, ka1, kb1, ha1, hb1⟩ := id ha0
    have HS0 := Lib.hid (show AllS [(w.heap.size, 0, (Mt.n2 5 g c (Mt.n2 5 ga ca p q) b)), (W2.heap.size, 0, b), ((W2.heap.size + 1), 0, (Mt.n2 5 ga ca p q)), (ga, 0, p), (ga, 3, q)] W3.drew from ⟨box_kid hH5.box, (box_kid hbx0).draw, (box_kid hbx1).draw, kid_at ka1, kid_at kb1, trivial⟩)
    have HH_0 := Lib.hid hb1
    have HH_1 := Lib.hid hb0
    have HH_2 := Lib.hid ha1
    have HH5 := Lib.hid hH5
    clear hh hX2 hX5 hH5 ha0 ha1 hb0 hb1 ka0 ka1 kb0 kb1 hbx0 hbx1
    have hsb : W3.heap.size ≤ W3.drew.heap.size := Nat.le_refl _
    have t1 : True := trivial
    have t2 : True := trivial
    go_region_held3 (fun w' => ((w'.cell? ⟨w.heap.size, 0, none⟩ = some (.int .i64 5) ∧ w'.cell? ⟨w.heap.size, 1, none⟩ = some (.int .i64 0) ∧ w'.cell? ⟨w.heap.size, 2, none⟩ = some (.slice (some ⟨g, 0, none⟩) 2 c)) ∧ (w'.cell? ⟨W2.heap.size, 0, none⟩ = some (.int .i64 b.kk) ∧ w'.cell? ⟨W2.heap.size, 1, none⟩ = some (.int .i64 b.ks) ∧ w'.cell? ⟨W2.heap.size, 2, none⟩ = some (.slice b.kA b.kids.length b.kc)) ∧ (w'.cell? ⟨(W2.heap.size + 1), 0, none⟩ = some (.int .i64 5) ∧ w'.cell? ⟨(W2.heap.size + 1), 1, none⟩ = some (.int .i64 0) ∧ w'.cell? ⟨(W2.heap.size + 1), 2, none⟩ = some (.slice (some ⟨ga, 0, none⟩) 2 ca)) ∧ (w'.cell? ⟨ga, 0, none⟩ = some (.int .i64 p.kk) ∧ w'.cell? ⟨ga, 1, none⟩ = some (.int .i64 p.ks) ∧ w'.cell? ⟨ga, 2, none⟩ = some (.slice p.kA p.kids.length p.kc)) ∧ (w'.cell? ⟨ga, 3, none⟩ = some (.int .i64 q.kk) ∧ w'.cell? ⟨ga, 4, none⟩ = some (.int .i64 q.ks) ∧ w'.cell? ⟨ga, 5, none⟩ = some (.slice q.kA q.kids.length q.kc)) ∧ True)) (first | exact HS0.out | exact HS0.out.up (up_alloc _ _) | exact HS1.out | exact HS1.out.up (up_alloc _ _) | exact HS2.out | exact AllS.set3 _ _ _ HS2.out ⟨by omega, by omega, by omega, by omega, by omega, trivial⟩) (first
          | (have _t := t1; go_at_call 16; refine Calls.mono (wmake_any _ _ _ _ _) ?_; rintro e e1 ⟨rfl, hp1⟩; have hb1 : Below (W3.drew.alloc (mtObj2 q b)).heap.size (W3.drew.alloc (mtObj2 q b)) e1 := hp1; have HB1 := Lib.hid hb1; have HU1 := Lib.hid (up_call hb1); have HS1 := Lib.hid (HS0.out.up (up_call hb1)); clear hb1 hp1 t1)
          | (have _t := t2; go_at_call 16; refine Calls.mono (wmake_any _ _ _ _ _) ?_; rintro e e2 ⟨rfl, hp2⟩; have hb2 : Below (e1.alloc (mtObj2 p (Mt.n2 5 W3.drew.heap.size 2 q b))).heap.size (e1.alloc (mtObj2 p (Mt.n2 5 W3.drew.heap.size 2 q b))) e2 := hp2; have HB2 := Lib.hid hb2; have HU2 := Lib.hid (up_trans HU1.out (up_call hb2)); have HS2 := Lib.hid (HS1.out.up (up_call hb2)); obtain ⟨⟨y0, y1, y2⟩, z0, z1, z2, zl⟩ := res_at (HH5.out.made HU2.out).res; clear hb2 hp2 t2))
    all_goals
      go_wp2_with fail
      have hsz_0 : w.heap.size + 2 ≤ W3.drew.heap.size := by omega
      have s1 : Below W3.drew.heap.size W3.drew e1 := up_call HB1.out
      have u1 : Below W3.drew.heap.size W3.drew e1 := s1
      have hsz_1 : w.heap.size + 2 ≤ e1.heap.size := Nat.le_trans hsz_0 u1.size
      have s2 : Below e1.heap.size e1 e2 := up_call HB2.out
      have u2 : Below W3.drew.heap.size W3.drew e2 := up_trans u1 s2
      have hsz_2 : w.heap.size + 2 ≤ e2.heap.size := Nat.le_trans hsz_0 u2.size
      have m1 : (Mt.n2 5 W3.drew.heap.size 2 q b).has e1 := mk2_has (W := W3.drew) 5 HH_0.out HH_1.out (up_next HB1.out)
      have f1 : Fr (Mt.n2 5 g c (Mt.n2 5 ga ca p q) b) (w.heap.size + 2) w0.heap.size (Mt.n2 5 W3.drew.heap.size 2 q b) := Fr.n2 hsz_0 (Fr.kid (Fr.kid (Fr.self _ _ _) (z := (Mt.n2 5 ga ca p q)) (by simp [Mt.kids])) (z := q) (by simp [Mt.kids])) (Fr.kid (Fr.self _ _ _) (z := b) (by simp [Mt.kids]))
      have m2 : (Mt.n2 5 e1.heap.size 2 p (Mt.n2 5 W3.drew.heap.size 2 q b)).has e2 := mk2_has (W := e1) 5 (HH_2.out.made u1) m1 (up_next HB2.out)
      have f2 : Fr (Mt.n2 5 g c (Mt.n2 5 ga ca p q) b) (w.heap.size + 2) w0.heap.size (Mt.n2 5 e1.heap.size 2 p (Mt.n2 5 W3.drew.heap.size 2 q b)) := Fr.n2 hsz_1 (Fr.kid (Fr.kid (Fr.self _ _ _) (z := (Mt.n2 5 ga ca p q)) (by simp [Mt.kids])) (z := p) (by simp [Mt.kids])) f1
      have ub : Below w.heap.size w e2 := HH5.out.below.trans (u2.mono (by omega))
      refine bodyPost_ret (v := .tuple #[(Mt.n2 5 e1.heap.size 2 p (Mt.n2 5 W3.drew.heap.size 2 q b)).val, .bool true]) (by simp [results, Tryz.results35, go_sem, y0, y1, y2]; rfl) rfl (by_fr HR.out HX.out HZ.out m2 (by simp only [Mt.w]) ub f2)
end Go.Proofs.YtccknopchddicaaGreatDoor
/- contract: the rule of FormTurned, grouped from this side. -/
namespace Go.Proofs.YtccknopchddicaaGreatDoor
open Go.RowKit Stile
set_option maxRecDepth 100000 in
set_option maxHeartbeats 3200000 in
theorem tu_two4 (pa : Addr) (w0 w : World) (g : Nat) (c : Nat) (gb : Nat) (cb : Nat) (a : Mt) (p : Mt) (q : Mt) (hx : (Mt.n2 4 g c a (Mt.n2 4 gb cb p q)).has w) (h0 : w0.heap.size ≤ w.heap.size) (hc : w.cell? pa = some (.bool true)) (hna : asTwo 4 a.w = none) (hnk : (a.kk == 4) = false) :
    Calls Tryz.prog 35 #[.agg #[.int .i64 4, .int .i64 0, .slice (some ⟨g, 0, none⟩) 2 c], .pointer (some pa)] w (ByOut (tuRule true) (Mt.n2 4 g c a (Mt.n2 4 gb cb p q)) w0 w) := by
  have hr : (tuRule true) (Mt.n2 4 g c a (Mt.n2 4 gb cb p q)).w = some (W.n2 4 (W.n2 4 a.w p.w) q.w) := by simp only [Mt.w]; show some (tuTwo true 4 a.w (.n2 4 p.w q.w)) = _; unfold tuTwo; rw [if_pos rfl, hna]; rfl
  have hcl_0 := lt_of_cell hc
  have HX := Lib.hid hx
  have HR := Lib.hid hr
  have HZ := Lib.hid h0
  clear hx hr h0
  go_enter Tryz.func35, Tryz.ntmps35
  go_upto_region 3 with fail
  have hh : ByHead w ((w.alloc (Obj.cells #[.int .i64 4, .int .i64 0, .slice (some ⟨g, 0, none⟩) 2 c] 29)).alloc (Obj.cells #[.int .i64 0, .int .i64 0, .slice none 0 0] 29)) (Mt.n2 4 g c a (Mt.n2 4 gb cb p q)) := by_head w (Mt.n2 4 g c a (Mt.n2 4 gb cb p q))
  obtain ⟨W2, hW2⟩ : ∃ W2, (w.alloc (Obj.cells #[.int .i64 4, .int .i64 0, .slice (some ⟨g, 0, none⟩) 2 c] 29)).alloc (Obj.cells #[.int .i64 0, .int .i64 0, .slice none 0 0] 29) = W2 := ⟨_, rfl⟩
  rw [hW2] at hh ⊢
  clear hW2
  have hs2 : w.heap.size + 2 ≤ W2.heap.size := lt_blk hh.res
  have hX2 : (Mt.n2 4 g c a (Mt.n2 4 gb cb p q)).has W2 := HX.out.below hh.below (fun g hg => HX.out.lt g hg)
  have hcw_0 : W2.cell? pa = some (.bool true) := (hh.below.cell hcl_0).trans hc
  have hgl_g : g < w.heap.size := HX.out.lt g (by simp [Mt.blks])
  have hgl_gb : gb < w.heap.size := HX.out.lt gb (by simp [Mt.blks])
  obtain ⟨_, kaq0, kbq0, haq0, hbq0⟩ := id hX2
  obtain ⟨_, kaq2, kbq2, haq2, hbq2⟩ := id hbq0
  have HS0 := Lib.hid (show AllS [(w.heap.size, 0, (Mt.n2 4 g c a (Mt.n2 4 gb cb p q))), (g, 0, a), (g, 3, (Mt.n2 4 gb cb p q))] W2 from ⟨box_kid hh.box, kid_at kaq0, kid_at kbq0, trivial⟩)
  have HHD := Lib.hid hh
  have HX2 := Lib.hid hX2
  clear hh hX2 haq0 haq2 hbq0 hbq2 kaq0 kaq2 kbq0 kbq2
  go_region_held3 (fun w' => ((w'.cell? ⟨w.heap.size, 0, none⟩ = some (.int .i64 4) ∧ w'.cell? ⟨w.heap.size, 1, none⟩ = some (.int .i64 0) ∧ w'.cell? ⟨w.heap.size, 2, none⟩ = some (.slice (some ⟨g, 0, none⟩) 2 c)) ∧ (w'.cell? ⟨g, 0, none⟩ = some (.int .i64 a.kk) ∧ w'.cell? ⟨g, 1, none⟩ = some (.int .i64 a.ks) ∧ w'.cell? ⟨g, 2, none⟩ = some (.slice a.kA a.kids.length a.kc)) ∧ (w'.cell? ⟨g, 3, none⟩ = some (.int .i64 4) ∧ w'.cell? ⟨g, 4, none⟩ = some (.int .i64 0) ∧ w'.cell? ⟨g, 5, none⟩ = some (.slice (some ⟨gb, 0, none⟩) 2 cb)) ∧ True)) (first | exact HS0.out.draw | exact HS0.out.up ((up_alloc _ _).drew) | exact (HS0.out.up (up_alloc _ _)).up ((up_alloc _ _).drew) | exact HS0.out | exact HS0.out.up (up_alloc _ _) | exact (HS0.out.up (up_alloc _ _)).up (up_alloc _ _)) (fail)
  · have hU : Below W2.heap.size W2 ((W2.alloc (Obj.cells #[.int .i64 a.kk, .int .i64 a.ks, .slice a.kA a.kids.length a.kc] 29)).alloc (Obj.cells #[.int .i64 4, .int .i64 0, .slice (some ⟨gb, 0, none⟩) 2 cb] 29)).drew := (((up_alloc W2 _).alloc (by simp) _).drew)
    have hbx0 : ((W2.alloc (Obj.cells #[.int .i64 a.kk, .int .i64 a.ks, .slice a.kA a.kids.length a.kc] 29)).alloc (Obj.cells #[.int .i64 4, .int .i64 0, .slice (some ⟨gb, 0, none⟩) 2 cb] 29)).drew.heap[W2.heap.size]? = some (mtObj1 a) := heap_old2 _ _ _
    have hbx1 : ((W2.alloc (Obj.cells #[.int .i64 a.kk, .int .i64 a.ks, .slice a.kA a.kids.length a.kc] 29)).alloc (Obj.cells #[.int .i64 4, .int .i64 0, .slice (some ⟨gb, 0, none⟩) 2 cb] 29)).drew.heap[(W2.heap.size + 1)]? = some (mtObj1 (Mt.n2 4 gb cb p q)) := heap_new2 _ _ _
    obtain ⟨W3, hW3⟩ : ∃ W3, ((W2.alloc (Obj.cells #[.int .i64 a.kk, .int .i64 a.ks, .slice a.kA a.kids.length a.kc] 29)).alloc (Obj.cells #[.int .i64 4, .int .i64 0, .slice (some ⟨gb, 0, none⟩) 2 cb] 29)).drew = W3 := ⟨_, rfl⟩
    rw [hW3] at hU hbx0 hbx1 ⊢
    clear hW3
    have hsz3 : W2.heap.size + 2 ≤ W3.heap.size := lt_blk hbx1
    have hh : ByHead w W3 (Mt.n2 4 g c a (Mt.n2 4 gb cb p q)) := HHD.out.made hU
    have hX3 : (Mt.n2 4 g c a (Mt.n2 4 gb cb p q)).has W3 := HX2.out.made hU
    have hcx_0 : W3.cell? pa = some (.bool true) := (hh.below.cell hcl_0).trans hc
    obtain ⟨xf0, xf1, xf2⟩ : (W3.cell? ⟨w.heap.size, 0, none⟩ = some (.int .i64 4) ∧ W3.cell? ⟨w.heap.size, 1, none⟩ = some (.int .i64 0) ∧ W3.cell? ⟨w.heap.size, 2, none⟩ = some (.slice (some ⟨g, 0, none⟩) 2 c)) := box_kid hh.box
    obtain ⟨bf00, bf01, bf02⟩ : (W3.cell? ⟨W2.heap.size, 0, none⟩ = some (.int .i64 a.kk) ∧ W3.cell? ⟨W2.heap.size, 1, none⟩ = some (.int .i64 a.ks) ∧ W3.cell? ⟨W2.heap.size, 2, none⟩ = some (.slice a.kA a.kids.length a.kc)) := box_kid hbx0
    obtain ⟨bf10, bf11, bf12⟩ : (W3.cell? ⟨(W2.heap.size + 1), 0, none⟩ = some (.int .i64 4) ∧ W3.cell? ⟨(W2.heap.size + 1), 1, none⟩ = some (.int .i64 0) ∧ W3.cell? ⟨(W2.heap.size + 1), 2, none⟩ = some (.slice (some ⟨gb, 0, none⟩) 2 cb)) := box_kid hbx1
    have HHE := Lib.hid hh
    have HX3 := Lib.hid hX3
    have HBX0 := Lib.hid hbx0
    have HBX1 := Lib.hid hbx1
    clear hh hX3 hU HS0 HHD HX2 hbx0 hbx1
    go_upto_region 7 with fail
    have hh := HHE.out
    have hX2 := HX3.out
    have hbx0 := HBX0.out
    have hbx1 := HBX1.out
    clear xf0 xf1 xf2 bf00 bf01 bf02 bf10 bf11 bf12
    have hX5 : (Mt.n2 4 g c a (Mt.n2 4 gb cb p q)).has W3.drew := hX2.made (Below.refl _ _).drew
    have hH5 : ByHead w W3.drew (Mt.n2 4 g c a (Mt.n2 4 gb cb p q)) := hh.made (Below.refl _ _).drew
    obtain ⟨_, ka0, kb0, ha0, hb0⟩ := id hX5
    obtain ⟨_, ka2, kb2, ha2, hb2⟩ := id hb0
    have HS0 := Lib.hid (show AllS [(w.heap.size, 0, (Mt.n2 4 g c a (Mt.n2 4 gb cb p q))), (W2.heap.size, 0, a), ((W2.heap.size + 1), 0, (Mt.n2 4 gb cb p q)), (gb, 0, p), (gb, 3, q)] W3.drew from ⟨box_kid hH5.box, (box_kid hbx0).draw, (box_kid hbx1).draw, kid_at ka2, kid_at kb2, trivial⟩)
    have HH_0 := Lib.hid ha0
    have HH_1 := Lib.hid ha2
    have HH_2 := Lib.hid hb2
    have HH5 := Lib.hid hH5
    clear hh hX2 hX5 hH5 ha0 ha2 hb0 hb2 ka0 ka2 kb0 kb2 hbx0 hbx1
    have hsb : W3.heap.size ≤ W3.drew.heap.size := Nat.le_refl _
    have t1 : True := trivial
    have t2 : True := trivial
    go_region_held3 (fun w' => ((w'.cell? ⟨w.heap.size, 0, none⟩ = some (.int .i64 4) ∧ w'.cell? ⟨w.heap.size, 1, none⟩ = some (.int .i64 0) ∧ w'.cell? ⟨w.heap.size, 2, none⟩ = some (.slice (some ⟨g, 0, none⟩) 2 c)) ∧ (w'.cell? ⟨W2.heap.size, 0, none⟩ = some (.int .i64 a.kk) ∧ w'.cell? ⟨W2.heap.size, 1, none⟩ = some (.int .i64 a.ks) ∧ w'.cell? ⟨W2.heap.size, 2, none⟩ = some (.slice a.kA a.kids.length a.kc)) ∧ (w'.cell? ⟨(W2.heap.size + 1), 0, none⟩ = some (.int .i64 4) ∧ w'.cell? ⟨(W2.heap.size + 1), 1, none⟩ = some (.int .i64 0) ∧ w'.cell? ⟨(W2.heap.size + 1), 2, none⟩ = some (.slice (some ⟨gb, 0, none⟩) 2 cb)) ∧ (w'.cell? ⟨gb, 0, none⟩ = some (.int .i64 p.kk) ∧ w'.cell? ⟨gb, 1, none⟩ = some (.int .i64 p.ks) ∧ w'.cell? ⟨gb, 2, none⟩ = some (.slice p.kA p.kids.length p.kc)) ∧ (w'.cell? ⟨gb, 3, none⟩ = some (.int .i64 q.kk) ∧ w'.cell? ⟨gb, 4, none⟩ = some (.int .i64 q.ks) ∧ w'.cell? ⟨gb, 5, none⟩ = some (.slice q.kA q.kids.length q.kc)) ∧ True)) (first | exact HS0.out | exact HS0.out.up (up_alloc _ _) | exact HS1.out | exact HS1.out.up (up_alloc _ _) | exact HS2.out | exact AllS.set3 _ _ _ HS2.out ⟨by omega, by omega, by omega, by omega, by omega, trivial⟩) (first
          | (have _t := t1; go_at_call 16; refine Calls.mono (wmake_any _ _ _ _ _) ?_; rintro e e1 ⟨rfl, hp1⟩; have hb1 : Below (W3.drew.alloc (mtObj2 a p)).heap.size (W3.drew.alloc (mtObj2 a p)) e1 := hp1; have HB1 := Lib.hid hb1; have HU1 := Lib.hid (up_call hb1); have HS1 := Lib.hid (HS0.out.up (up_call hb1)); clear hb1 hp1 t1)
          | (have _t := t2; go_at_call 16; refine Calls.mono (wmake_any _ _ _ _ _) ?_; rintro e e2 ⟨rfl, hp2⟩; have hb2 : Below (e1.alloc (mtObj2 (Mt.n2 4 W3.drew.heap.size 2 a p) q)).heap.size (e1.alloc (mtObj2 (Mt.n2 4 W3.drew.heap.size 2 a p) q)) e2 := hp2; have HB2 := Lib.hid hb2; have HU2 := Lib.hid (up_trans HU1.out (up_call hb2)); have HS2 := Lib.hid (HS1.out.up (up_call hb2)); obtain ⟨⟨y0, y1, y2⟩, z0, z1, z2, zl⟩ := res_at (HH5.out.made HU2.out).res; clear hb2 hp2 t2))
    all_goals
      go_wp2_with fail
      have hsz_0 : w.heap.size + 2 ≤ W3.drew.heap.size := by omega
      have s1 : Below W3.drew.heap.size W3.drew e1 := up_call HB1.out
      have u1 : Below W3.drew.heap.size W3.drew e1 := s1
      have hsz_1 : w.heap.size + 2 ≤ e1.heap.size := Nat.le_trans hsz_0 u1.size
      have s2 : Below e1.heap.size e1 e2 := up_call HB2.out
      have u2 : Below W3.drew.heap.size W3.drew e2 := up_trans u1 s2
      have hsz_2 : w.heap.size + 2 ≤ e2.heap.size := Nat.le_trans hsz_0 u2.size
      have m1 : (Mt.n2 4 W3.drew.heap.size 2 a p).has e1 := mk2_has (W := W3.drew) 4 HH_0.out HH_1.out (up_next HB1.out)
      have f1 : Fr (Mt.n2 4 g c a (Mt.n2 4 gb cb p q)) (w.heap.size + 2) w0.heap.size (Mt.n2 4 W3.drew.heap.size 2 a p) := Fr.n2 hsz_0 (Fr.kid (Fr.self _ _ _) (z := a) (by simp [Mt.kids])) (Fr.kid (Fr.kid (Fr.self _ _ _) (z := (Mt.n2 4 gb cb p q)) (by simp [Mt.kids])) (z := p) (by simp [Mt.kids]))
      have m2 : (Mt.n2 4 e1.heap.size 2 (Mt.n2 4 W3.drew.heap.size 2 a p) q).has e2 := mk2_has (W := e1) 4 m1 (HH_2.out.made u1) (up_next HB2.out)
      have f2 : Fr (Mt.n2 4 g c a (Mt.n2 4 gb cb p q)) (w.heap.size + 2) w0.heap.size (Mt.n2 4 e1.heap.size 2 (Mt.n2 4 W3.drew.heap.size 2 a p) q) := Fr.n2 hsz_1 f1 (Fr.kid (Fr.kid (Fr.self _ _ _) (z := (Mt.n2 4 gb cb p q)) (by simp [Mt.kids])) (z := q) (by simp [Mt.kids]))
      have ub : Below w.heap.size w e2 := HH5.out.below.trans (u2.mono (by omega))
      refine bodyPost_ret (v := .tuple #[(Mt.n2 4 e1.heap.size 2 (Mt.n2 4 W3.drew.heap.size 2 a p) q).val, .bool true]) (by simp [results, Tryz.results35, go_sem, y0, y1, y2]; rfl) rfl (by_fr HR.out HX.out HZ.out m2 (by simp only [Mt.w]) ub f2)
  · have hU : Below W2.heap.size W2 ((W2.alloc (Obj.cells #[.int .i64 4, .int .i64 0, .slice (some ⟨gb, 0, none⟩) 2 cb] 29)).alloc (Obj.cells #[.int .i64 a.kk, .int .i64 a.ks, .slice a.kA a.kids.length a.kc] 29)).drew := (((up_alloc W2 _).alloc (by simp) _).drew)
    have hbx0 : ((W2.alloc (Obj.cells #[.int .i64 4, .int .i64 0, .slice (some ⟨gb, 0, none⟩) 2 cb] 29)).alloc (Obj.cells #[.int .i64 a.kk, .int .i64 a.ks, .slice a.kA a.kids.length a.kc] 29)).drew.heap[W2.heap.size]? = some (mtObj1 (Mt.n2 4 gb cb p q)) := heap_old2 _ _ _
    have hbx1 : ((W2.alloc (Obj.cells #[.int .i64 4, .int .i64 0, .slice (some ⟨gb, 0, none⟩) 2 cb] 29)).alloc (Obj.cells #[.int .i64 a.kk, .int .i64 a.ks, .slice a.kA a.kids.length a.kc] 29)).drew.heap[(W2.heap.size + 1)]? = some (mtObj1 a) := heap_new2 _ _ _
    obtain ⟨W3, hW3⟩ : ∃ W3, ((W2.alloc (Obj.cells #[.int .i64 4, .int .i64 0, .slice (some ⟨gb, 0, none⟩) 2 cb] 29)).alloc (Obj.cells #[.int .i64 a.kk, .int .i64 a.ks, .slice a.kA a.kids.length a.kc] 29)).drew = W3 := ⟨_, rfl⟩
    rw [hW3] at hU hbx0 hbx1 ⊢
    clear hW3
    have hsz3 : W2.heap.size + 2 ≤ W3.heap.size := lt_blk hbx1
    have hh : ByHead w W3 (Mt.n2 4 g c a (Mt.n2 4 gb cb p q)) := HHD.out.made hU
    have hX3 : (Mt.n2 4 g c a (Mt.n2 4 gb cb p q)).has W3 := HX2.out.made hU
    have hcx_0 : W3.cell? pa = some (.bool true) := (hh.below.cell hcl_0).trans hc
    obtain ⟨xf0, xf1, xf2⟩ : (W3.cell? ⟨w.heap.size, 0, none⟩ = some (.int .i64 4) ∧ W3.cell? ⟨w.heap.size, 1, none⟩ = some (.int .i64 0) ∧ W3.cell? ⟨w.heap.size, 2, none⟩ = some (.slice (some ⟨g, 0, none⟩) 2 c)) := box_kid hh.box
    obtain ⟨bf00, bf01, bf02⟩ : (W3.cell? ⟨W2.heap.size, 0, none⟩ = some (.int .i64 4) ∧ W3.cell? ⟨W2.heap.size, 1, none⟩ = some (.int .i64 0) ∧ W3.cell? ⟨W2.heap.size, 2, none⟩ = some (.slice (some ⟨gb, 0, none⟩) 2 cb)) := box_kid hbx0
    obtain ⟨bf10, bf11, bf12⟩ : (W3.cell? ⟨(W2.heap.size + 1), 0, none⟩ = some (.int .i64 a.kk) ∧ W3.cell? ⟨(W2.heap.size + 1), 1, none⟩ = some (.int .i64 a.ks) ∧ W3.cell? ⟨(W2.heap.size + 1), 2, none⟩ = some (.slice a.kA a.kids.length a.kc)) := box_kid hbx1
    have HHE := Lib.hid hh
    have HX3 := Lib.hid hX3
    have HBX0 := Lib.hid hbx0
    have HBX1 := Lib.hid hbx1
    clear hh hX3 hU HS0 HHD HX2 hbx0 hbx1
    go_upto_region 7 with fail
    have hh := HHE.out
    have hX2 := HX3.out
    have hbx0 := HBX0.out
    have hbx1 := HBX1.out
    clear xf0 xf1 xf2 bf00 bf01 bf02 bf10 bf11 bf12
    have hX5 : (Mt.n2 4 g c a (Mt.n2 4 gb cb p q)).has W3.drew := hX2.made (Below.refl _ _).drew
    have hH5 : ByHead w W3.drew (Mt.n2 4 g c a (Mt.n2 4 gb cb p q)) := hh.made (Below.refl _ _).drew
    obtain ⟨_, ka0, kb0, ha0, hb0⟩ := id hX5
    obtain ⟨_, ka2, kb2, ha2, hb2⟩ := id hb0
    have HS0 := Lib.hid (show AllS [(w.heap.size, 0, (Mt.n2 4 g c a (Mt.n2 4 gb cb p q))), (W2.heap.size, 0, (Mt.n2 4 gb cb p q)), ((W2.heap.size + 1), 0, a), (gb, 0, p), (gb, 3, q)] W3.drew from ⟨box_kid hH5.box, (box_kid hbx0).draw, (box_kid hbx1).draw, kid_at ka2, kid_at kb2, trivial⟩)
    have HH_0 := Lib.hid ha0
    have HH_1 := Lib.hid ha2
    have HH_2 := Lib.hid hb2
    have HH5 := Lib.hid hH5
    clear hh hX2 hX5 hH5 ha0 ha2 hb0 hb2 ka0 ka2 kb0 kb2 hbx0 hbx1
    have hsb : W3.heap.size ≤ W3.drew.heap.size := Nat.le_refl _
    have t1 : True := trivial
    have t2 : True := trivial
    go_region_held3 (fun w' => ((w'.cell? ⟨w.heap.size, 0, none⟩ = some (.int .i64 4) ∧ w'.cell? ⟨w.heap.size, 1, none⟩ = some (.int .i64 0) ∧ w'.cell? ⟨w.heap.size, 2, none⟩ = some (.slice (some ⟨g, 0, none⟩) 2 c)) ∧ (w'.cell? ⟨W2.heap.size, 0, none⟩ = some (.int .i64 4) ∧ w'.cell? ⟨W2.heap.size, 1, none⟩ = some (.int .i64 0) ∧ w'.cell? ⟨W2.heap.size, 2, none⟩ = some (.slice (some ⟨gb, 0, none⟩) 2 cb)) ∧ (w'.cell? ⟨(W2.heap.size + 1), 0, none⟩ = some (.int .i64 a.kk) ∧ w'.cell? ⟨(W2.heap.size + 1), 1, none⟩ = some (.int .i64 a.ks) ∧ w'.cell? ⟨(W2.heap.size + 1), 2, none⟩ = some (.slice a.kA a.kids.length a.kc)) ∧ (w'.cell? ⟨gb, 0, none⟩ = some (.int .i64 p.kk) ∧ w'.cell? ⟨gb, 1, none⟩ = some (.int .i64 p.ks) ∧ w'.cell? ⟨gb, 2, none⟩ = some (.slice p.kA p.kids.length p.kc)) ∧ (w'.cell? ⟨gb, 3, none⟩ = some (.int .i64 q.kk) ∧ w'.cell? ⟨gb, 4, none⟩ = some (.int .i64 q.ks) ∧ w'.cell? ⟨gb, 5, none⟩ = some (.slice q.kA q.kids.length q.kc)) ∧ True)) (first | exact HS0.out | exact HS0.out.up (up_alloc _ _) | exact HS1.out | exact HS1.out.up (up_alloc _ _) | exact HS2.out | exact AllS.set3 _ _ _ HS2.out ⟨by omega, by omega, by omega, by omega, by omega, trivial⟩) (first
          | (have _t := t1; go_at_call 16; refine Calls.mono (wmake_any _ _ _ _ _) ?_; rintro e e1 ⟨rfl, hp1⟩; have hb1 : Below (W3.drew.alloc (mtObj2 a p)).heap.size (W3.drew.alloc (mtObj2 a p)) e1 := hp1; have HB1 := Lib.hid hb1; have HU1 := Lib.hid (up_call hb1); have HS1 := Lib.hid (HS0.out.up (up_call hb1)); clear hb1 hp1 t1)
          | (have _t := t2; go_at_call 16; refine Calls.mono (wmake_any _ _ _ _ _) ?_; rintro e e2 ⟨rfl, hp2⟩; have hb2 : Below (e1.alloc (mtObj2 (Mt.n2 4 W3.drew.heap.size 2 a p) q)).heap.size (e1.alloc (mtObj2 (Mt.n2 4 W3.drew.heap.size 2 a p) q)) e2 := hp2; have HB2 := Lib.hid hb2; have HU2 := Lib.hid (up_trans HU1.out (up_call hb2)); have HS2 := Lib.hid (HS1.out.up (up_call hb2)); obtain ⟨⟨y0, y1, y2⟩, z0, z1, z2, zl⟩ := res_at (HH5.out.made HU2.out).res; clear hb2 hp2 t2))
    all_goals
      go_wp2_with fail
      have hsz_0 : w.heap.size + 2 ≤ W3.drew.heap.size := by omega
      have s1 : Below W3.drew.heap.size W3.drew e1 := up_call HB1.out
      have u1 : Below W3.drew.heap.size W3.drew e1 := s1
      have hsz_1 : w.heap.size + 2 ≤ e1.heap.size := Nat.le_trans hsz_0 u1.size
      have s2 : Below e1.heap.size e1 e2 := up_call HB2.out
      have u2 : Below W3.drew.heap.size W3.drew e2 := up_trans u1 s2
      have hsz_2 : w.heap.size + 2 ≤ e2.heap.size := Nat.le_trans hsz_0 u2.size
      have m1 : (Mt.n2 4 W3.drew.heap.size 2 a p).has e1 := mk2_has (W := W3.drew) 4 HH_0.out HH_1.out (up_next HB1.out)
      have f1 : Fr (Mt.n2 4 g c a (Mt.n2 4 gb cb p q)) (w.heap.size + 2) w0.heap.size (Mt.n2 4 W3.drew.heap.size 2 a p) := Fr.n2 hsz_0 (Fr.kid (Fr.self _ _ _) (z := a) (by simp [Mt.kids])) (Fr.kid (Fr.kid (Fr.self _ _ _) (z := (Mt.n2 4 gb cb p q)) (by simp [Mt.kids])) (z := p) (by simp [Mt.kids]))
      have m2 : (Mt.n2 4 e1.heap.size 2 (Mt.n2 4 W3.drew.heap.size 2 a p) q).has e2 := mk2_has (W := e1) 4 m1 (HH_2.out.made u1) (up_next HB2.out)
      have f2 : Fr (Mt.n2 4 g c a (Mt.n2 4 gb cb p q)) (w.heap.size + 2) w0.heap.size (Mt.n2 4 e1.heap.size 2 (Mt.n2 4 W3.drew.heap.size 2 a p) q) := Fr.n2 hsz_1 f1 (Fr.kid (Fr.kid (Fr.self _ _ _) (z := (Mt.n2 4 gb cb p q)) (by simp [Mt.kids])) (z := q) (by simp [Mt.kids]))
      have ub : Below w.heap.size w e2 := HH5.out.below.trans (u2.mono (by omega))
      refine bodyPost_ret (v := .tuple #[(Mt.n2 4 e1.heap.size 2 (Mt.n2 4 W3.drew.heap.size 2 a p) q).val, .bool true]) (by simp [results, Tryz.results35, go_sem, y0, y1, y2]; rfl) rfl (by_fr HR.out HX.out HZ.out m2 (by simp only [Mt.w]) ub f2)
set_option maxRecDepth 100000 in
set_option maxHeartbeats 3200000 in
theorem tu_two5 (pa : Addr) (w0 w : World) (g : Nat) (c : Nat) (gb : Nat) (cb : Nat) (a : Mt) (p : Mt) (q : Mt) (hx : (Mt.n2 5 g c a (Mt.n2 5 gb cb p q)).has w) (h0 : w0.heap.size ≤ w.heap.size) (hc : w.cell? pa = some (.bool true)) (hna : asTwo 5 a.w = none) (hnk : (a.kk == 5) = false) :
    Calls Tryz.prog 35 #[.agg #[.int .i64 5, .int .i64 0, .slice (some ⟨g, 0, none⟩) 2 c], .pointer (some pa)] w (ByOut (tuRule true) (Mt.n2 5 g c a (Mt.n2 5 gb cb p q)) w0 w) := by
  have hr : (tuRule true) (Mt.n2 5 g c a (Mt.n2 5 gb cb p q)).w = some (W.n2 5 (W.n2 5 a.w p.w) q.w) := by simp only [Mt.w]; show some (tuTwo true 5 a.w (.n2 5 p.w q.w)) = _; unfold tuTwo; rw [if_pos rfl, hna]; rfl
  have hcl_0 := lt_of_cell hc
  have HX := Lib.hid hx
  have HR := Lib.hid hr
  have HZ := Lib.hid h0
  clear hx hr h0
  go_enter Tryz.func35, Tryz.ntmps35
  go_upto_region 3 with fail
  have hh : ByHead w ((w.alloc (Obj.cells #[.int .i64 5, .int .i64 0, .slice (some ⟨g, 0, none⟩) 2 c] 29)).alloc (Obj.cells #[.int .i64 0, .int .i64 0, .slice none 0 0] 29)) (Mt.n2 5 g c a (Mt.n2 5 gb cb p q)) := by_head w (Mt.n2 5 g c a (Mt.n2 5 gb cb p q))
  obtain ⟨W2, hW2⟩ : ∃ W2, (w.alloc (Obj.cells #[.int .i64 5, .int .i64 0, .slice (some ⟨g, 0, none⟩) 2 c] 29)).alloc (Obj.cells #[.int .i64 0, .int .i64 0, .slice none 0 0] 29) = W2 := ⟨_, rfl⟩
  rw [hW2] at hh ⊢
  clear hW2
  have hs2 : w.heap.size + 2 ≤ W2.heap.size := lt_blk hh.res
  have hX2 : (Mt.n2 5 g c a (Mt.n2 5 gb cb p q)).has W2 := HX.out.below hh.below (fun g hg => HX.out.lt g hg)
  have hcw_0 : W2.cell? pa = some (.bool true) := (hh.below.cell hcl_0).trans hc
  have hgl_g : g < w.heap.size := HX.out.lt g (by simp [Mt.blks])
  have hgl_gb : gb < w.heap.size := HX.out.lt gb (by simp [Mt.blks])
  obtain ⟨_, kaq0, kbq0, haq0, hbq0⟩ := id hX2
  obtain ⟨_, kaq2, kbq2, haq2, hbq2⟩ := id hbq0
  have HS0 := Lib.hid (show AllS [(w.heap.size, 0, (Mt.n2 5 g c a (Mt.n2 5 gb cb p q))), (g, 0, a), (g, 3, (Mt.n2 5 gb cb p q))] W2 from ⟨box_kid hh.box, kid_at kaq0, kid_at kbq0, trivial⟩)
  have HHD := Lib.hid hh
  have HX2 := Lib.hid hX2
  clear hh hX2 haq0 haq2 hbq0 hbq2 kaq0 kaq2 kbq0 kbq2
  go_region_held3 (fun w' => ((w'.cell? ⟨w.heap.size, 0, none⟩ = some (.int .i64 5) ∧ w'.cell? ⟨w.heap.size, 1, none⟩ = some (.int .i64 0) ∧ w'.cell? ⟨w.heap.size, 2, none⟩ = some (.slice (some ⟨g, 0, none⟩) 2 c)) ∧ (w'.cell? ⟨g, 0, none⟩ = some (.int .i64 a.kk) ∧ w'.cell? ⟨g, 1, none⟩ = some (.int .i64 a.ks) ∧ w'.cell? ⟨g, 2, none⟩ = some (.slice a.kA a.kids.length a.kc)) ∧ (w'.cell? ⟨g, 3, none⟩ = some (.int .i64 5) ∧ w'.cell? ⟨g, 4, none⟩ = some (.int .i64 0) ∧ w'.cell? ⟨g, 5, none⟩ = some (.slice (some ⟨gb, 0, none⟩) 2 cb)) ∧ True)) (first | exact HS0.out.draw | exact HS0.out.up ((up_alloc _ _).drew) | exact (HS0.out.up (up_alloc _ _)).up ((up_alloc _ _).drew) | exact HS0.out | exact HS0.out.up (up_alloc _ _) | exact (HS0.out.up (up_alloc _ _)).up (up_alloc _ _)) (fail)
  · have hU : Below W2.heap.size W2 ((W2.alloc (Obj.cells #[.int .i64 a.kk, .int .i64 a.ks, .slice a.kA a.kids.length a.kc] 29)).alloc (Obj.cells #[.int .i64 5, .int .i64 0, .slice (some ⟨gb, 0, none⟩) 2 cb] 29)).drew := (((up_alloc W2 _).alloc (by simp) _).drew)
    have hbx0 : ((W2.alloc (Obj.cells #[.int .i64 a.kk, .int .i64 a.ks, .slice a.kA a.kids.length a.kc] 29)).alloc (Obj.cells #[.int .i64 5, .int .i64 0, .slice (some ⟨gb, 0, none⟩) 2 cb] 29)).drew.heap[W2.heap.size]? = some (mtObj1 a) := heap_old2 _ _ _
    have hbx1 : ((W2.alloc (Obj.cells #[.int .i64 a.kk, .int .i64 a.ks, .slice a.kA a.kids.length a.kc] 29)).alloc (Obj.cells #[.int .i64 5, .int .i64 0, .slice (some ⟨gb, 0, none⟩) 2 cb] 29)).drew.heap[(W2.heap.size + 1)]? = some (mtObj1 (Mt.n2 5 gb cb p q)) := heap_new2 _ _ _
    obtain ⟨W3, hW3⟩ : ∃ W3, ((W2.alloc (Obj.cells #[.int .i64 a.kk, .int .i64 a.ks, .slice a.kA a.kids.length a.kc] 29)).alloc (Obj.cells #[.int .i64 5, .int .i64 0, .slice (some ⟨gb, 0, none⟩) 2 cb] 29)).drew = W3 := ⟨_, rfl⟩
    rw [hW3] at hU hbx0 hbx1 ⊢
    clear hW3
    have hsz3 : W2.heap.size + 2 ≤ W3.heap.size := lt_blk hbx1
    have hh : ByHead w W3 (Mt.n2 5 g c a (Mt.n2 5 gb cb p q)) := HHD.out.made hU
    have hX3 : (Mt.n2 5 g c a (Mt.n2 5 gb cb p q)).has W3 := HX2.out.made hU
    have hcx_0 : W3.cell? pa = some (.bool true) := (hh.below.cell hcl_0).trans hc
    obtain ⟨xf0, xf1, xf2⟩ : (W3.cell? ⟨w.heap.size, 0, none⟩ = some (.int .i64 5) ∧ W3.cell? ⟨w.heap.size, 1, none⟩ = some (.int .i64 0) ∧ W3.cell? ⟨w.heap.size, 2, none⟩ = some (.slice (some ⟨g, 0, none⟩) 2 c)) := box_kid hh.box
    obtain ⟨bf00, bf01, bf02⟩ : (W3.cell? ⟨W2.heap.size, 0, none⟩ = some (.int .i64 a.kk) ∧ W3.cell? ⟨W2.heap.size, 1, none⟩ = some (.int .i64 a.ks) ∧ W3.cell? ⟨W2.heap.size, 2, none⟩ = some (.slice a.kA a.kids.length a.kc)) := box_kid hbx0
    obtain ⟨bf10, bf11, bf12⟩ : (W3.cell? ⟨(W2.heap.size + 1), 0, none⟩ = some (.int .i64 5) ∧ W3.cell? ⟨(W2.heap.size + 1), 1, none⟩ = some (.int .i64 0) ∧ W3.cell? ⟨(W2.heap.size + 1), 2, none⟩ = some (.slice (some ⟨gb, 0, none⟩) 2 cb)) := box_kid hbx1
    have HHE := Lib.hid hh
    have HX3 := Lib.hid hX3
    have HBX0 := Lib.hid hbx0
    have HBX1 := Lib.hid hbx1
    clear hh hX3 hU HS0 HHD HX2 hbx0 hbx1
    go_upto_region 7 with fail
    have hh := HHE.out
    have hX2 := HX3.out
    have hbx0 := HBX0.out
    have hbx1 := HBX1.out
    clear xf0 xf1 xf2 bf00 bf01 bf02 bf10 bf11 bf12
    have hX5 : (Mt.n2 5 g c a (Mt.n2 5 gb cb p q)).has W3.drew := hX2.made (Below.refl _ _).drew
    have hH5 : ByHead w W3.drew (Mt.n2 5 g c a (Mt.n2 5 gb cb p q)) := hh.made (Below.refl _ _).drew
    obtain ⟨_, ka0, kb0, ha0, hb0⟩ := id hX5
    obtain ⟨_, ka2, kb2, ha2, hb2⟩ := id hb0
    have HS0 := Lib.hid (show AllS [(w.heap.size, 0, (Mt.n2 5 g c a (Mt.n2 5 gb cb p q))), (W2.heap.size, 0, a), ((W2.heap.size + 1), 0, (Mt.n2 5 gb cb p q)), (gb, 0, p), (gb, 3, q)] W3.drew from ⟨box_kid hH5.box, (box_kid hbx0).draw, (box_kid hbx1).draw, kid_at ka2, kid_at kb2, trivial⟩)
    have HH_0 := Lib.hid ha0
    have HH_1 := Lib.hid ha2
    have HH_2 := Lib.hid hb2
    have HH5 := Lib.hid hH5
    clear hh hX2 hX5 hH5 ha0 ha2 hb0 hb2 ka0 ka2 kb0 kb2 hbx0 hbx1
    have hsb : W3.heap.size ≤ W3.drew.heap.size := Nat.le_refl _
    have t1 : True := trivial
    have t2 : True := trivial
    go_region_held3 (fun w' => ((w'.cell? ⟨w.heap.size, 0, none⟩ = some (.int .i64 5) ∧ w'.cell? ⟨w.heap.size, 1, none⟩ = some (.int .i64 0) ∧ w'.cell? ⟨w.heap.size, 2, none⟩ = some (.slice (some ⟨g, 0, none⟩) 2 c)) ∧ (w'.cell? ⟨W2.heap.size, 0, none⟩ = some (.int .i64 a.kk) ∧ w'.cell? ⟨W2.heap.size, 1, none⟩ = some (.int .i64 a.ks) ∧ w'.cell? ⟨W2.heap.size, 2, none⟩ = some (.slice a.kA a.kids.length a.kc)) ∧ (w'.cell? ⟨(W2.heap.size + 1), 0, none⟩ = some (.int .i64 5) ∧ w'.cell? ⟨(W2.heap.size + 1), 1, none⟩ = some (.int .i64 0) ∧ w'.cell? ⟨(W2.heap.size + 1), 2, none⟩ = some (.slice (some ⟨gb, 0, none⟩) 2 cb)) ∧ (w'.cell? ⟨gb, 0, none⟩ = some (.int .i64 p.kk) ∧ w'.cell? ⟨gb, 1, none⟩ = some (.int .i64 p.ks) ∧ w'.cell? ⟨gb, 2, none⟩ = some (.slice p.kA p.kids.length p.kc)) ∧ (w'.cell? ⟨gb, 3, none⟩ = some (.int .i64 q.kk) ∧ w'.cell? ⟨gb, 4, none⟩ = some (.int .i64 q.ks) ∧ w'.cell? ⟨gb, 5, none⟩ = some (.slice q.kA q.kids.length q.kc)) ∧ True)) (first | exact HS0.out | exact HS0.out.up (up_alloc _ _) | exact HS1.out | exact HS1.out.up (up_alloc _ _) | exact HS2.out | exact AllS.set3 _ _ _ HS2.out ⟨by omega, by omega, by omega, by omega, by omega, trivial⟩) (first
          | (have _t := t1; go_at_call 16; refine Calls.mono (wmake_any _ _ _ _ _) ?_; rintro e e1 ⟨rfl, hp1⟩; have hb1 : Below (W3.drew.alloc (mtObj2 a p)).heap.size (W3.drew.alloc (mtObj2 a p)) e1 := hp1; have HB1 := Lib.hid hb1; have HU1 := Lib.hid (up_call hb1); have HS1 := Lib.hid (HS0.out.up (up_call hb1)); clear hb1 hp1 t1)
          | (have _t := t2; go_at_call 16; refine Calls.mono (wmake_any _ _ _ _ _) ?_; rintro e e2 ⟨rfl, hp2⟩; have hb2 : Below (e1.alloc (mtObj2 (Mt.n2 5 W3.drew.heap.size 2 a p) q)).heap.size (e1.alloc (mtObj2 (Mt.n2 5 W3.drew.heap.size 2 a p) q)) e2 := hp2; have HB2 := Lib.hid hb2; have HU2 := Lib.hid (up_trans HU1.out (up_call hb2)); have HS2 := Lib.hid (HS1.out.up (up_call hb2)); obtain ⟨⟨y0, y1, y2⟩, z0, z1, z2, zl⟩ := res_at (HH5.out.made HU2.out).res; clear hb2 hp2 t2))
    all_goals
      go_wp2_with fail
      have hsz_0 : w.heap.size + 2 ≤ W3.drew.heap.size := by omega
      have s1 : Below W3.drew.heap.size W3.drew e1 := up_call HB1.out
      have u1 : Below W3.drew.heap.size W3.drew e1 := s1
      have hsz_1 : w.heap.size + 2 ≤ e1.heap.size := Nat.le_trans hsz_0 u1.size
      have s2 : Below e1.heap.size e1 e2 := up_call HB2.out
      have u2 : Below W3.drew.heap.size W3.drew e2 := up_trans u1 s2
      have hsz_2 : w.heap.size + 2 ≤ e2.heap.size := Nat.le_trans hsz_0 u2.size
      have m1 : (Mt.n2 5 W3.drew.heap.size 2 a p).has e1 := mk2_has (W := W3.drew) 5 HH_0.out HH_1.out (up_next HB1.out)
      have f1 : Fr (Mt.n2 5 g c a (Mt.n2 5 gb cb p q)) (w.heap.size + 2) w0.heap.size (Mt.n2 5 W3.drew.heap.size 2 a p) := Fr.n2 hsz_0 (Fr.kid (Fr.self _ _ _) (z := a) (by simp [Mt.kids])) (Fr.kid (Fr.kid (Fr.self _ _ _) (z := (Mt.n2 5 gb cb p q)) (by simp [Mt.kids])) (z := p) (by simp [Mt.kids]))
      have m2 : (Mt.n2 5 e1.heap.size 2 (Mt.n2 5 W3.drew.heap.size 2 a p) q).has e2 := mk2_has (W := e1) 5 m1 (HH_2.out.made u1) (up_next HB2.out)
      have f2 : Fr (Mt.n2 5 g c a (Mt.n2 5 gb cb p q)) (w.heap.size + 2) w0.heap.size (Mt.n2 5 e1.heap.size 2 (Mt.n2 5 W3.drew.heap.size 2 a p) q) := Fr.n2 hsz_1 f1 (Fr.kid (Fr.kid (Fr.self _ _ _) (z := (Mt.n2 5 gb cb p q)) (by simp [Mt.kids])) (z := q) (by simp [Mt.kids]))
      have ub : Below w.heap.size w e2 := HH5.out.below.trans (u2.mono (by omega))
      refine bodyPost_ret (v := .tuple #[(Mt.n2 5 e1.heap.size 2 (Mt.n2 5 W3.drew.heap.size 2 a p) q).val, .bool true]) (by simp [results, Tryz.results35, go_sem, y0, y1, y2]; rfl) rfl (by_fr HR.out HX.out HZ.out m2 (by simp only [Mt.w]) ub f2)
  · have hU : Below W2.heap.size W2 ((W2.alloc (Obj.cells #[.int .i64 5, .int .i64 0, .slice (some ⟨gb, 0, none⟩) 2 cb] 29)).alloc (Obj.cells #[.int .i64 a.kk, .int .i64 a.ks, .slice a.kA a.kids.length a.kc] 29)).drew := (((up_alloc W2 _).alloc (by simp) _).drew)
    have hbx0 : ((W2.alloc (Obj.cells #[.int .i64 5, .int .i64 0, .slice (some ⟨gb, 0, none⟩) 2 cb] 29)).alloc (Obj.cells #[.int .i64 a.kk, .int .i64 a.ks, .slice a.kA a.kids.length a.kc] 29)).drew.heap[W2.heap.size]? = some (mtObj1 (Mt.n2 5 gb cb p q)) := heap_old2 _ _ _
    have hbx1 : ((W2.alloc (Obj.cells #[.int .i64 5, .int .i64 0, .slice (some ⟨gb, 0, none⟩) 2 cb] 29)).alloc (Obj.cells #[.int .i64 a.kk, .int .i64 a.ks, .slice a.kA a.kids.length a.kc] 29)).drew.heap[(W2.heap.size + 1)]? = some (mtObj1 a) := heap_new2 _ _ _
    obtain ⟨W3, hW3⟩ : ∃ W3, ((W2.alloc (Obj.cells #[.int .i64 5, .int .i64 0, .slice (some ⟨gb, 0, none⟩) 2 cb] 29)).alloc (Obj.cells #[.int .i64 a.kk, .int .i64 a.ks, .slice a.kA a.kids.length a.kc] 29)).drew = W3 := ⟨_, rfl⟩
    rw [hW3] at hU hbx0 hbx1 ⊢
    clear hW3
    have hsz3 : W2.heap.size + 2 ≤ W3.heap.size := lt_blk hbx1
    have hh : ByHead w W3 (Mt.n2 5 g c a (Mt.n2 5 gb cb p q)) := HHD.out.made hU
    have hX3 : (Mt.n2 5 g c a (Mt.n2 5 gb cb p q)).has W3 := HX2.out.made hU
    have hcx_0 : W3.cell? pa = some (.bool true) := (hh.below.cell hcl_0).trans hc
    obtain ⟨xf0, xf1, xf2⟩ : (W3.cell? ⟨w.heap.size, 0, none⟩ = some (.int .i64 5) ∧ W3.cell? ⟨w.heap.size, 1, none⟩ = some (.int .i64 0) ∧ W3.cell? ⟨w.heap.size, 2, none⟩ = some (.slice (some ⟨g, 0, none⟩) 2 c)) := box_kid hh.box
    obtain ⟨bf00, bf01, bf02⟩ : (W3.cell? ⟨W2.heap.size, 0, none⟩ = some (.int .i64 5) ∧ W3.cell? ⟨W2.heap.size, 1, none⟩ = some (.int .i64 0) ∧ W3.cell? ⟨W2.heap.size, 2, none⟩ = some (.slice (some ⟨gb, 0, none⟩) 2 cb)) := box_kid hbx0
    obtain ⟨bf10, bf11, bf12⟩ : (W3.cell? ⟨(W2.heap.size + 1), 0, none⟩ = some (.int .i64 a.kk) ∧ W3.cell? ⟨(W2.heap.size + 1), 1, none⟩ = some (.int .i64 a.ks) ∧ W3.cell? ⟨(W2.heap.size + 1), 2, none⟩ = some (.slice a.kA a.kids.length a.kc)) := box_kid hbx1
    have HHE := Lib.hid hh
    have HX3 := Lib.hid hX3
    have HBX0 := Lib.hid hbx0
    have HBX1 := Lib.hid hbx1
    clear hh hX3 hU HS0 HHD HX2 hbx0 hbx1
    go_upto_region 7 with fail
    have hh := HHE.out
    have hX2 := HX3.out
    have hbx0 := HBX0.out
    have hbx1 := HBX1.out
    clear xf0 xf1 xf2 bf00 bf01 bf02 bf10 bf11 bf12
    have hX5 : (Mt.n2 5 g c a (Mt.n2 5 gb cb p q)).has W3.drew := hX2.made (Below.refl _ _).drew
    have hH5 : ByHead w W3.drew (Mt.n2 5 g c a (Mt.n2 5 gb cb p q)) := hh.made (Below.refl _ _).drew
    obtain ⟨_, ka0, kb0, ha0, hb0⟩ := id hX5
    obtain ⟨_, ka2, kb2, ha2, hb2⟩ := id hb0
    have HS0 := Lib.hid (show AllS [(w.heap.size, 0, (Mt.n2 5 g c a (Mt.n2 5 gb cb p q))), (W2.heap.size, 0, (Mt.n2 5 gb cb p q)), ((W2.heap.size + 1), 0, a), (gb, 0, p), (gb, 3, q)] W3.drew from ⟨box_kid hH5.box, (box_kid hbx0).draw, (box_kid hbx1).draw, kid_at ka2, kid_at kb2, trivial⟩)
    have HH_0 := Lib.hid ha0
    have HH_1 := Lib.hid ha2
    have HH_2 := Lib.hid hb2
    have HH5 := Lib.hid hH5
    clear hh hX2 hX5 hH5 ha0 ha2 hb0 hb2 ka0 ka2 kb0 kb2 hbx0 hbx1
    have hsb : W3.heap.size ≤ W3.drew.heap.size := Nat.le_refl _
    have t1 : True := trivial
    have t2 : True := trivial
    go_region_held3 (fun w' => ((w'.cell? ⟨w.heap.size, 0, none⟩ = some (.int .i64 5) ∧ w'.cell? ⟨w.heap.size, 1, none⟩ = some (.int .i64 0) ∧ w'.cell? ⟨w.heap.size, 2, none⟩ = some (.slice (some ⟨g, 0, none⟩) 2 c)) ∧ (w'.cell? ⟨W2.heap.size, 0, none⟩ = some (.int .i64 5) ∧ w'.cell? ⟨W2.heap.size, 1, none⟩ = some (.int .i64 0) ∧ w'.cell? ⟨W2.heap.size, 2, none⟩ = some (.slice (some ⟨gb, 0, none⟩) 2 cb)) ∧ (w'.cell? ⟨(W2.heap.size + 1), 0, none⟩ = some (.int .i64 a.kk) ∧ w'.cell? ⟨(W2.heap.size + 1), 1, none⟩ = some (.int .i64 a.ks) ∧ w'.cell? ⟨(W2.heap.size + 1), 2, none⟩ = some (.slice a.kA a.kids.length a.kc)) ∧ (w'.cell? ⟨gb, 0, none⟩ = some (.int .i64 p.kk) ∧ w'.cell? ⟨gb, 1, none⟩ = some (.int .i64 p.ks) ∧ w'.cell? ⟨gb, 2, none⟩ = some (.slice p.kA p.kids.length p.kc)) ∧ (w'.cell? ⟨gb, 3, none⟩ = some (.int .i64 q.kk) ∧ w'.cell? ⟨gb, 4, none⟩ = some (.int .i64 q.ks) ∧ w'.cell? ⟨gb, 5, none⟩ = some (.slice q.kA q.kids.length q.kc)) ∧ True)) (first | exact HS0.out | exact HS0.out.up (up_alloc _ _) | exact HS1.out | exact HS1.out.up (up_alloc _ _) | exact HS2.out | exact AllS.set3 _ _ _ HS2.out ⟨by omega, by omega, by omega, by omega, by omega, trivial⟩) (first
          | (have _t := t1; go_at_call 16; refine Calls.mono (wmake_any _ _ _ _ _) ?_; rintro e e1 ⟨rfl, hp1⟩; have hb1 : Below (W3.drew.alloc (mtObj2 a p)).heap.size (W3.drew.alloc (mtObj2 a p)) e1 := hp1; have HB1 := Lib.hid hb1; have HU1 := Lib.hid (up_call hb1); have HS1 := Lib.hid (HS0.out.up (up_call hb1)); clear hb1 hp1 t1)
          | (have _t := t2; go_at_call 16; refine Calls.mono (wmake_any _ _ _ _ _) ?_; rintro e e2 ⟨rfl, hp2⟩; have hb2 : Below (e1.alloc (mtObj2 (Mt.n2 5 W3.drew.heap.size 2 a p) q)).heap.size (e1.alloc (mtObj2 (Mt.n2 5 W3.drew.heap.size 2 a p) q)) e2 := hp2; have HB2 := Lib.hid hb2; have HU2 := Lib.hid (up_trans HU1.out (up_call hb2)); have HS2 := Lib.hid (HS1.out.up (up_call hb2)); obtain ⟨⟨y0, y1, y2⟩, z0, z1, z2, zl⟩ := res_at (HH5.out.made HU2.out).res; clear hb2 hp2 t2))
    all_goals
      go_wp2_with fail
      have hsz_0 : w.heap.size + 2 ≤ W3.drew.heap.size := by omega
      have s1 : Below W3.drew.heap.size W3.drew e1 := up_call HB1.out
      have u1 : Below W3.drew.heap.size W3.drew e1 := s1
      have hsz_1 : w.heap.size + 2 ≤ e1.heap.size := Nat.le_trans hsz_0 u1.size
      have s2 : Below e1.heap.size e1 e2 := up_call HB2.out
      have u2 : Below W3.drew.heap.size W3.drew e2 := up_trans u1 s2
      have hsz_2 : w.heap.size + 2 ≤ e2.heap.size := Nat.le_trans hsz_0 u2.size
      have m1 : (Mt.n2 5 W3.drew.heap.size 2 a p).has e1 := mk2_has (W := W3.drew) 5 HH_0.out HH_1.out (up_next HB1.out)
      have f1 : Fr (Mt.n2 5 g c a (Mt.n2 5 gb cb p q)) (w.heap.size + 2) w0.heap.size (Mt.n2 5 W3.drew.heap.size 2 a p) := Fr.n2 hsz_0 (Fr.kid (Fr.self _ _ _) (z := a) (by simp [Mt.kids])) (Fr.kid (Fr.kid (Fr.self _ _ _) (z := (Mt.n2 5 gb cb p q)) (by simp [Mt.kids])) (z := p) (by simp [Mt.kids]))
      have m2 : (Mt.n2 5 e1.heap.size 2 (Mt.n2 5 W3.drew.heap.size 2 a p) q).has e2 := mk2_has (W := e1) 5 m1 (HH_2.out.made u1) (up_next HB2.out)
      have f2 : Fr (Mt.n2 5 g c a (Mt.n2 5 gb cb p q)) (w.heap.size + 2) w0.heap.size (Mt.n2 5 e1.heap.size 2 (Mt.n2 5 W3.drew.heap.size 2 a p) q) := Fr.n2 hsz_1 f1 (Fr.kid (Fr.kid (Fr.self _ _ _) (z := (Mt.n2 5 gb cb p q)) (by simp [Mt.kids])) (z := q) (by simp [Mt.kids]))
      have ub : Below w.heap.size w e2 := HH5.out.below.trans (u2.mono (by omega))
      refine bodyPost_ret (v := .tuple #[(Mt.n2 5 e1.heap.size 2 (Mt.n2 5 W3.drew.heap.size 2 a p) q).val, .bool true]) (by simp [results, Tryz.results35, go_sem, y0, y1, y2]; rfl) rfl (by_fr HR.out HX.out HZ.out m2 (by simp only [Mt.w]) ub f2)
end Go.Proofs.YtccknopchddicaaGreatDoor
/- contract: the rule of FormTurned, the other way round. -/
namespace Go.Proofs.YtccknopchddicaaGreatDoor
open Go.RowKit Stile
set_option maxRecDepth 100000 in
set_option maxHeartbeats 3200000 in
theorem tu_three4 (pa : Addr) (w0 w : World) (g : Nat) (c : Nat) (a : Mt) (b : Mt) (hx : (Mt.n2 4 g c a b).has w) (h0 : w0.heap.size ≤ w.heap.size) (hc : w.cell? pa = some (.bool true)) (hna : asTwo 4 a.w = none) (hnk : (a.kk == 4) = false) (hnb : asTwo 4 b.w = none) (hnl : (b.kk == 4) = false) :
    Calls Tryz.prog 35 #[.agg #[.int .i64 4, .int .i64 0, .slice (some ⟨g, 0, none⟩) 2 c], .pointer (some pa)] w (ByOut (tuRule true) (Mt.n2 4 g c a b) w0 w) := by
  have hr : (tuRule true) (Mt.n2 4 g c a b).w = some (W.n2 4 b.w a.w) := by simp only [Mt.w]; show some (tuTwo true 4 a.w b.w) = _; unfold tuTwo; rw [if_pos rfl, hna, hnb]
  have hcl_0 := lt_of_cell hc
  have HX := Lib.hid hx
  have HR := Lib.hid hr
  have HZ := Lib.hid h0
  clear hx hr h0
  go_enter Tryz.func35, Tryz.ntmps35
  go_upto_region 3 with fail
  have hh : ByHead w ((w.alloc (Obj.cells #[.int .i64 4, .int .i64 0, .slice (some ⟨g, 0, none⟩) 2 c] 29)).alloc (Obj.cells #[.int .i64 0, .int .i64 0, .slice none 0 0] 29)) (Mt.n2 4 g c a b) := by_head w (Mt.n2 4 g c a b)
  obtain ⟨W2, hW2⟩ : ∃ W2, (w.alloc (Obj.cells #[.int .i64 4, .int .i64 0, .slice (some ⟨g, 0, none⟩) 2 c] 29)).alloc (Obj.cells #[.int .i64 0, .int .i64 0, .slice none 0 0] 29) = W2 := ⟨_, rfl⟩
  rw [hW2] at hh ⊢
  clear hW2
  have hs2 : w.heap.size + 2 ≤ W2.heap.size := lt_blk hh.res
  have hX2 : (Mt.n2 4 g c a b).has W2 := HX.out.below hh.below (fun g hg => HX.out.lt g hg)
  have hcw_0 : W2.cell? pa = some (.bool true) := (hh.below.cell hcl_0).trans hc
  have hgl_g : g < w.heap.size := HX.out.lt g (by simp [Mt.blks])
  obtain ⟨_, kaq0, kbq0, haq0, hbq0⟩ := id hX2
  have HS0 := Lib.hid (show AllS [(w.heap.size, 0, (Mt.n2 4 g c a b)), (g, 0, a), (g, 3, b)] W2 from ⟨box_kid hh.box, kid_at kaq0, kid_at kbq0, trivial⟩)
  have HHD := Lib.hid hh
  have HX2 := Lib.hid hX2
  clear hh hX2 haq0 hbq0 kaq0 kbq0
  go_region_held3 (fun w' => ((w'.cell? ⟨w.heap.size, 0, none⟩ = some (.int .i64 4) ∧ w'.cell? ⟨w.heap.size, 1, none⟩ = some (.int .i64 0) ∧ w'.cell? ⟨w.heap.size, 2, none⟩ = some (.slice (some ⟨g, 0, none⟩) 2 c)) ∧ (w'.cell? ⟨g, 0, none⟩ = some (.int .i64 a.kk) ∧ w'.cell? ⟨g, 1, none⟩ = some (.int .i64 a.ks) ∧ w'.cell? ⟨g, 2, none⟩ = some (.slice a.kA a.kids.length a.kc)) ∧ (w'.cell? ⟨g, 3, none⟩ = some (.int .i64 b.kk) ∧ w'.cell? ⟨g, 4, none⟩ = some (.int .i64 b.ks) ∧ w'.cell? ⟨g, 5, none⟩ = some (.slice b.kA b.kids.length b.kc)) ∧ True)) (first | exact HS0.out.draw | exact HS0.out.up ((up_alloc _ _).drew) | exact (HS0.out.up (up_alloc _ _)).up ((up_alloc _ _).drew) | exact HS0.out | exact HS0.out.up (up_alloc _ _) | exact (HS0.out.up (up_alloc _ _)).up (up_alloc _ _)) (fail)
  · have hU : Below W2.heap.size W2 ((W2.alloc (Obj.cells #[.int .i64 a.kk, .int .i64 a.ks, .slice a.kA a.kids.length a.kc] 29)).alloc (Obj.cells #[.int .i64 b.kk, .int .i64 b.ks, .slice b.kA b.kids.length b.kc] 29)).drew := (((up_alloc W2 _).alloc (by simp) _).drew)
    have hbx0 : ((W2.alloc (Obj.cells #[.int .i64 a.kk, .int .i64 a.ks, .slice a.kA a.kids.length a.kc] 29)).alloc (Obj.cells #[.int .i64 b.kk, .int .i64 b.ks, .slice b.kA b.kids.length b.kc] 29)).drew.heap[W2.heap.size]? = some (mtObj1 a) := heap_old2 _ _ _
    have hbx1 : ((W2.alloc (Obj.cells #[.int .i64 a.kk, .int .i64 a.ks, .slice a.kA a.kids.length a.kc] 29)).alloc (Obj.cells #[.int .i64 b.kk, .int .i64 b.ks, .slice b.kA b.kids.length b.kc] 29)).drew.heap[(W2.heap.size + 1)]? = some (mtObj1 b) := heap_new2 _ _ _
    obtain ⟨W3, hW3⟩ : ∃ W3, ((W2.alloc (Obj.cells #[.int .i64 a.kk, .int .i64 a.ks, .slice a.kA a.kids.length a.kc] 29)).alloc (Obj.cells #[.int .i64 b.kk, .int .i64 b.ks, .slice b.kA b.kids.length b.kc] 29)).drew = W3 := ⟨_, rfl⟩
    rw [hW3] at hU hbx0 hbx1 ⊢
    clear hW3
    have hsz3 : W2.heap.size + 2 ≤ W3.heap.size := lt_blk hbx1
    have hh : ByHead w W3 (Mt.n2 4 g c a b) := HHD.out.made hU
    have hX3 : (Mt.n2 4 g c a b).has W3 := HX2.out.made hU
    have hcx_0 : W3.cell? pa = some (.bool true) := (hh.below.cell hcl_0).trans hc
    obtain ⟨xf0, xf1, xf2⟩ : (W3.cell? ⟨w.heap.size, 0, none⟩ = some (.int .i64 4) ∧ W3.cell? ⟨w.heap.size, 1, none⟩ = some (.int .i64 0) ∧ W3.cell? ⟨w.heap.size, 2, none⟩ = some (.slice (some ⟨g, 0, none⟩) 2 c)) := box_kid hh.box
    obtain ⟨bf00, bf01, bf02⟩ : (W3.cell? ⟨W2.heap.size, 0, none⟩ = some (.int .i64 a.kk) ∧ W3.cell? ⟨W2.heap.size, 1, none⟩ = some (.int .i64 a.ks) ∧ W3.cell? ⟨W2.heap.size, 2, none⟩ = some (.slice a.kA a.kids.length a.kc)) := box_kid hbx0
    obtain ⟨bf10, bf11, bf12⟩ : (W3.cell? ⟨(W2.heap.size + 1), 0, none⟩ = some (.int .i64 b.kk) ∧ W3.cell? ⟨(W2.heap.size + 1), 1, none⟩ = some (.int .i64 b.ks) ∧ W3.cell? ⟨(W2.heap.size + 1), 2, none⟩ = some (.slice b.kA b.kids.length b.kc)) := box_kid hbx1
    have HHE := Lib.hid hh
    have HX3 := Lib.hid hX3
    have HBX0 := Lib.hid hbx0
    have HBX1 := Lib.hid hbx1
    clear hh hX3 hU HS0 HHD HX2 hbx0 hbx1
    go_upto_region 8 with fail
    have hh := HHE.out
    have hX2 := HX3.out
    have hbx0 := HBX0.out
    have hbx1 := HBX1.out
    clear xf0 xf1 xf2 bf00 bf01 bf02 bf10 bf11 bf12
    have hX5 : (Mt.n2 4 g c a b).has W3 := hX2.made (Below.refl _ _)
    have hH5 : ByHead w W3 (Mt.n2 4 g c a b) := hh.made (Below.refl _ _)
    obtain ⟨_, ka0, kb0, ha0, hb0⟩ := id hX5
    have HS0 := Lib.hid (show AllS [(w.heap.size, 0, (Mt.n2 4 g c a b)), (W2.heap.size, 0, a), ((W2.heap.size + 1), 0, b)] W3 from ⟨box_kid hH5.box, (box_kid hbx0), (box_kid hbx1), trivial⟩)
    have HH_0 := Lib.hid hb0
    have HH_1 := Lib.hid ha0
    have HH5 := Lib.hid hH5
    clear hh hX2 hX5 hH5 ha0 hb0 ka0 kb0 hbx0 hbx1
    have hsb : W3.heap.size ≤ W3.heap.size := Nat.le_refl _
    have t1 : True := trivial
    obtain ⟨⟨rf00, rf01, rf02⟩, ⟨rf10, rf11, rf12⟩, ⟨rf20, rf21, rf22⟩, _⟩ : ((W3.cell? ⟨w.heap.size, 0, none⟩ = some (.int .i64 4) ∧ W3.cell? ⟨w.heap.size, 1, none⟩ = some (.int .i64 0) ∧ W3.cell? ⟨w.heap.size, 2, none⟩ = some (.slice (some ⟨g, 0, none⟩) 2 c)) ∧ (W3.cell? ⟨W2.heap.size, 0, none⟩ = some (.int .i64 a.kk) ∧ W3.cell? ⟨W2.heap.size, 1, none⟩ = some (.int .i64 a.ks) ∧ W3.cell? ⟨W2.heap.size, 2, none⟩ = some (.slice a.kA a.kids.length a.kc)) ∧ (W3.cell? ⟨(W2.heap.size + 1), 0, none⟩ = some (.int .i64 b.kk) ∧ W3.cell? ⟨(W2.heap.size + 1), 1, none⟩ = some (.int .i64 b.ks) ∧ W3.cell? ⟨(W2.heap.size + 1), 2, none⟩ = some (.slice b.kA b.kids.length b.kc)) ∧ True) := HS0.out
    go_wp2_with (first
          | (have _t := t1; go_at_call 16; refine Calls.mono (wmake_any _ _ _ _ _) ?_; rintro e e1 ⟨rfl, hp1⟩; have hb1 : Below (W3.alloc (mtObj2 b a)).heap.size (W3.alloc (mtObj2 b a)) e1 := hp1; have HB1 := Lib.hid hb1; have HU1 := Lib.hid (up_call hb1); have HS1 := Lib.hid (HS0.out.up (up_call hb1)); obtain ⟨⟨y0, y1, y2⟩, z0, z1, z2, zl⟩ := res_at (HH5.out.made HU1.out).res; clear hb1 hp1 t1))
    all_goals
      have hsz_0 : w.heap.size + 2 ≤ W3.heap.size := by omega
      have s1 : Below W3.heap.size W3 e1 := up_call HB1.out
      have u1 : Below W3.heap.size W3 e1 := s1
      have hsz_1 : w.heap.size + 2 ≤ e1.heap.size := Nat.le_trans hsz_0 u1.size
      have m1 : (Mt.n2 4 W3.heap.size 2 b a).has e1 := mk2_has (W := W3) 4 HH_0.out HH_1.out (up_next HB1.out)
      have f1 : Fr (Mt.n2 4 g c a b) (w.heap.size + 2) w0.heap.size (Mt.n2 4 W3.heap.size 2 b a) := Fr.n2 hsz_0 (Fr.kid (Fr.self _ _ _) (z := b) (by simp [Mt.kids])) (Fr.kid (Fr.self _ _ _) (z := a) (by simp [Mt.kids]))
      have ub : Below w.heap.size w e1 := HH5.out.below.trans (u1.mono (by omega))
      refine bodyPost_ret (v := .tuple #[(Mt.n2 4 W3.heap.size 2 b a).val, .bool true]) (by simp [results, Tryz.results35, go_sem, y0, y1, y2]; rfl) rfl (by_fr HR.out HX.out HZ.out m1 (by simp only [Mt.w]) ub f1)
  · have hU : Below W2.heap.size W2 ((W2.alloc (Obj.cells #[.int .i64 b.kk, .int .i64 b.ks, .slice b.kA b.kids.length b.kc] 29)).alloc (Obj.cells #[.int .i64 a.kk, .int .i64 a.ks, .slice a.kA a.kids.length a.kc] 29)).drew := (((up_alloc W2 _).alloc (by simp) _).drew)
    have hbx0 : ((W2.alloc (Obj.cells #[.int .i64 b.kk, .int .i64 b.ks, .slice b.kA b.kids.length b.kc] 29)).alloc (Obj.cells #[.int .i64 a.kk, .int .i64 a.ks, .slice a.kA a.kids.length a.kc] 29)).drew.heap[W2.heap.size]? = some (mtObj1 b) := heap_old2 _ _ _
    have hbx1 : ((W2.alloc (Obj.cells #[.int .i64 b.kk, .int .i64 b.ks, .slice b.kA b.kids.length b.kc] 29)).alloc (Obj.cells #[.int .i64 a.kk, .int .i64 a.ks, .slice a.kA a.kids.length a.kc] 29)).drew.heap[(W2.heap.size + 1)]? = some (mtObj1 a) := heap_new2 _ _ _
    obtain ⟨W3, hW3⟩ : ∃ W3, ((W2.alloc (Obj.cells #[.int .i64 b.kk, .int .i64 b.ks, .slice b.kA b.kids.length b.kc] 29)).alloc (Obj.cells #[.int .i64 a.kk, .int .i64 a.ks, .slice a.kA a.kids.length a.kc] 29)).drew = W3 := ⟨_, rfl⟩
    rw [hW3] at hU hbx0 hbx1 ⊢
    clear hW3
    have hsz3 : W2.heap.size + 2 ≤ W3.heap.size := lt_blk hbx1
    have hh : ByHead w W3 (Mt.n2 4 g c a b) := HHD.out.made hU
    have hX3 : (Mt.n2 4 g c a b).has W3 := HX2.out.made hU
    have hcx_0 : W3.cell? pa = some (.bool true) := (hh.below.cell hcl_0).trans hc
    obtain ⟨xf0, xf1, xf2⟩ : (W3.cell? ⟨w.heap.size, 0, none⟩ = some (.int .i64 4) ∧ W3.cell? ⟨w.heap.size, 1, none⟩ = some (.int .i64 0) ∧ W3.cell? ⟨w.heap.size, 2, none⟩ = some (.slice (some ⟨g, 0, none⟩) 2 c)) := box_kid hh.box
    obtain ⟨bf00, bf01, bf02⟩ : (W3.cell? ⟨W2.heap.size, 0, none⟩ = some (.int .i64 b.kk) ∧ W3.cell? ⟨W2.heap.size, 1, none⟩ = some (.int .i64 b.ks) ∧ W3.cell? ⟨W2.heap.size, 2, none⟩ = some (.slice b.kA b.kids.length b.kc)) := box_kid hbx0
    obtain ⟨bf10, bf11, bf12⟩ : (W3.cell? ⟨(W2.heap.size + 1), 0, none⟩ = some (.int .i64 a.kk) ∧ W3.cell? ⟨(W2.heap.size + 1), 1, none⟩ = some (.int .i64 a.ks) ∧ W3.cell? ⟨(W2.heap.size + 1), 2, none⟩ = some (.slice a.kA a.kids.length a.kc)) := box_kid hbx1
    have HHE := Lib.hid hh
    have HX3 := Lib.hid hX3
    have HBX0 := Lib.hid hbx0
    have HBX1 := Lib.hid hbx1
    clear hh hX3 hU HS0 HHD HX2 hbx0 hbx1
    go_upto_region 8 with fail
    have hh := HHE.out
    have hX2 := HX3.out
    have hbx0 := HBX0.out
    have hbx1 := HBX1.out
    clear xf0 xf1 xf2 bf00 bf01 bf02 bf10 bf11 bf12
    have hX5 : (Mt.n2 4 g c a b).has W3 := hX2.made (Below.refl _ _)
    have hH5 : ByHead w W3 (Mt.n2 4 g c a b) := hh.made (Below.refl _ _)
    obtain ⟨_, ka0, kb0, ha0, hb0⟩ := id hX5
    have HS0 := Lib.hid (show AllS [(w.heap.size, 0, (Mt.n2 4 g c a b)), (W2.heap.size, 0, b), ((W2.heap.size + 1), 0, a)] W3 from ⟨box_kid hH5.box, (box_kid hbx0), (box_kid hbx1), trivial⟩)
    have HH_0 := Lib.hid hb0
    have HH_1 := Lib.hid ha0
    have HH5 := Lib.hid hH5
    clear hh hX2 hX5 hH5 ha0 hb0 ka0 kb0 hbx0 hbx1
    have hsb : W3.heap.size ≤ W3.heap.size := Nat.le_refl _
    have t1 : True := trivial
    obtain ⟨⟨rf00, rf01, rf02⟩, ⟨rf10, rf11, rf12⟩, ⟨rf20, rf21, rf22⟩, _⟩ : ((W3.cell? ⟨w.heap.size, 0, none⟩ = some (.int .i64 4) ∧ W3.cell? ⟨w.heap.size, 1, none⟩ = some (.int .i64 0) ∧ W3.cell? ⟨w.heap.size, 2, none⟩ = some (.slice (some ⟨g, 0, none⟩) 2 c)) ∧ (W3.cell? ⟨W2.heap.size, 0, none⟩ = some (.int .i64 b.kk) ∧ W3.cell? ⟨W2.heap.size, 1, none⟩ = some (.int .i64 b.ks) ∧ W3.cell? ⟨W2.heap.size, 2, none⟩ = some (.slice b.kA b.kids.length b.kc)) ∧ (W3.cell? ⟨(W2.heap.size + 1), 0, none⟩ = some (.int .i64 a.kk) ∧ W3.cell? ⟨(W2.heap.size + 1), 1, none⟩ = some (.int .i64 a.ks) ∧ W3.cell? ⟨(W2.heap.size + 1), 2, none⟩ = some (.slice a.kA a.kids.length a.kc)) ∧ True) := HS0.out
    go_wp2_with (first
          | (have _t := t1; go_at_call 16; refine Calls.mono (wmake_any _ _ _ _ _) ?_; rintro e e1 ⟨rfl, hp1⟩; have hb1 : Below (W3.alloc (mtObj2 b a)).heap.size (W3.alloc (mtObj2 b a)) e1 := hp1; have HB1 := Lib.hid hb1; have HU1 := Lib.hid (up_call hb1); have HS1 := Lib.hid (HS0.out.up (up_call hb1)); obtain ⟨⟨y0, y1, y2⟩, z0, z1, z2, zl⟩ := res_at (HH5.out.made HU1.out).res; clear hb1 hp1 t1))
    all_goals
      have hsz_0 : w.heap.size + 2 ≤ W3.heap.size := by omega
      have s1 : Below W3.heap.size W3 e1 := up_call HB1.out
      have u1 : Below W3.heap.size W3 e1 := s1
      have hsz_1 : w.heap.size + 2 ≤ e1.heap.size := Nat.le_trans hsz_0 u1.size
      have m1 : (Mt.n2 4 W3.heap.size 2 b a).has e1 := mk2_has (W := W3) 4 HH_0.out HH_1.out (up_next HB1.out)
      have f1 : Fr (Mt.n2 4 g c a b) (w.heap.size + 2) w0.heap.size (Mt.n2 4 W3.heap.size 2 b a) := Fr.n2 hsz_0 (Fr.kid (Fr.self _ _ _) (z := b) (by simp [Mt.kids])) (Fr.kid (Fr.self _ _ _) (z := a) (by simp [Mt.kids]))
      have ub : Below w.heap.size w e1 := HH5.out.below.trans (u1.mono (by omega))
      refine bodyPost_ret (v := .tuple #[(Mt.n2 4 W3.heap.size 2 b a).val, .bool true]) (by simp [results, Tryz.results35, go_sem, y0, y1, y2]; rfl) rfl (by_fr HR.out HX.out HZ.out m1 (by simp only [Mt.w]) ub f1)
set_option maxRecDepth 100000 in
set_option maxHeartbeats 3200000 in
theorem tu_four4 (pa : Addr) (w0 w : World) (g : Nat) (c : Nat) (a : Mt) (b : Mt) (hx : (Mt.n2 4 g c a b).has w) (h0 : w0.heap.size ≤ w.heap.size) (hc : w.cell? pa = some (.bool false)) :
    Calls Tryz.prog 35 #[.agg #[.int .i64 4, .int .i64 0, .slice (some ⟨g, 0, none⟩) 2 c], .pointer (some pa)] w (ByOut (tuRule false) (Mt.n2 4 g c a b) w0 w) := by
  have hr : (tuRule false) (Mt.n2 4 g c a b).w = some (W.n2 4 b.w a.w) := rfl
  have hcl_0 := lt_of_cell hc
  have HX := Lib.hid hx
  have HR := Lib.hid hr
  have HZ := Lib.hid h0
  clear hx hr h0
  go_enter Tryz.func35, Tryz.ntmps35
  go_upto_region 3 with fail
  have hh : ByHead w ((w.alloc (Obj.cells #[.int .i64 4, .int .i64 0, .slice (some ⟨g, 0, none⟩) 2 c] 29)).alloc (Obj.cells #[.int .i64 0, .int .i64 0, .slice none 0 0] 29)) (Mt.n2 4 g c a b) := by_head w (Mt.n2 4 g c a b)
  obtain ⟨W2, hW2⟩ : ∃ W2, (w.alloc (Obj.cells #[.int .i64 4, .int .i64 0, .slice (some ⟨g, 0, none⟩) 2 c] 29)).alloc (Obj.cells #[.int .i64 0, .int .i64 0, .slice none 0 0] 29) = W2 := ⟨_, rfl⟩
  rw [hW2] at hh ⊢
  clear hW2
  have hs2 : w.heap.size + 2 ≤ W2.heap.size := lt_blk hh.res
  have hX2 : (Mt.n2 4 g c a b).has W2 := HX.out.below hh.below (fun g hg => HX.out.lt g hg)
  have hcw_0 : W2.cell? pa = some (.bool false) := (hh.below.cell hcl_0).trans hc
  have hgl_g : g < w.heap.size := HX.out.lt g (by simp [Mt.blks])
  obtain ⟨_, kaq0, kbq0, haq0, hbq0⟩ := id hX2
  have HS0 := Lib.hid (show AllS [(w.heap.size, 0, (Mt.n2 4 g c a b)), (g, 0, a), (g, 3, b)] W2 from ⟨box_kid hh.box, kid_at kaq0, kid_at kbq0, trivial⟩)
  have HHD := Lib.hid hh
  have HX2 := Lib.hid hX2
  clear hh hX2 haq0 hbq0 kaq0 kbq0
  go_region_held3 (fun w' => ((w'.cell? ⟨w.heap.size, 0, none⟩ = some (.int .i64 4) ∧ w'.cell? ⟨w.heap.size, 1, none⟩ = some (.int .i64 0) ∧ w'.cell? ⟨w.heap.size, 2, none⟩ = some (.slice (some ⟨g, 0, none⟩) 2 c)) ∧ (w'.cell? ⟨g, 0, none⟩ = some (.int .i64 a.kk) ∧ w'.cell? ⟨g, 1, none⟩ = some (.int .i64 a.ks) ∧ w'.cell? ⟨g, 2, none⟩ = some (.slice a.kA a.kids.length a.kc)) ∧ (w'.cell? ⟨g, 3, none⟩ = some (.int .i64 b.kk) ∧ w'.cell? ⟨g, 4, none⟩ = some (.int .i64 b.ks) ∧ w'.cell? ⟨g, 5, none⟩ = some (.slice b.kA b.kids.length b.kc)) ∧ True)) (first | exact HS0.out.draw | exact HS0.out.up ((up_alloc _ _).drew) | exact (HS0.out.up (up_alloc _ _)).up ((up_alloc _ _).drew) | exact HS0.out | exact HS0.out.up (up_alloc _ _) | exact (HS0.out.up (up_alloc _ _)).up (up_alloc _ _)) (fail)
  · have hU : Below W2.heap.size W2 ((W2.alloc (Obj.cells #[.int .i64 a.kk, .int .i64 a.ks, .slice a.kA a.kids.length a.kc] 29)).alloc (Obj.cells #[.int .i64 b.kk, .int .i64 b.ks, .slice b.kA b.kids.length b.kc] 29)).drew := (((up_alloc W2 _).alloc (by simp) _).drew)
    have hbx0 : ((W2.alloc (Obj.cells #[.int .i64 a.kk, .int .i64 a.ks, .slice a.kA a.kids.length a.kc] 29)).alloc (Obj.cells #[.int .i64 b.kk, .int .i64 b.ks, .slice b.kA b.kids.length b.kc] 29)).drew.heap[W2.heap.size]? = some (mtObj1 a) := heap_old2 _ _ _
    have hbx1 : ((W2.alloc (Obj.cells #[.int .i64 a.kk, .int .i64 a.ks, .slice a.kA a.kids.length a.kc] 29)).alloc (Obj.cells #[.int .i64 b.kk, .int .i64 b.ks, .slice b.kA b.kids.length b.kc] 29)).drew.heap[(W2.heap.size + 1)]? = some (mtObj1 b) := heap_new2 _ _ _
    obtain ⟨W3, hW3⟩ : ∃ W3, ((W2.alloc (Obj.cells #[.int .i64 a.kk, .int .i64 a.ks, .slice a.kA a.kids.length a.kc] 29)).alloc (Obj.cells #[.int .i64 b.kk, .int .i64 b.ks, .slice b.kA b.kids.length b.kc] 29)).drew = W3 := ⟨_, rfl⟩
    rw [hW3] at hU hbx0 hbx1 ⊢
    clear hW3
    have hsz3 : W2.heap.size + 2 ≤ W3.heap.size := lt_blk hbx1
    have hh : ByHead w W3 (Mt.n2 4 g c a b) := HHD.out.made hU
    have hX3 : (Mt.n2 4 g c a b).has W3 := HX2.out.made hU
    have hcx_0 : W3.cell? pa = some (.bool false) := (hh.below.cell hcl_0).trans hc
    obtain ⟨xf0, xf1, xf2⟩ : (W3.cell? ⟨w.heap.size, 0, none⟩ = some (.int .i64 4) ∧ W3.cell? ⟨w.heap.size, 1, none⟩ = some (.int .i64 0) ∧ W3.cell? ⟨w.heap.size, 2, none⟩ = some (.slice (some ⟨g, 0, none⟩) 2 c)) := box_kid hh.box
    obtain ⟨bf00, bf01, bf02⟩ : (W3.cell? ⟨W2.heap.size, 0, none⟩ = some (.int .i64 a.kk) ∧ W3.cell? ⟨W2.heap.size, 1, none⟩ = some (.int .i64 a.ks) ∧ W3.cell? ⟨W2.heap.size, 2, none⟩ = some (.slice a.kA a.kids.length a.kc)) := box_kid hbx0
    obtain ⟨bf10, bf11, bf12⟩ : (W3.cell? ⟨(W2.heap.size + 1), 0, none⟩ = some (.int .i64 b.kk) ∧ W3.cell? ⟨(W2.heap.size + 1), 1, none⟩ = some (.int .i64 b.ks) ∧ W3.cell? ⟨(W2.heap.size + 1), 2, none⟩ = some (.slice b.kA b.kids.length b.kc)) := box_kid hbx1
    have HHE := Lib.hid hh
    have HX3 := Lib.hid hX3
    have HBX0 := Lib.hid hbx0
    have HBX1 := Lib.hid hbx1
    clear hh hX3 hU HS0 HHD HX2 hbx0 hbx1
    go_upto_region 8 with fail
    have hh := HHE.out
    have hX2 := HX3.out
    have hbx0 := HBX0.out
    have hbx1 := HBX1.out
    clear xf0 xf1 xf2 bf00 bf01 bf02 bf10 bf11 bf12
    have hX5 : (Mt.n2 4 g c a b).has W3 := hX2.made (Below.refl _ _)
    have hH5 : ByHead w W3 (Mt.n2 4 g c a b) := hh.made (Below.refl _ _)
    obtain ⟨_, ka0, kb0, ha0, hb0⟩ := id hX5
    have HS0 := Lib.hid (show AllS [(w.heap.size, 0, (Mt.n2 4 g c a b)), (W2.heap.size, 0, a), ((W2.heap.size + 1), 0, b)] W3 from ⟨box_kid hH5.box, (box_kid hbx0), (box_kid hbx1), trivial⟩)
    have HH_0 := Lib.hid hb0
    have HH_1 := Lib.hid ha0
    have HH5 := Lib.hid hH5
    clear hh hX2 hX5 hH5 ha0 hb0 ka0 kb0 hbx0 hbx1
    have hsb : W3.heap.size ≤ W3.heap.size := Nat.le_refl _
    have t1 : True := trivial
    obtain ⟨⟨rf00, rf01, rf02⟩, ⟨rf10, rf11, rf12⟩, ⟨rf20, rf21, rf22⟩, _⟩ : ((W3.cell? ⟨w.heap.size, 0, none⟩ = some (.int .i64 4) ∧ W3.cell? ⟨w.heap.size, 1, none⟩ = some (.int .i64 0) ∧ W3.cell? ⟨w.heap.size, 2, none⟩ = some (.slice (some ⟨g, 0, none⟩) 2 c)) ∧ (W3.cell? ⟨W2.heap.size, 0, none⟩ = some (.int .i64 a.kk) ∧ W3.cell? ⟨W2.heap.size, 1, none⟩ = some (.int .i64 a.ks) ∧ W3.cell? ⟨W2.heap.size, 2, none⟩ = some (.slice a.kA a.kids.length a.kc)) ∧ (W3.cell? ⟨(W2.heap.size + 1), 0, none⟩ = some (.int .i64 b.kk) ∧ W3.cell? ⟨(W2.heap.size + 1), 1, none⟩ = some (.int .i64 b.ks) ∧ W3.cell? ⟨(W2.heap.size + 1), 2, none⟩ = some (.slice b.kA b.kids.length b.kc)) ∧ True) := HS0.out
    go_wp2_with (first
          | (have _t := t1; go_at_call 16; refine Calls.mono (wmake_any _ _ _ _ _) ?_; rintro e e1 ⟨rfl, hp1⟩; have hb1 : Below (W3.alloc (mtObj2 b a)).heap.size (W3.alloc (mtObj2 b a)) e1 := hp1; have HB1 := Lib.hid hb1; have HU1 := Lib.hid (up_call hb1); have HS1 := Lib.hid (HS0.out.up (up_call hb1)); obtain ⟨⟨y0, y1, y2⟩, z0, z1, z2, zl⟩ := res_at (HH5.out.made HU1.out).res; clear hb1 hp1 t1))
    all_goals
      have hsz_0 : w.heap.size + 2 ≤ W3.heap.size := by omega
      have s1 : Below W3.heap.size W3 e1 := up_call HB1.out
      have u1 : Below W3.heap.size W3 e1 := s1
      have hsz_1 : w.heap.size + 2 ≤ e1.heap.size := Nat.le_trans hsz_0 u1.size
      have m1 : (Mt.n2 4 W3.heap.size 2 b a).has e1 := mk2_has (W := W3) 4 HH_0.out HH_1.out (up_next HB1.out)
      have f1 : Fr (Mt.n2 4 g c a b) (w.heap.size + 2) w0.heap.size (Mt.n2 4 W3.heap.size 2 b a) := Fr.n2 hsz_0 (Fr.kid (Fr.self _ _ _) (z := b) (by simp [Mt.kids])) (Fr.kid (Fr.self _ _ _) (z := a) (by simp [Mt.kids]))
      have ub : Below w.heap.size w e1 := HH5.out.below.trans (u1.mono (by omega))
      refine bodyPost_ret (v := .tuple #[(Mt.n2 4 W3.heap.size 2 b a).val, .bool true]) (by simp [results, Tryz.results35, go_sem, y0, y1, y2]; rfl) rfl (by_fr HR.out HX.out HZ.out m1 (by simp only [Mt.w]) ub f1)
  · have hU : Below W2.heap.size W2 ((W2.alloc (Obj.cells #[.int .i64 b.kk, .int .i64 b.ks, .slice b.kA b.kids.length b.kc] 29)).alloc (Obj.cells #[.int .i64 a.kk, .int .i64 a.ks, .slice a.kA a.kids.length a.kc] 29)).drew := (((up_alloc W2 _).alloc (by simp) _).drew)
    have hbx0 : ((W2.alloc (Obj.cells #[.int .i64 b.kk, .int .i64 b.ks, .slice b.kA b.kids.length b.kc] 29)).alloc (Obj.cells #[.int .i64 a.kk, .int .i64 a.ks, .slice a.kA a.kids.length a.kc] 29)).drew.heap[W2.heap.size]? = some (mtObj1 b) := heap_old2 _ _ _
    have hbx1 : ((W2.alloc (Obj.cells #[.int .i64 b.kk, .int .i64 b.ks, .slice b.kA b.kids.length b.kc] 29)).alloc (Obj.cells #[.int .i64 a.kk, .int .i64 a.ks, .slice a.kA a.kids.length a.kc] 29)).drew.heap[(W2.heap.size + 1)]? = some (mtObj1 a) := heap_new2 _ _ _
    obtain ⟨W3, hW3⟩ : ∃ W3, ((W2.alloc (Obj.cells #[.int .i64 b.kk, .int .i64 b.ks, .slice b.kA b.kids.length b.kc] 29)).alloc (Obj.cells #[.int .i64 a.kk, .int .i64 a.ks, .slice a.kA a.kids.length a.kc] 29)).drew = W3 := ⟨_, rfl⟩
    rw [hW3] at hU hbx0 hbx1 ⊢
    clear hW3
    have hsz3 : W2.heap.size + 2 ≤ W3.heap.size := lt_blk hbx1
    have hh : ByHead w W3 (Mt.n2 4 g c a b) := HHD.out.made hU
    have hX3 : (Mt.n2 4 g c a b).has W3 := HX2.out.made hU
    have hcx_0 : W3.cell? pa = some (.bool false) := (hh.below.cell hcl_0).trans hc
    obtain ⟨xf0, xf1, xf2⟩ : (W3.cell? ⟨w.heap.size, 0, none⟩ = some (.int .i64 4) ∧ W3.cell? ⟨w.heap.size, 1, none⟩ = some (.int .i64 0) ∧ W3.cell? ⟨w.heap.size, 2, none⟩ = some (.slice (some ⟨g, 0, none⟩) 2 c)) := box_kid hh.box
    obtain ⟨bf00, bf01, bf02⟩ : (W3.cell? ⟨W2.heap.size, 0, none⟩ = some (.int .i64 b.kk) ∧ W3.cell? ⟨W2.heap.size, 1, none⟩ = some (.int .i64 b.ks) ∧ W3.cell? ⟨W2.heap.size, 2, none⟩ = some (.slice b.kA b.kids.length b.kc)) := box_kid hbx0
    obtain ⟨bf10, bf11, bf12⟩ : (W3.cell? ⟨(W2.heap.size + 1), 0, none⟩ = some (.int .i64 a.kk) ∧ W3.cell? ⟨(W2.heap.size + 1), 1, none⟩ = some (.int .i64 a.ks) ∧ W3.cell? ⟨(W2.heap.size + 1), 2, none⟩ = some (.slice a.kA a.kids.length a.kc)) := box_kid hbx1
    have HHE := Lib.hid hh
    have HX3 := Lib.hid hX3
    have HBX0 := Lib.hid hbx0
    have HBX1 := Lib.hid hbx1
    clear hh hX3 hU HS0 HHD HX2 hbx0 hbx1
    go_upto_region 8 with fail
    have hh := HHE.out
    have hX2 := HX3.out
    have hbx0 := HBX0.out
    have hbx1 := HBX1.out
    clear xf0 xf1 xf2 bf00 bf01 bf02 bf10 bf11 bf12
    have hX5 : (Mt.n2 4 g c a b).has W3 := hX2.made (Below.refl _ _)
    have hH5 : ByHead w W3 (Mt.n2 4 g c a b) := hh.made (Below.refl _ _)
    obtain ⟨_, ka0, kb0, ha0, hb0⟩ := id hX5
    have HS0 := Lib.hid (show AllS [(w.heap.size, 0, (Mt.n2 4 g c a b)), (W2.heap.size, 0, b), ((W2.heap.size + 1), 0, a)] W3 from ⟨box_kid hH5.box, (box_kid hbx0), (box_kid hbx1), trivial⟩)
    have HH_0 := Lib.hid hb0
    have HH_1 := Lib.hid ha0
    have HH5 := Lib.hid hH5
    clear hh hX2 hX5 hH5 ha0 hb0 ka0 kb0 hbx0 hbx1
    have hsb : W3.heap.size ≤ W3.heap.size := Nat.le_refl _
    have t1 : True := trivial
    obtain ⟨⟨rf00, rf01, rf02⟩, ⟨rf10, rf11, rf12⟩, ⟨rf20, rf21, rf22⟩, _⟩ : ((W3.cell? ⟨w.heap.size, 0, none⟩ = some (.int .i64 4) ∧ W3.cell? ⟨w.heap.size, 1, none⟩ = some (.int .i64 0) ∧ W3.cell? ⟨w.heap.size, 2, none⟩ = some (.slice (some ⟨g, 0, none⟩) 2 c)) ∧ (W3.cell? ⟨W2.heap.size, 0, none⟩ = some (.int .i64 b.kk) ∧ W3.cell? ⟨W2.heap.size, 1, none⟩ = some (.int .i64 b.ks) ∧ W3.cell? ⟨W2.heap.size, 2, none⟩ = some (.slice b.kA b.kids.length b.kc)) ∧ (W3.cell? ⟨(W2.heap.size + 1), 0, none⟩ = some (.int .i64 a.kk) ∧ W3.cell? ⟨(W2.heap.size + 1), 1, none⟩ = some (.int .i64 a.ks) ∧ W3.cell? ⟨(W2.heap.size + 1), 2, none⟩ = some (.slice a.kA a.kids.length a.kc)) ∧ True) := HS0.out
    go_wp2_with (first
          | (have _t := t1; go_at_call 16; refine Calls.mono (wmake_any _ _ _ _ _) ?_; rintro e e1 ⟨rfl, hp1⟩; have hb1 : Below (W3.alloc (mtObj2 b a)).heap.size (W3.alloc (mtObj2 b a)) e1 := hp1; have HB1 := Lib.hid hb1; have HU1 := Lib.hid (up_call hb1); have HS1 := Lib.hid (HS0.out.up (up_call hb1)); obtain ⟨⟨y0, y1, y2⟩, z0, z1, z2, zl⟩ := res_at (HH5.out.made HU1.out).res; clear hb1 hp1 t1))
    all_goals
      have hsz_0 : w.heap.size + 2 ≤ W3.heap.size := by omega
      have s1 : Below W3.heap.size W3 e1 := up_call HB1.out
      have u1 : Below W3.heap.size W3 e1 := s1
      have hsz_1 : w.heap.size + 2 ≤ e1.heap.size := Nat.le_trans hsz_0 u1.size
      have m1 : (Mt.n2 4 W3.heap.size 2 b a).has e1 := mk2_has (W := W3) 4 HH_0.out HH_1.out (up_next HB1.out)
      have f1 : Fr (Mt.n2 4 g c a b) (w.heap.size + 2) w0.heap.size (Mt.n2 4 W3.heap.size 2 b a) := Fr.n2 hsz_0 (Fr.kid (Fr.self _ _ _) (z := b) (by simp [Mt.kids])) (Fr.kid (Fr.self _ _ _) (z := a) (by simp [Mt.kids]))
      have ub : Below w.heap.size w e1 := HH5.out.below.trans (u1.mono (by omega))
      refine bodyPost_ret (v := .tuple #[(Mt.n2 4 W3.heap.size 2 b a).val, .bool true]) (by simp [results, Tryz.results35, go_sem, y0, y1, y2]; rfl) rfl (by_fr HR.out HX.out HZ.out m1 (by simp only [Mt.w]) ub f1)
set_option maxRecDepth 100000 in
set_option maxHeartbeats 3200000 in
theorem tu_three5 (pa : Addr) (w0 w : World) (g : Nat) (c : Nat) (a : Mt) (b : Mt) (hx : (Mt.n2 5 g c a b).has w) (h0 : w0.heap.size ≤ w.heap.size) (hc : w.cell? pa = some (.bool true)) (hna : asTwo 5 a.w = none) (hnk : (a.kk == 5) = false) (hnb : asTwo 5 b.w = none) (hnl : (b.kk == 5) = false) :
    Calls Tryz.prog 35 #[.agg #[.int .i64 5, .int .i64 0, .slice (some ⟨g, 0, none⟩) 2 c], .pointer (some pa)] w (ByOut (tuRule true) (Mt.n2 5 g c a b) w0 w) := by
  have hr : (tuRule true) (Mt.n2 5 g c a b).w = some (W.n2 5 b.w a.w) := by simp only [Mt.w]; show some (tuTwo true 5 a.w b.w) = _; unfold tuTwo; rw [if_pos rfl, hna, hnb]
  have hcl_0 := lt_of_cell hc
  have HX := Lib.hid hx
  have HR := Lib.hid hr
  have HZ := Lib.hid h0
  clear hx hr h0
  go_enter Tryz.func35, Tryz.ntmps35
  go_upto_region 3 with fail
  have hh : ByHead w ((w.alloc (Obj.cells #[.int .i64 5, .int .i64 0, .slice (some ⟨g, 0, none⟩) 2 c] 29)).alloc (Obj.cells #[.int .i64 0, .int .i64 0, .slice none 0 0] 29)) (Mt.n2 5 g c a b) := by_head w (Mt.n2 5 g c a b)
  obtain ⟨W2, hW2⟩ : ∃ W2, (w.alloc (Obj.cells #[.int .i64 5, .int .i64 0, .slice (some ⟨g, 0, none⟩) 2 c] 29)).alloc (Obj.cells #[.int .i64 0, .int .i64 0, .slice none 0 0] 29) = W2 := ⟨_, rfl⟩
  rw [hW2] at hh ⊢
  clear hW2
  have hs2 : w.heap.size + 2 ≤ W2.heap.size := lt_blk hh.res
  have hX2 : (Mt.n2 5 g c a b).has W2 := HX.out.below hh.below (fun g hg => HX.out.lt g hg)
  have hcw_0 : W2.cell? pa = some (.bool true) := (hh.below.cell hcl_0).trans hc
  have hgl_g : g < w.heap.size := HX.out.lt g (by simp [Mt.blks])
  obtain ⟨_, kaq0, kbq0, haq0, hbq0⟩ := id hX2
  have HS0 := Lib.hid (show AllS [(w.heap.size, 0, (Mt.n2 5 g c a b)), (g, 0, a), (g, 3, b)] W2 from ⟨box_kid hh.box, kid_at kaq0, kid_at kbq0, trivial⟩)
  have HHD := Lib.hid hh
  have HX2 := Lib.hid hX2
  clear hh hX2 haq0 hbq0 kaq0 kbq0
  go_region_held3 (fun w' => ((w'.cell? ⟨w.heap.size, 0, none⟩ = some (.int .i64 5) ∧ w'.cell? ⟨w.heap.size, 1, none⟩ = some (.int .i64 0) ∧ w'.cell? ⟨w.heap.size, 2, none⟩ = some (.slice (some ⟨g, 0, none⟩) 2 c)) ∧ (w'.cell? ⟨g, 0, none⟩ = some (.int .i64 a.kk) ∧ w'.cell? ⟨g, 1, none⟩ = some (.int .i64 a.ks) ∧ w'.cell? ⟨g, 2, none⟩ = some (.slice a.kA a.kids.length a.kc)) ∧ (w'.cell? ⟨g, 3, none⟩ = some (.int .i64 b.kk) ∧ w'.cell? ⟨g, 4, none⟩ = some (.int .i64 b.ks) ∧ w'.cell? ⟨g, 5, none⟩ = some (.slice b.kA b.kids.length b.kc)) ∧ True)) (first | exact HS0.out.draw | exact HS0.out.up ((up_alloc _ _).drew) | exact (HS0.out.up (up_alloc _ _)).up ((up_alloc _ _).drew) | exact HS0.out | exact HS0.out.up (up_alloc _ _) | exact (HS0.out.up (up_alloc _ _)).up (up_alloc _ _)) (fail)
  · have hU : Below W2.heap.size W2 ((W2.alloc (Obj.cells #[.int .i64 a.kk, .int .i64 a.ks, .slice a.kA a.kids.length a.kc] 29)).alloc (Obj.cells #[.int .i64 b.kk, .int .i64 b.ks, .slice b.kA b.kids.length b.kc] 29)).drew := (((up_alloc W2 _).alloc (by simp) _).drew)
    have hbx0 : ((W2.alloc (Obj.cells #[.int .i64 a.kk, .int .i64 a.ks, .slice a.kA a.kids.length a.kc] 29)).alloc (Obj.cells #[.int .i64 b.kk, .int .i64 b.ks, .slice b.kA b.kids.length b.kc] 29)).drew.heap[W2.heap.size]? = some (mtObj1 a) := heap_old2 _ _ _
    have hbx1 : ((W2.alloc (Obj.cells #[.int .i64 a.kk, .int .i64 a.ks, .slice a.kA a.kids.length a.kc] 29)).alloc (Obj.cells #[.int .i64 b.kk, .int .i64 b.ks, .slice b.kA b.kids.length b.kc] 29)).drew.heap[(W2.heap.size + 1)]? = some (mtObj1 b) := heap_new2 _ _ _
    obtain ⟨W3, hW3⟩ : ∃ W3, ((W2.alloc (Obj.cells #[.int .i64 a.kk, .int .i64 a.ks, .slice a.kA a.kids.length a.kc] 29)).alloc (Obj.cells #[.int .i64 b.kk, .int .i64 b.ks, .slice b.kA b.kids.length b.kc] 29)).drew = W3 := ⟨_, rfl⟩
    rw [hW3] at hU hbx0 hbx1 ⊢
    clear hW3
    have hsz3 : W2.heap.size + 2 ≤ W3.heap.size := lt_blk hbx1
    have hh : ByHead w W3 (Mt.n2 5 g c a b) := HHD.out.made hU
    have hX3 : (Mt.n2 5 g c a b).has W3 := HX2.out.made hU
    have hcx_0 : W3.cell? pa = some (.bool true) := (hh.below.cell hcl_0).trans hc
    obtain ⟨xf0, xf1, xf2⟩ : (W3.cell? ⟨w.heap.size, 0, none⟩ = some (.int .i64 5) ∧ W3.cell? ⟨w.heap.size, 1, none⟩ = some (.int .i64 0) ∧ W3.cell? ⟨w.heap.size, 2, none⟩ = some (.slice (some ⟨g, 0, none⟩) 2 c)) := box_kid hh.box
    obtain ⟨bf00, bf01, bf02⟩ : (W3.cell? ⟨W2.heap.size, 0, none⟩ = some (.int .i64 a.kk) ∧ W3.cell? ⟨W2.heap.size, 1, none⟩ = some (.int .i64 a.ks) ∧ W3.cell? ⟨W2.heap.size, 2, none⟩ = some (.slice a.kA a.kids.length a.kc)) := box_kid hbx0
    obtain ⟨bf10, bf11, bf12⟩ : (W3.cell? ⟨(W2.heap.size + 1), 0, none⟩ = some (.int .i64 b.kk) ∧ W3.cell? ⟨(W2.heap.size + 1), 1, none⟩ = some (.int .i64 b.ks) ∧ W3.cell? ⟨(W2.heap.size + 1), 2, none⟩ = some (.slice b.kA b.kids.length b.kc)) := box_kid hbx1
    have HHE := Lib.hid hh
    have HX3 := Lib.hid hX3
    have HBX0 := Lib.hid hbx0
    have HBX1 := Lib.hid hbx1
    clear hh hX3 hU HS0 HHD HX2 hbx0 hbx1
    go_upto_region 8 with fail
    have hh := HHE.out
    have hX2 := HX3.out
    have hbx0 := HBX0.out
    have hbx1 := HBX1.out
    clear xf0 xf1 xf2 bf00 bf01 bf02 bf10 bf11 bf12
    have hX5 : (Mt.n2 5 g c a b).has W3 := hX2.made (Below.refl _ _)
    have hH5 : ByHead w W3 (Mt.n2 5 g c a b) := hh.made (Below.refl _ _)
    obtain ⟨_, ka0, kb0, ha0, hb0⟩ := id hX5
    have HS0 := Lib.hid (show AllS [(w.heap.size, 0, (Mt.n2 5 g c a b)), (W2.heap.size, 0, a), ((W2.heap.size + 1), 0, b)] W3 from ⟨box_kid hH5.box, (box_kid hbx0), (box_kid hbx1), trivial⟩)
    have HH_0 := Lib.hid hb0
    have HH_1 := Lib.hid ha0
    have HH5 := Lib.hid hH5
    clear hh hX2 hX5 hH5 ha0 hb0 ka0 kb0 hbx0 hbx1
    have hsb : W3.heap.size ≤ W3.heap.size := Nat.le_refl _
    have t1 : True := trivial
    obtain ⟨⟨rf00, rf01, rf02⟩, ⟨rf10, rf11, rf12⟩, ⟨rf20, rf21, rf22⟩, _⟩ : ((W3.cell? ⟨w.heap.size, 0, none⟩ = some (.int .i64 5) ∧ W3.cell? ⟨w.heap.size, 1, none⟩ = some (.int .i64 0) ∧ W3.cell? ⟨w.heap.size, 2, none⟩ = some (.slice (some ⟨g, 0, none⟩) 2 c)) ∧ (W3.cell? ⟨W2.heap.size, 0, none⟩ = some (.int .i64 a.kk) ∧ W3.cell? ⟨W2.heap.size, 1, none⟩ = some (.int .i64 a.ks) ∧ W3.cell? ⟨W2.heap.size, 2, none⟩ = some (.slice a.kA a.kids.length a.kc)) ∧ (W3.cell? ⟨(W2.heap.size + 1), 0, none⟩ = some (.int .i64 b.kk) ∧ W3.cell? ⟨(W2.heap.size + 1), 1, none⟩ = some (.int .i64 b.ks) ∧ W3.cell? ⟨(W2.heap.size + 1), 2, none⟩ = some (.slice b.kA b.kids.length b.kc)) ∧ True) := HS0.out
    go_wp2_with (first
          | (have _t := t1; go_at_call 16; refine Calls.mono (wmake_any _ _ _ _ _) ?_; rintro e e1 ⟨rfl, hp1⟩; have hb1 : Below (W3.alloc (mtObj2 b a)).heap.size (W3.alloc (mtObj2 b a)) e1 := hp1; have HB1 := Lib.hid hb1; have HU1 := Lib.hid (up_call hb1); have HS1 := Lib.hid (HS0.out.up (up_call hb1)); obtain ⟨⟨y0, y1, y2⟩, z0, z1, z2, zl⟩ := res_at (HH5.out.made HU1.out).res; clear hb1 hp1 t1))
    all_goals
      have hsz_0 : w.heap.size + 2 ≤ W3.heap.size := by omega
      have s1 : Below W3.heap.size W3 e1 := up_call HB1.out
      have u1 : Below W3.heap.size W3 e1 := s1
      have hsz_1 : w.heap.size + 2 ≤ e1.heap.size := Nat.le_trans hsz_0 u1.size
      have m1 : (Mt.n2 5 W3.heap.size 2 b a).has e1 := mk2_has (W := W3) 5 HH_0.out HH_1.out (up_next HB1.out)
      have f1 : Fr (Mt.n2 5 g c a b) (w.heap.size + 2) w0.heap.size (Mt.n2 5 W3.heap.size 2 b a) := Fr.n2 hsz_0 (Fr.kid (Fr.self _ _ _) (z := b) (by simp [Mt.kids])) (Fr.kid (Fr.self _ _ _) (z := a) (by simp [Mt.kids]))
      have ub : Below w.heap.size w e1 := HH5.out.below.trans (u1.mono (by omega))
      refine bodyPost_ret (v := .tuple #[(Mt.n2 5 W3.heap.size 2 b a).val, .bool true]) (by simp [results, Tryz.results35, go_sem, y0, y1, y2]; rfl) rfl (by_fr HR.out HX.out HZ.out m1 (by simp only [Mt.w]) ub f1)
  · have hU : Below W2.heap.size W2 ((W2.alloc (Obj.cells #[.int .i64 b.kk, .int .i64 b.ks, .slice b.kA b.kids.length b.kc] 29)).alloc (Obj.cells #[.int .i64 a.kk, .int .i64 a.ks, .slice a.kA a.kids.length a.kc] 29)).drew := (((up_alloc W2 _).alloc (by simp) _).drew)
    have hbx0 : ((W2.alloc (Obj.cells #[.int .i64 b.kk, .int .i64 b.ks, .slice b.kA b.kids.length b.kc] 29)).alloc (Obj.cells #[.int .i64 a.kk, .int .i64 a.ks, .slice a.kA a.kids.length a.kc] 29)).drew.heap[W2.heap.size]? = some (mtObj1 b) := heap_old2 _ _ _
    have hbx1 : ((W2.alloc (Obj.cells #[.int .i64 b.kk, .int .i64 b.ks, .slice b.kA b.kids.length b.kc] 29)).alloc (Obj.cells #[.int .i64 a.kk, .int .i64 a.ks, .slice a.kA a.kids.length a.kc] 29)).drew.heap[(W2.heap.size + 1)]? = some (mtObj1 a) := heap_new2 _ _ _
    obtain ⟨W3, hW3⟩ : ∃ W3, ((W2.alloc (Obj.cells #[.int .i64 b.kk, .int .i64 b.ks, .slice b.kA b.kids.length b.kc] 29)).alloc (Obj.cells #[.int .i64 a.kk, .int .i64 a.ks, .slice a.kA a.kids.length a.kc] 29)).drew = W3 := ⟨_, rfl⟩
    rw [hW3] at hU hbx0 hbx1 ⊢
    clear hW3
    have hsz3 : W2.heap.size + 2 ≤ W3.heap.size := lt_blk hbx1
    have hh : ByHead w W3 (Mt.n2 5 g c a b) := HHD.out.made hU
    have hX3 : (Mt.n2 5 g c a b).has W3 := HX2.out.made hU
    have hcx_0 : W3.cell? pa = some (.bool true) := (hh.below.cell hcl_0).trans hc
    obtain ⟨xf0, xf1, xf2⟩ : (W3.cell? ⟨w.heap.size, 0, none⟩ = some (.int .i64 5) ∧ W3.cell? ⟨w.heap.size, 1, none⟩ = some (.int .i64 0) ∧ W3.cell? ⟨w.heap.size, 2, none⟩ = some (.slice (some ⟨g, 0, none⟩) 2 c)) := box_kid hh.box
    obtain ⟨bf00, bf01, bf02⟩ : (W3.cell? ⟨W2.heap.size, 0, none⟩ = some (.int .i64 b.kk) ∧ W3.cell? ⟨W2.heap.size, 1, none⟩ = some (.int .i64 b.ks) ∧ W3.cell? ⟨W2.heap.size, 2, none⟩ = some (.slice b.kA b.kids.length b.kc)) := box_kid hbx0
    obtain ⟨bf10, bf11, bf12⟩ : (W3.cell? ⟨(W2.heap.size + 1), 0, none⟩ = some (.int .i64 a.kk) ∧ W3.cell? ⟨(W2.heap.size + 1), 1, none⟩ = some (.int .i64 a.ks) ∧ W3.cell? ⟨(W2.heap.size + 1), 2, none⟩ = some (.slice a.kA a.kids.length a.kc)) := box_kid hbx1
    have HHE := Lib.hid hh
    have HX3 := Lib.hid hX3
    have HBX0 := Lib.hid hbx0
    have HBX1 := Lib.hid hbx1
    clear hh hX3 hU HS0 HHD HX2 hbx0 hbx1
    go_upto_region 8 with fail
    have hh := HHE.out
    have hX2 := HX3.out
    have hbx0 := HBX0.out
    have hbx1 := HBX1.out
    clear xf0 xf1 xf2 bf00 bf01 bf02 bf10 bf11 bf12
    have hX5 : (Mt.n2 5 g c a b).has W3 := hX2.made (Below.refl _ _)
    have hH5 : ByHead w W3 (Mt.n2 5 g c a b) := hh.made (Below.refl _ _)
    obtain ⟨_, ka0, kb0, ha0, hb0⟩ := id hX5
    have HS0 := Lib.hid (show AllS [(w.heap.size, 0, (Mt.n2 5 g c a b)), (W2.heap.size, 0, b), ((W2.heap.size + 1), 0, a)] W3 from ⟨box_kid hH5.box, (box_kid hbx0), (box_kid hbx1), trivial⟩)
    have HH_0 := Lib.hid hb0
    have HH_1 := Lib.hid ha0
    have HH5 := Lib.hid hH5
    clear hh hX2 hX5 hH5 ha0 hb0 ka0 kb0 hbx0 hbx1
    have hsb : W3.heap.size ≤ W3.heap.size := Nat.le_refl _
    have t1 : True := trivial
    obtain ⟨⟨rf00, rf01, rf02⟩, ⟨rf10, rf11, rf12⟩, ⟨rf20, rf21, rf22⟩, _⟩ : ((W3.cell? ⟨w.heap.size, 0, none⟩ = some (.int .i64 5) ∧ W3.cell? ⟨w.heap.size, 1, none⟩ = some (.int .i64 0) ∧ W3.cell? ⟨w.heap.size, 2, none⟩ = some (.slice (some ⟨g, 0, none⟩) 2 c)) ∧ (W3.cell? ⟨W2.heap.size, 0, none⟩ = some (.int .i64 b.kk) ∧ W3.cell? ⟨W2.heap.size, 1, none⟩ = some (.int .i64 b.ks) ∧ W3.cell? ⟨W2.heap.size, 2, none⟩ = some (.slice b.kA b.kids.length b.kc)) ∧ (W3.cell? ⟨(W2.heap.size + 1), 0, none⟩ = some (.int .i64 a.kk) ∧ W3.cell? ⟨(W2.heap.size + 1), 1, none⟩ = some (.int .i64 a.ks) ∧ W3.cell? ⟨(W2.heap.size + 1), 2, none⟩ = some (.slice a.kA a.kids.length a.kc)) ∧ True) := HS0.out
    go_wp2_with (first
          | (have _t := t1; go_at_call 16; refine Calls.mono (wmake_any _ _ _ _ _) ?_; rintro e e1 ⟨rfl, hp1⟩; have hb1 : Below (W3.alloc (mtObj2 b a)).heap.size (W3.alloc (mtObj2 b a)) e1 := hp1; have HB1 := Lib.hid hb1; have HU1 := Lib.hid (up_call hb1); have HS1 := Lib.hid (HS0.out.up (up_call hb1)); obtain ⟨⟨y0, y1, y2⟩, z0, z1, z2, zl⟩ := res_at (HH5.out.made HU1.out).res; clear hb1 hp1 t1))
    all_goals
      have hsz_0 : w.heap.size + 2 ≤ W3.heap.size := by omega
      have s1 : Below W3.heap.size W3 e1 := up_call HB1.out
      have u1 : Below W3.heap.size W3 e1 := s1
      have hsz_1 : w.heap.size + 2 ≤ e1.heap.size := Nat.le_trans hsz_0 u1.size
      have m1 : (Mt.n2 5 W3.heap.size 2 b a).has e1 := mk2_has (W := W3) 5 HH_0.out HH_1.out (up_next HB1.out)
      have f1 : Fr (Mt.n2 5 g c a b) (w.heap.size + 2) w0.heap.size (Mt.n2 5 W3.heap.size 2 b a) := Fr.n2 hsz_0 (Fr.kid (Fr.self _ _ _) (z := b) (by simp [Mt.kids])) (Fr.kid (Fr.self _ _ _) (z := a) (by simp [Mt.kids]))
      have ub : Below w.heap.size w e1 := HH5.out.below.trans (u1.mono (by omega))
      refine bodyPost_ret (v := .tuple #[(Mt.n2 5 W3.heap.size 2 b a).val, .bool true]) (by simp [results, Tryz.results35, go_sem, y0, y1, y2]; rfl) rfl (by_fr HR.out HX.out HZ.out m1 (by simp only [Mt.w]) ub f1)
set_option maxRecDepth 100000 in
set_option maxHeartbeats 3200000 in
theorem tu_four5 (pa : Addr) (w0 w : World) (g : Nat) (c : Nat) (a : Mt) (b : Mt) (hx : (Mt.n2 5 g c a b).has w) (h0 : w0.heap.size ≤ w.heap.size) (hc : w.cell? pa = some (.bool false)) :
    Calls Tryz.prog 35 #[.agg #[.int .i64 5, .int .i64 0, .slice (some ⟨g, 0, none⟩) 2 c], .pointer (some pa)] w (ByOut (tuRule false) (Mt.n2 5 g c a b) w0 w) := by
  have hr : (tuRule false) (Mt.n2 5 g c a b).w = some (W.n2 5 b.w a.w) := rfl
  have hcl_0 := lt_of_cell hc
  have HX := Lib.hid hx
  have HR := Lib.hid hr
  have HZ := Lib.hid h0
  clear hx hr h0
  go_enter Tryz.func35, Tryz.ntmps35
  go_upto_region 3 with fail
  have hh : ByHead w ((w.alloc (Obj.cells #[.int .i64 5, .int .i64 0, .slice (some ⟨g, 0, none⟩) 2 c] 29)).alloc (Obj.cells #[.int .i64 0, .int .i64 0, .slice none 0 0] 29)) (Mt.n2 5 g c a b) := by_head w (Mt.n2 5 g c a b)
  obtain ⟨W2, hW2⟩ : ∃ W2, (w.alloc (Obj.cells #[.int .i64 5, .int .i64 0, .slice (some ⟨g, 0, none⟩) 2 c] 29)).alloc (Obj.cells #[.int .i64 0, .int .i64 0, .slice none 0 0] 29) = W2 := ⟨_, rfl⟩
  rw [hW2] at hh ⊢
  clear hW2
  have hs2 : w.heap.size + 2 ≤ W2.heap.size := lt_blk hh.res
  have hX2 : (Mt.n2 5 g c a b).has W2 := HX.out.below hh.below (fun g hg => HX.out.lt g hg)
  have hcw_0 : W2.cell? pa = some (.bool false) := (hh.below.cell hcl_0).trans hc
  have hgl_g : g < w.heap.size := HX.out.lt g (by simp [Mt.blks])
  obtain ⟨_, kaq0, kbq0, haq0, hbq0⟩ := id hX2
  have HS0 := Lib.hid (show AllS [(w.heap.size, 0, (Mt.n2 5 g c a b)), (g, 0, a), (g, 3, b)] W2 from ⟨box_kid hh.box, kid_at kaq0, kid_at kbq0, trivial⟩)
  have HHD := Lib.hid hh
  have HX2 := Lib.hid hX2
  clear hh hX2 haq0 hbq0 kaq0 kbq0
  go_region_held3 (fun w' => ((w'.cell? ⟨w.heap.size, 0, none⟩ = some (.int .i64 5) ∧ w'.cell? ⟨w.heap.size, 1, none⟩ = some (.int .i64 0) ∧ w'.cell? ⟨w.heap.size, 2, none⟩ = some (.slice (some ⟨g, 0, none⟩) 2 c)) ∧ (w'.cell? ⟨g, 0, none⟩ = some (.int .i64 a.kk) ∧ w'.cell? ⟨g, 1, none⟩ = some (.int .i64 a.ks) ∧ w'.cell? ⟨g, 2, none⟩ = some (.slice a.kA a.kids.length a.kc)) ∧ (w'.cell? ⟨g, 3, none⟩ = some (.int .i64 b.kk) ∧ w'.cell? ⟨g, 4, none⟩ = some (.int .i64 b.ks) ∧ w'.cell? ⟨g, 5, none⟩ = some (.slice b.kA b.kids.length b.kc)) ∧ True)) (first | exact HS0.out.draw | exact HS0.out.up ((up_alloc _ _).drew) | exact (HS0.out.up (up_alloc _ _)).up ((up_alloc _ _).drew) | exact HS0.out | exact HS0.out.up (up_alloc _ _) | exact (HS0.out.up (up_alloc _ _)).up (up_alloc _ _)) (fail)
  · have hU : Below W2.heap.size W2 ((W2.alloc (Obj.cells #[.int .i64 a.kk, .int .i64 a.ks, .slice a.kA a.kids.length a.kc] 29)).alloc (Obj.cells #[.int .i64 b.kk, .int .i64 b.ks, .slice b.kA b.kids.length b.kc] 29)).drew := (((up_alloc W2 _).alloc (by simp) _).drew)
    have hbx0 : ((W2.alloc (Obj.cells #[.int .i64 a.kk, .int .i64 a.ks, .slice a.kA a.kids.length a.kc] 29)).alloc (Obj.cells #[.int .i64 b.kk, .int .i64 b.ks, .slice b.kA b.kids.length b.kc] 29)).drew.heap[W2.heap.size]? = some (mtObj1 a) := heap_old2 _ _ _
    have hbx1 : ((W2.alloc (Obj.cells #[.int .i64 a.kk, .int .i64 a.ks, .slice a.kA a.kids.length a.kc] 29)).alloc (Obj.cells #[.int .i64 b.kk, .int .i64 b.ks, .slice b.kA b.kids.length b.kc] 29)).drew.heap[(W2.heap.size + 1)]? = some (mtObj1 b) := heap_new2 _ _ _
    obtain ⟨W3, hW3⟩ : ∃ W3, ((W2.alloc (Obj.cells #[.int .i64 a.kk, .int .i64 a.ks, .slice a.kA a.kids.length a.kc] 29)).alloc (Obj.cells #[.int .i64 b.kk, .int .i64 b.ks, .slice b.kA b.kids.length b.kc] 29)).drew = W3 := ⟨_, rfl⟩
    rw [hW3] at hU hbx0 hbx1 ⊢
    clear hW3
    have hsz3 : W2.heap.size + 2 ≤ W3.heap.size := lt_blk hbx1
    have hh : ByHead w W3 (Mt.n2 5 g c a b) := HHD.out.made hU
    have hX3 : (Mt.n2 5 g c a b).has W3 := HX2.out.made hU
    have hcx_0 : W3.cell? pa = some (.bool false) := (hh.below.cell hcl_0).trans hc
    obtain ⟨xf0, xf1, xf2⟩ : (W3.cell? ⟨w.heap.size, 0, none⟩ = some (.int .i64 5) ∧ W3.cell? ⟨w.heap.size, 1, none⟩ = some (.int .i64 0) ∧ W3.cell? ⟨w.heap.size, 2, none⟩ = some (.slice (some ⟨g, 0, none⟩) 2 c)) := box_kid hh.box
    obtain ⟨bf00, bf01, bf02⟩ : (W3.cell? ⟨W2.heap.size, 0, none⟩ = some (.int .i64 a.kk) ∧ W3.cell? ⟨W2.heap.size, 1, none⟩ = some (.int .i64 a.ks) ∧ W3.cell? ⟨W2.heap.size, 2, none⟩ = some (.slice a.kA a.kids.length a.kc)) := box_kid hbx0
    obtain ⟨bf10, bf11, bf12⟩ : (W3.cell? ⟨(W2.heap.size + 1), 0, none⟩ = some (.int .i64 b.kk) ∧ W3.cell? ⟨(W2.heap.size + 1), 1, none⟩ = some (.int .i64 b.ks) ∧ W3.cell? ⟨(W2.heap.size + 1), 2, none⟩ = some (.slice b.kA b.kids.length b.kc)) := box_kid hbx1
    have HHE := Lib.hid hh
    have HX3 := Lib.hid hX3
    have HBX0 := Lib.hid hbx0
    have HBX1 := Lib.hid hbx1
    clear hh hX3 hU HS0 HHD HX2 hbx0 hbx1
    go_upto_region 8 with fail
    have hh := HHE.out
    have hX2 := HX3.out
    have hbx0 := HBX0.out
    have hbx1 := HBX1.out
    clear xf0 xf1 xf2 bf00 bf01 bf02 bf10 bf11 bf12
    have hX5 : (Mt.n2 5 g c a b).has W3 := hX2.made (Below.refl _ _)
    have hH5 : ByHead w W3 (Mt.n2 5 g c a b) := hh.made (Below.refl _ _)
    obtain ⟨_, ka0, kb0, ha0, hb0⟩ := id hX5
    have HS0 := Lib.hid (show AllS [(w.heap.size, 0, (Mt.n2 5 g c a b)), (W2.heap.size, 0, a), ((W2.heap.size + 1), 0, b)] W3 from ⟨box_kid hH5.box, (box_kid hbx0), (box_kid hbx1), trivial⟩)
    have HH_0 := Lib.hid hb0
    have HH_1 := Lib.hid ha0
    have HH5 := Lib.hid hH5
    clear hh hX2 hX5 hH5 ha0 hb0 ka0 kb0 hbx0 hbx1
    have hsb : W3.heap.size ≤ W3.heap.size := Nat.le_refl _
    have t1 : True := trivial
    obtain ⟨⟨rf00, rf01, rf02⟩, ⟨rf10, rf11, rf12⟩, ⟨rf20, rf21, rf22⟩, _⟩ : ((W3.cell? ⟨w.heap.size, 0, none⟩ = some (.int .i64 5) ∧ W3.cell? ⟨w.heap.size, 1, none⟩ = some (.int .i64 0) ∧ W3.cell? ⟨w.heap.size, 2, none⟩ = some (.slice (some ⟨g, 0, none⟩) 2 c)) ∧ (W3.cell? ⟨W2.heap.size, 0, none⟩ = some (.int .i64 a.kk) ∧ W3.cell? ⟨W2.heap.size, 1, none⟩ = some (.int .i64 a.ks) ∧ W3.cell? ⟨W2.heap.size, 2, none⟩ = some (.slice a.kA a.kids.length a.kc)) ∧ (W3.cell? ⟨(W2.heap.size + 1), 0, none⟩ = some (.int .i64 b.kk) ∧ W3.cell? ⟨(W2.heap.size + 1), 1, none⟩ = some (.int .i64 b.ks) ∧ W3.cell? ⟨(W2.heap.size + 1), 2, none⟩ = some (.slice b.kA b.kids.length b.kc)) ∧ True) := HS0.out
    go_wp2_with (first
          | (have _t := t1; go_at_call 16; refine Calls.mono (wmake_any _ _ _ _ _) ?_; rintro e e1 ⟨rfl, hp1⟩; have hb1 : Below (W3.alloc (mtObj2 b a)).heap.size (W3.alloc (mtObj2 b a)) e1 := hp1; have HB1 := Lib.hid hb1; have HU1 := Lib.hid (up_call hb1); have HS1 := Lib.hid (HS0.out.up (up_call hb1)); obtain ⟨⟨y0, y1, y2⟩, z0, z1, z2, zl⟩ := res_at (HH5.out.made HU1.out).res; clear hb1 hp1 t1))
    all_goals
      have hsz_0 : w.heap.size + 2 ≤ W3.heap.size := by omega
      have s1 : Below W3.heap.size W3 e1 := up_call HB1.out
      have u1 : Below W3.heap.size W3 e1 := s1
      have hsz_1 : w.heap.size + 2 ≤ e1.heap.size := Nat.le_trans hsz_0 u1.size
      have m1 : (Mt.n2 5 W3.heap.size 2 b a).has e1 := mk2_has (W := W3) 5 HH_0.out HH_1.out (up_next HB1.out)
      have f1 : Fr (Mt.n2 5 g c a b) (w.heap.size + 2) w0.heap.size (Mt.n2 5 W3.heap.size 2 b a) := Fr.n2 hsz_0 (Fr.kid (Fr.self _ _ _) (z := b) (by simp [Mt.kids])) (Fr.kid (Fr.self _ _ _) (z := a) (by simp [Mt.kids]))
      have ub : Below w.heap.size w e1 := HH5.out.below.trans (u1.mono (by omega))
      refine bodyPost_ret (v := .tuple #[(Mt.n2 5 W3.heap.size 2 b a).val, .bool true]) (by simp [results, Tryz.results35, go_sem, y0, y1, y2]; rfl) rfl (by_fr HR.out HX.out HZ.out m1 (by simp only [Mt.w]) ub f1)
  · have hU : Below W2.heap.size W2 ((W2.alloc (Obj.cells #[.int .i64 b.kk, .int .i64 b.ks, .slice b.kA b.kids.length b.kc] 29)).alloc (Obj.cells #[.int .i64 a.kk, .int .i64 a.ks, .slice a.kA a.kids.length a.kc] 29)).drew := (((up_alloc W2 _).alloc (by simp) _).drew)
    have hbx0 : ((W2.alloc (Obj.cells #[.int .i64 b.kk, .int .i64 b.ks, .slice b.kA b.kids.length b.kc] 29)).alloc (Obj.cells #[.int .i64 a.kk, .int .i64 a.ks, .slice a.kA a.kids.length a.kc] 29)).drew.heap[W2.heap.size]? = some (mtObj1 b) := heap_old2 _ _ _
    have hbx1 : ((W2.alloc (Obj.cells #[.int .i64 b.kk, .int .i64 b.ks, .slice b.kA b.kids.length b.kc] 29)).alloc (Obj.cells #[.int .i64 a.kk, .int .i64 a.ks, .slice a.kA a.kids.length a.kc] 29)).drew.heap[(W2.heap.size + 1)]? = some (mtObj1 a) := heap_new2 _ _ _
    obtain ⟨W3, hW3⟩ : ∃ W3, ((W2.alloc (Obj.cells #[.int .i64 b.kk, .int .i64 b.ks, .slice b.kA b.kids.length b.kc] 29)).alloc (Obj.cells #[.int .i64 a.kk, .int .i64 a.ks, .slice a.kA a.kids.length a.kc] 29)).drew = W3 := ⟨_, rfl⟩
    rw [hW3] at hU hbx0 hbx1 ⊢
    clear hW3
    have hsz3 : W2.heap.size + 2 ≤ W3.heap.size := lt_blk hbx1
    have hh : ByHead w W3 (Mt.n2 5 g c a b) := HHD.out.made hU
    have hX3 : (Mt.n2 5 g c a b).has W3 := HX2.out.made hU
    have hcx_0 : W3.cell? pa = some (.bool false) := (hh.below.cell hcl_0).trans hc
    obtain ⟨xf0, xf1, xf2⟩ : (W3.cell? ⟨w.heap.size, 0, none⟩ = some (.int .i64 5) ∧ W3.cell? ⟨w.heap.size, 1, none⟩ = some (.int .i64 0) ∧ W3.cell? ⟨w.heap.size, 2, none⟩ = some (.slice (some ⟨g, 0, none⟩) 2 c)) := box_kid hh.box
    obtain ⟨bf00, bf01, bf02⟩ : (W3.cell? ⟨W2.heap.size, 0, none⟩ = some (.int .i64 b.kk) ∧ W3.cell? ⟨W2.heap.size, 1, none⟩ = some (.int .i64 b.ks) ∧ W3.cell? ⟨W2.heap.size, 2, none⟩ = some (.slice b.kA b.kids.length b.kc)) := box_kid hbx0
    obtain ⟨bf10, bf11, bf12⟩ : (W3.cell? ⟨(W2.heap.size + 1), 0, none⟩ = some (.int .i64 a.kk) ∧ W3.cell? ⟨(W2.heap.size + 1), 1, none⟩ = some (.int .i64 a.ks) ∧ W3.cell? ⟨(W2.heap.size + 1), 2, none⟩ = some (.slice a.kA a.kids.length a.kc)) := box_kid hbx1
    have HHE := Lib.hid hh
    have HX3 := Lib.hid hX3
    have HBX0 := Lib.hid hbx0
    have HBX1 := Lib.hid hbx1
    clear hh hX3 hU HS0 HHD HX2 hbx0 hbx1
    go_upto_region 8 with fail
    have hh := HHE.out
    have hX2 := HX3.out
    have hbx0 := HBX0.out
    have hbx1 := HBX1.out
    clear xf0 xf1 xf2 bf00 bf01 bf02 bf10 bf11 bf12
    have hX5 : (Mt.n2 5 g c a b).has W3 := hX2.made (Below.refl _ _)
    have hH5 : ByHead w W3 (Mt.n2 5 g c a b) := hh.made (Below.refl _ _)
    obtain ⟨_, ka0, kb0, ha0, hb0⟩ := id hX5
    have HS0 := Lib.hid (show AllS [(w.heap.size, 0, (Mt.n2 5 g c a b)), (W2.heap.size, 0, b), ((W2.heap.size + 1), 0, a)] W3 from ⟨box_kid hH5.box, (box_kid hbx0), (box_kid hbx1), trivial⟩)
    have HH_0 := Lib.hid hb0
    have HH_1 := Lib.hid ha0
    have HH5 := Lib.hid hH5
    clear hh hX2 hX5 hH5 ha0 hb0 ka0 kb0 hbx0 hbx1
    have hsb : W3.heap.size ≤ W3.heap.size := Nat.le_refl _
    have t1 : True := trivial
    obtain ⟨⟨rf00, rf01, rf02⟩, ⟨rf10, rf11, rf12⟩, ⟨rf20, rf21, rf22⟩, _⟩ : ((W3.cell? ⟨w.heap.size, 0, none⟩ = some (.int .i64 5) ∧ W3.cell? ⟨w.heap.size, 1, none⟩ = some (.int .i64 0) ∧ W3.cell? ⟨w.heap.size, 2, none⟩ = some (.slice (some ⟨g, 0, none⟩) 2 c)) ∧ (W3.cell? ⟨W2.heap.size, 0, none⟩ = some (.int .i64 b.kk) ∧ W3.cell? ⟨W2.heap.size, 1, none⟩ = some (.int .i64 b.ks) ∧ W3.cell? ⟨W2.heap.size, 2, none⟩ = some (.slice b.kA b.kids.length b.kc)) ∧ (W3.cell? ⟨(W2.heap.size + 1), 0, none⟩ = some (.int .i64 a.kk) ∧ W3.cell? ⟨(W2.heap.size + 1), 1, none⟩ = some (.int .i64 a.ks) ∧ W3.cell? ⟨(W2.heap.size + 1), 2, none⟩ = some (.slice a.kA a.kids.length a.kc)) ∧ True) := HS0.out
    go_wp2_with (first
          | (have _t := t1; go_at_call 16; refine Calls.mono (wmake_any _ _ _ _ _) ?_; rintro e e1 ⟨rfl, hp1⟩; have hb1 : Below (W3.alloc (mtObj2 b a)).heap.size (W3.alloc (mtObj2 b a)) e1 := hp1; have HB1 := Lib.hid hb1; have HU1 := Lib.hid (up_call hb1); have HS1 := Lib.hid (HS0.out.up (up_call hb1)); obtain ⟨⟨y0, y1, y2⟩, z0, z1, z2, zl⟩ := res_at (HH5.out.made HU1.out).res; clear hb1 hp1 t1))
    all_goals
      have hsz_0 : w.heap.size + 2 ≤ W3.heap.size := by omega
      have s1 : Below W3.heap.size W3 e1 := up_call HB1.out
      have u1 : Below W3.heap.size W3 e1 := s1
      have hsz_1 : w.heap.size + 2 ≤ e1.heap.size := Nat.le_trans hsz_0 u1.size
      have m1 : (Mt.n2 5 W3.heap.size 2 b a).has e1 := mk2_has (W := W3) 5 HH_0.out HH_1.out (up_next HB1.out)
      have f1 : Fr (Mt.n2 5 g c a b) (w.heap.size + 2) w0.heap.size (Mt.n2 5 W3.heap.size 2 b a) := Fr.n2 hsz_0 (Fr.kid (Fr.self _ _ _) (z := b) (by simp [Mt.kids])) (Fr.kid (Fr.self _ _ _) (z := a) (by simp [Mt.kids]))
      have ub : Below w.heap.size w e1 := HH5.out.below.trans (u1.mono (by omega))
      refine bodyPost_ret (v := .tuple #[(Mt.n2 5 W3.heap.size 2 b a).val, .bool true]) (by simp [results, Tryz.results35, go_sem, y0, y1, y2]; rfl) rfl (by_fr HR.out HX.out HZ.out m1 (by simp only [Mt.w]) ub f1)
set_option maxRecDepth 100000 in
set_option maxHeartbeats 3200000 in
theorem tu_no (group : Bool) (pa : Addr) (w0 w : World)  (x : Mt) (hx : x.has w) (h0 : w0.heap.size ≤ w.heap.size) (hc : w.cell? pa = some (.bool group)) (h4 : x.kk ≠ 4) (h5 : x.kk ≠ 5) (hr0 : tuRule group x.w = none) :
    Calls Tryz.prog 35 #[.agg #[.int .i64 x.kk, .int .i64 x.ks, .slice x.kA x.kids.length x.kc], .pointer (some pa)] w (ByOut (tuRule group) x w0 w) := by
  have hr : (tuRule group) x.w = none := hr0
  have hcl_0 := lt_of_cell hc
  have HX := Lib.hid hx
  have HR := Lib.hid hr
  have HZ := Lib.hid h0
  clear hx hr h0
  have e4 : (x.kk == 4) = false := beq_eq_false_iff_ne.2 h4
  have e5 : (x.kk == 5) = false := beq_eq_false_iff_ne.2 h5
  have d4 : (x.kk != 4) = true := bne_iff_ne.2 h4
  have d5 : (x.kk != 5) = true := bne_iff_ne.2 h5
  go_enter Tryz.func35, Tryz.ntmps35
  go_wp2_with fail
  refine bodyPost_ret (v := .tuple #[x.val, .bool false]) (by simp [results, Tryz.results35, go_sem]; rfl) rfl (by_none HR.out (((Below.refl _ _).alloc (Nat.le_refl _) _).alloc (by simp) _))
end Go.Proofs.YtccknopchddicaaGreatDoor
/- contract: the rule of FormTurned, whole. -/
namespace Go.Proofs.YtccknopchddicaaGreatDoor
open Go.RowKit Stile
theorem tu_by_ok {mm : Int} (group : Bool) (pa : Addr) (w0 : World) (hc : w0.cell? pa = some (.bool group)) : ByOk futK mm w0 35 #[.pointer (some pa)] (tuRule group) := by
  intro m w hb hm hok hsz
  have hcw : w.cell? pa = some (.bool group) := (hb.cell (lt_of_cell hc)).trans hc
  have h0 : w0.heap.size ≤ w.heap.size := hb.size
  show Calls _ _ #[m.val, .pointer (some pa)] w (ByOut (tuRule group) m w0 w)
  cases m with
  | n0 k s =>
    have hk := leaf_kk hok
    exact tu_no group pa w0 w (.n0 k s) hm h0 hcw (by intro e; have e : k = 4 := e; omega) (by intro e; have e : k = 5 := e; omega) rfl
  | n1 k g c x =>
    have hk := one_kk hok
    exact tu_no group pa w0 w (.n1 k g c x) hm h0 hcw (by intro e; have e : k = 4 := e; omega) (by intro e; have e : k = 5 := e; omega) rfl
  | n2 k g c x y =>
    have hx : x.w.ok futK mm := hok.2.2.1
    have hy : y.w.ok futK mm := hok.2.2.2
    by_cases h4 : k = 4
    · subst h4
      cases group
      · exact tu_four4 pa w0 w g c x y hm h0 hcw
      · rcases mt_two (show twoK 4 = true from rfl) x hx with ⟨ga, ca, p, q, rfl⟩ | ⟨ha, hak⟩
        · exact tu_one4 pa w0 w g c ga ca p q y hm h0 hcw
        · rcases mt_two (show twoK 4 = true from rfl) y hy with ⟨gb, cb, p, q, rfl⟩ | ⟨hb', hbk⟩
          · exact tu_two4 pa w0 w g c gb cb x p q hm h0 hcw ha hak
          · exact tu_three4 pa w0 w g c x y hm h0 hcw ha hak hb' hbk
    · by_cases h5 : k = 5
      · subst h5
        cases group
        · exact tu_four5 pa w0 w g c x y hm h0 hcw
        · rcases mt_two (show twoK 5 = true from rfl) x hx with ⟨ga, ca, p, q, rfl⟩ | ⟨ha, hak⟩
          · exact tu_one5 pa w0 w g c ga ca p q y hm h0 hcw
          · rcases mt_two (show twoK 5 = true from rfl) y hy with ⟨gb, cb, p, q, rfl⟩ | ⟨hb', hbk⟩
            · exact tu_two5 pa w0 w g c gb cb x p q hm h0 hcw ha hak
            · exact tu_three5 pa w0 w g c x y hm h0 hcw ha hak hb' hbk
      · refine tu_no group pa w0 w (.n2 k g c x y) hm h0 hcw h4 h5 ?_
        show (if k = 4 ∨ k = 5 then _ else none) = none
        rw [if_neg (by omega)]
end Go.Proofs.YtccknopchddicaaGreatDoor
/- contract: the change of FormTurned, and the law: it answers true. -/
namespace Go.Proofs.YtccknopchddicaaGreatDoor
open Go.RowKit Stile
set_option maxRecDepth 100000 in
set_option maxHeartbeats 800000 in
theorem tu_change {mm : Int} (group : Bool) (which : Int) (fv : Value) (f : List Nd) (pf pw : Addr) (p_group : Addr) (w : World) (hf : RdN w w.heap.size fv f) (hok : okF futK mm f) (hn0 : 0 < f.length) (hn : f.length ≤ 40) (hw0 : -9223372036854775808 ≤ which) (hw1 : which ≤ 9223372036854775807)
    (h1 : w.cell? pf = some fv) (h2 : w.cell? pw = some (.int .i64 which)) (h_group : w.cell? p_group = some (.bool group)) :
    Calls Tryz.prog 34 #[.pointer (some pf), .pointer (some pw), .pointer (some p_group)] w (SwapOut (swapR f which (tuRule group)) w) := by
  have hmf : ∀ (fn : Fn) (first cap : Array Value) (w : World), (Instr.makeFunc fn first cap).run Tryz.prog w = .ok (.func fn first cap) w := fun _ _ _ _ => rfl
  have hs := swap_any futK_any f fv which 35 #[.pointer (some p_group)] (tuRule group) w hf hok hn0 hn hw0 hw1 (fun _ _ => rfl) (tu_by_ok group p_group w h_group) (tu_size group)
  obtain ⟨fA, fc, rfl, _, _⟩ := id hf
  have l1 := lt_of_cell h1
  have l2 := lt_of_cell h2
  have HS := Lib.hid hs
  clear hs hf hok
  go_enter Tryz.func34, Tryz.ntmps34
  go_wp2_with fail
  refine HS.out.mono ?_
  rintro e w2 ⟨hb, gv, b, rfl, hx, hy⟩
  have HB := Lib.hid hb
  have HX := Lib.hid hx
  have HY := Lib.hid hy
  clear hb hx hy
  go_wp2_with fail
  go_ret2
  exact ⟨HB.out, _, _, rfl, HX.out, HY.out⟩
set_option maxRecDepth 100000 in
set_option maxHeartbeats 800000 in
theorem tu_law (L which : Int) (group : Bool) (fv lv : Value) (f : List Nd) (l : List Int) (w : World) (hf : RdN w w.heap.size fv f) (hl : RdI w w.heap.size lv l) (hg : ErrVar w) (hw0 : -9223372036854775808 ≤ which) (hw1 : which ≤ 9223372036854775807) :
    Calls Tryz.prog 10 #[.int .i64 L, fv, lv, .int .i64 which, .bool group] w (TrueB w) := by
  have hmf : ∀ (fn : Fn) (first cap : Array Value) (w : World), (Instr.makeFunc fn first cap).run Tryz.prog w = .ok (.func fn first cap) w := fun _ _ _ _ => rfl
  obtain ⟨fA, fc, rfl, _, _⟩ := id hf
  have H : ∀ W, Below w.heap.size w W → W.cell? ⟨w.heap.size, 0, none⟩ = some (.slice fA f.length fc) → W.cell? ⟨w.heap.size + 1, 0, none⟩ = some (.int .i64 which) → W.cell? ⟨w.heap.size + 2, 0, none⟩ = some (.bool group) →
      Calls Tryz.prog 12 #[.int .i64 L, .slice fA f.length fc, lv, .func (.func 34) #[] #[.pointer (some ⟨w.heap.size, 0, none⟩), .pointer (some ⟨w.heap.size + 1, 0, none⟩), .pointer (some ⟨w.heap.size + 2, 0, none⟩)]] W (TrueB W) := fun W hb c0 c1 c2 => by
    have hfW := Rd.mono (Rd.below hf hb) hb.size
    have hlW := Rd.mono (Rd.below hl hb) hb.size
    by_cases hbad : checkP L (setsOf L) f ≠ 0 ∨ wcheckP L l ≠ 0
    · exact wform_bad L _ lv f l W _ _ hfW hlW hbad
    · have hc : checkP L (setsOf L) f = 0 := by omega
      have hw : wcheckP L l = 0 := by omega
      obtain ⟨hL, hn0, hn, hok⟩ := checkP_ok.1 hc
      obtain ⟨n, rfl⟩ := Int.eq_ofNat_of_zero_le (show 0 ≤ L by omega)
      refine wform_ok n _ lv f l W _ _ (swapR f which (tuRule group)) hfW hlW (ErrVar.below hg hb) hc hw (fun _ _ => rfl) (fun W2 hb2 => ?_) (fun u hu => ?_)
      · exact tu_change group which _ f _ _ _ W2 (Rd.mono (Rd.below hfW hb2) hb2.size) hok hn0 hn hw0 hw1 ((hb2.cell (lt_of_cell c0)).trans c0) ((hb2.cell (lt_of_cell c1)).trans c1) ((hb2.cell (lt_of_cell c2)).trans c2)
      · obtain ⟨a1, a2⟩ := swapR_spec (D := fun _ => True) futK_any hok hn0 (fun t u h1 h2 => tu_spec group t u h1 h2) hu
        refine ⟨a1, fun x _ => ?_⟩
        rw [holds_eq _ f (fun i hi => ⟨futK_any _ (hok i hi).1, (hok i hi).2⟩) (by intro e; rw [e] at hn0; simp at hn0)]
        exact a2 x (fun _ _ => trivial)
  have HH := Lib.hid H
  obtain ⟨lA, lc, rfl, _, _⟩ := id hl
  clear H hf hl hg
  go_enter Tryz.func10, Tryz.ntmps10
  go_wp2_with fail
  obtain ⟨t0, t1, t2⟩ := three_new w (Obj.cells #[.slice fA f.length fc] 22) (Obj.cells #[.int .i64 which] 3) (Obj.cells #[.bool group] 4)
  have hb : Below w.heap.size w (((w.alloc (Obj.cells #[.slice fA f.length fc] 22)).alloc (Obj.cells #[.int .i64 which] 3)).alloc (Obj.cells #[.bool group] 4)) := ((((Below.refl _ _).alloc (Nat.le_refl _) _).alloc (by simp) _).alloc (by simp; omega) _)
  refine (HH.out _ hb (by rw [fld_cell t0]; rfl) (by rw [fld_cell t1]; rfl) (by rw [fld_cell t2]; rfl)).mono ?_
  rintro e w2 ⟨rfl, hb2⟩
  have HB := Lib.hid (hb.trans (hb2.mono hb.size))
  clear hb hb2 t0 t1 t2
  go_wp2_with fail
  go_ret
  exact ⟨rfl, HB.out⟩
end Go.Proofs.YtccknopchddicaaGreatDoor
