/- contract: the rule of FormDistributed, the part ahead. -/
import Derived.Test.YtccknopchddicaaGreatDoorMGl
set_option linter.unusedSimpArgs false
set_option linter.unusedVariables false
set_option linter.unnecessarySimpa false
namespace Go.Proofs.YtccknopchddicaaGreatDoor
open Go.RowKit Stile
set_option maxRecDepth 100000 in
set_option maxHeartbeats 3200000 in
theorem ds_one8  (w0 w : World) (g : Nat) (c : Nat) (ga : Nat) (ca : Nat) (p : Mt) (q : Mt) (b : Mt) (hx : (Mt.n2 8 g c (Mt.n2 4 ga ca p q) b).has w) (h0 : w0.heap.size ≤ w.heap.size) :
    Calls Tryz.prog 25 #[.agg #[.int .i64 8, .int .i64 0, .slice (some ⟨g, 0, none⟩) 2 c]] w (ByOut (dsRule) (Mt.n2 8 g c (Mt.n2 4 ga ca p q) b) w0 w) := by
  have hr : (dsRule) (Mt.n2 8 g c (Mt.n2 4 ga ca p q) b).w = some (W.n2 4 (W.n2 8 p.w b.w) (W.n2 8 q.w b.w)) := rfl
  have HX := Lib.hid hx
  have HR := Lib.hid hr
  have HZ := Lib.hid h0
  clear hx hr h0
  go_enter Tryz.func25, Tryz.ntmps25
  go_upto_region 11 with fail
  have hh : ByHead w ((w.alloc (Obj.cells #[.int .i64 8, .int .i64 0, .slice (some ⟨g, 0, none⟩) 2 c] 29)).alloc (Obj.cells #[.int .i64 0, .int .i64 0, .slice none 0 0] 29)) (Mt.n2 8 g c (Mt.n2 4 ga ca p q) b) := by_head w (Mt.n2 8 g c (Mt.n2 4 ga ca p q) b)
  obtain ⟨W2, hW2⟩ : ∃ W2, (w.alloc (Obj.cells #[.int .i64 8, .int .i64 0, .slice (some ⟨g, 0, none⟩) 2 c] 29)).alloc (Obj.cells #[.int .i64 0, .int .i64 0, .slice none 0 0] 29) = W2 := ⟨_, rfl⟩
  rw [hW2] at hh ⊢
  clear hW2
  have hs2 : w.heap.size + 2 ≤ W2.heap.size := lt_blk hh.res
  have hX2 : (Mt.n2 8 g c (Mt.n2 4 ga ca p q) b).has W2 := HX.out.below hh.below (fun g hg => HX.out.lt g hg)
  have hgl_g : g < w.heap.size := HX.out.lt g (by simp [Mt.blks])
  have hgl_ga : ga < w.heap.size := HX.out.lt ga (by simp [Mt.blks])
  obtain ⟨_, kaq0, kbq0, haq0, hbq0⟩ := id hX2
  obtain ⟨_, kaq1, kbq1, haq1, hbq1⟩ := id haq0
  have HS0 := Lib.hid (show AllS [(w.heap.size, 0, (Mt.n2 8 g c (Mt.n2 4 ga ca p q) b)), (g, 0, (Mt.n2 4 ga ca p q)), (g, 3, b)] W2 from ⟨box_kid hh.box, kid_at kaq0, kid_at kbq0, trivial⟩)
  have HHD := Lib.hid hh
  have HX2 := Lib.hid hX2
  clear hh hX2 haq0 haq1 hbq0 hbq1 kaq0 kaq1 kbq0 kbq1
  go_region_held3 (fun w' => ((w'.cell? ⟨w.heap.size, 0, none⟩ = some (.int .i64 8) ∧ w'.cell? ⟨w.heap.size, 1, none⟩ = some (.int .i64 0) ∧ w'.cell? ⟨w.heap.size, 2, none⟩ = some (.slice (some ⟨g, 0, none⟩) 2 c)) ∧ (w'.cell? ⟨g, 0, none⟩ = some (.int .i64 4) ∧ w'.cell? ⟨g, 1, none⟩ = some (.int .i64 0) ∧ w'.cell? ⟨g, 2, none⟩ = some (.slice (some ⟨ga, 0, none⟩) 2 ca)) ∧ (w'.cell? ⟨g, 3, none⟩ = some (.int .i64 b.kk) ∧ w'.cell? ⟨g, 4, none⟩ = some (.int .i64 b.ks) ∧ w'.cell? ⟨g, 5, none⟩ = some (.slice b.kA b.kids.length b.kc)) ∧ True)) (first | exact HS0.out.draw | exact HS0.out.up ((up_alloc _ _).drew) | exact (HS0.out.up (up_alloc _ _)).up ((up_alloc _ _).drew) | exact HS0.out | exact HS0.out.up (up_alloc _ _) | exact (HS0.out.up (up_alloc _ _)).up (up_alloc _ _)) (fail)
  · have hU : Below W2.heap.size W2 ((W2.alloc (Obj.cells #[.int .i64 4, .int .i64 0, .slice (some ⟨ga, 0, none⟩) 2 ca] 29)).alloc (Obj.cells #[.int .i64 b.kk, .int .i64 b.ks, .slice b.kA b.kids.length b.kc] 29)).drew := (((up_alloc W2 _).alloc (by simp) _).drew)
    have hbx0 : ((W2.alloc (Obj.cells #[.int .i64 4, .int .i64 0, .slice (some ⟨ga, 0, none⟩) 2 ca] 29)).alloc (Obj.cells #[.int .i64 b.kk, .int .i64 b.ks, .slice b.kA b.kids.length b.kc] 29)).drew.heap[W2.heap.size]? = some (mtObj1 (Mt.n2 4 ga ca p q)) := heap_old2 _ _ _
    have hbx1 : ((W2.alloc (Obj.cells #[.int .i64 4, .int .i64 0, .slice (some ⟨ga, 0, none⟩) 2 ca] 29)).alloc (Obj.cells #[.int .i64 b.kk, .int .i64 b.ks, .slice b.kA b.kids.length b.kc] 29)).drew.heap[(W2.heap.size + 1)]? = some (mtObj1 b) := heap_new2 _ _ _
    obtain ⟨W3, hW3⟩ : ∃ W3, ((W2.alloc (Obj.cells #[.int .i64 4, .int .i64 0, .slice (some ⟨ga, 0, none⟩) 2 ca] 29)).alloc (Obj.cells #[.int .i64 b.kk, .int .i64 b.ks, .slice b.kA b.kids.length b.kc] 29)).drew = W3 := ⟨_, rfl⟩
    rw [hW3] at hU hbx0 hbx1 ⊢
    clear hW3
    have hsz3 : W2.heap.size + 2 ≤ W3.heap.size := lt_blk hbx1
    have hh : ByHead w W3 (Mt.n2 8 g c (Mt.n2 4 ga ca p q) b) := HHD.out.made hU
    have hX3 : (Mt.n2 8 g c (Mt.n2 4 ga ca p q) b).has W3 := HX2.out.made hU
    obtain ⟨xf0, xf1, xf2⟩ : (W3.cell? ⟨w.heap.size, 0, none⟩ = some (.int .i64 8) ∧ W3.cell? ⟨w.heap.size, 1, none⟩ = some (.int .i64 0) ∧ W3.cell? ⟨w.heap.size, 2, none⟩ = some (.slice (some ⟨g, 0, none⟩) 2 c)) := box_kid hh.box
    obtain ⟨bf00, bf01, bf02⟩ : (W3.cell? ⟨W2.heap.size, 0, none⟩ = some (.int .i64 4) ∧ W3.cell? ⟨W2.heap.size, 1, none⟩ = some (.int .i64 0) ∧ W3.cell? ⟨W2.heap.size, 2, none⟩ = some (.slice (some ⟨ga, 0, none⟩) 2 ca)) := box_kid hbx0
    obtain ⟨bf10, bf11, bf12⟩ : (W3.cell? ⟨(W2.heap.size + 1), 0, none⟩ = some (.int .i64 b.kk) ∧ W3.cell? ⟨(W2.heap.size + 1), 1, none⟩ = some (.int .i64 b.ks) ∧ W3.cell? ⟨(W2.heap.size + 1), 2, none⟩ = some (.slice b.kA b.kids.length b.kc)) := box_kid hbx1
    have HHE := Lib.hid hh
    have HX3 := Lib.hid hX3
    have HBX0 := Lib.hid hbx0
    have HBX1 := Lib.hid hbx1
    clear hh hX3 hU HS0 HHD HX2 hbx0 hbx1
    go_upto_region 13 with fail
    have hh := HHE.out
    have hX2 := HX3.out
    have hbx0 := HBX0.out
    have hbx1 := HBX1.out
    clear xf0 xf1 xf2 bf00 bf01 bf02 bf10 bf11 bf12
    have hX5 : (Mt.n2 8 g c (Mt.n2 4 ga ca p q) b).has W3.drew := hX2.made (Below.refl _ _).drew
    have hH5 : ByHead w W3.drew (Mt.n2 8 g c (Mt.n2 4 ga ca p q) b) := hh.made (Below.refl _ _).drew
    obtain ⟨_, ka0, kb0, ha0, hb0⟩ := id hX5
    obtain ⟨_, ka1, kb1, ha1, hb1⟩ := id ha0
    have HS0 := Lib.hid (show AllS [(w.heap.size, 0, (Mt.n2 8 g c (Mt.n2 4 ga ca p q) b)), (W2.heap.size, 0, (Mt.n2 4 ga ca p q)), ((W2.heap.size + 1), 0, b), (ga, 0, p), (ga, 3, q)] W3.drew from ⟨box_kid hH5.box, (box_kid hbx0).draw, (box_kid hbx1).draw, kid_at ka1, kid_at kb1, trivial⟩)
    have HH_0 := Lib.hid ha1
    have HH_1 := Lib.hid hb0
    have HH_2 := Lib.hid hb1
    have HH5 := Lib.hid hH5
    clear hh hX2 hX5 hH5 ha0 ha1 hb0 hb1 ka0 ka1 kb0 kb1 hbx0 hbx1
    have hsb : W3.heap.size ≤ W3.drew.heap.size := Nat.le_refl _
    have t1 : True := trivial
    have t2 : True := trivial
    have t3 : True := trivial
    have t4 : True := trivial
    go_region_held3 (fun w' => ((w'.cell? ⟨w.heap.size, 0, none⟩ = some (.int .i64 8) ∧ w'.cell? ⟨w.heap.size, 1, none⟩ = some (.int .i64 0) ∧ w'.cell? ⟨w.heap.size, 2, none⟩ = some (.slice (some ⟨g, 0, none⟩) 2 c)) ∧ (w'.cell? ⟨W2.heap.size, 0, none⟩ = some (.int .i64 4) ∧ w'.cell? ⟨W2.heap.size, 1, none⟩ = some (.int .i64 0) ∧ w'.cell? ⟨W2.heap.size, 2, none⟩ = some (.slice (some ⟨ga, 0, none⟩) 2 ca)) ∧ (w'.cell? ⟨(W2.heap.size + 1), 0, none⟩ = some (.int .i64 b.kk) ∧ w'.cell? ⟨(W2.heap.size + 1), 1, none⟩ = some (.int .i64 b.ks) ∧ w'.cell? ⟨(W2.heap.size + 1), 2, none⟩ = some (.slice b.kA b.kids.length b.kc)) ∧ (w'.cell? ⟨ga, 0, none⟩ = some (.int .i64 p.kk) ∧ w'.cell? ⟨ga, 1, none⟩ = some (.int .i64 p.ks) ∧ w'.cell? ⟨ga, 2, none⟩ = some (.slice p.kA p.kids.length p.kc)) ∧ (w'.cell? ⟨ga, 3, none⟩ = some (.int .i64 q.kk) ∧ w'.cell? ⟨ga, 4, none⟩ = some (.int .i64 q.ks) ∧ w'.cell? ⟨ga, 5, none⟩ = some (.slice q.kA q.kids.length q.kc)) ∧ True)) (first | exact HS0.out | exact HS0.out.up (up_alloc _ _) | exact HS1.out | exact HS1.out.up (up_alloc _ _) | exact HS2.out | exact HS2.out.up (up_alloc _ _) | exact HS3.out | exact HS3.out.up (up_alloc _ _) | exact HS4.out | exact AllS.set3 _ _ _ HS4.out ⟨by omega, by omega, by omega, by omega, by omega, trivial⟩) (first
          | (have _t := t1; go_at_call 16; refine Calls.mono (wmake_any _ _ _ _ _) ?_; rintro e e1 ⟨rfl, hp1⟩; have hb1 : Below (W3.drew.alloc (mtObj2 p b)).heap.size (W3.drew.alloc (mtObj2 p b)) e1 := hp1; have HB1 := Lib.hid hb1; have HU1 := Lib.hid (up_call hb1); have HS1 := Lib.hid (HS0.out.up (up_call hb1)); clear hb1 hp1 t1)
          | (have _t := t2; go_at_call 17; refine Calls.mono (copy_out b _ (HH_1.out.made HU1.out)) ?_; rintro e e2 ⟨cm2, rfl, hc2⟩; have HC2 := Lib.hid hc2; have HB2 := Lib.hid hc2.2.2.2; have HU2 := Lib.hid (up_trans HU1.out hc2.2.2.2); have HS2 := Lib.hid (HS1.out.up hc2.2.2.2); clear hc2 t2)
          | (have _t := t3; go_at_call 16; refine Calls.mono (wmake_any _ _ _ _ _) ?_; rintro e e3 ⟨rfl, hp3⟩; have hb3 : Below (e2.alloc (mtObj2 q cm2)).heap.size (e2.alloc (mtObj2 q cm2)) e3 := hp3; have HB3 := Lib.hid hb3; have HU3 := Lib.hid (up_trans HU2.out (up_call hb3)); have HS3 := Lib.hid (HS2.out.up (up_call hb3)); clear hb3 hp3 t3)
          | (have _t := t4; go_at_call 16; refine Calls.mono (wmake_any _ _ _ _ _) ?_; rintro e e4 ⟨rfl, hp4⟩; have hb4 : Below (e3.alloc (mtObj2 (Mt.n2 8 W3.drew.heap.size 2 p b) (Mt.n2 8 e2.heap.size 2 q cm2))).heap.size (e3.alloc (mtObj2 (Mt.n2 8 W3.drew.heap.size 2 p b) (Mt.n2 8 e2.heap.size 2 q cm2))) e4 := hp4; have HB4 := Lib.hid hb4; have HU4 := Lib.hid (up_trans HU3.out (up_call hb4)); have HS4 := Lib.hid (HS3.out.up (up_call hb4)); obtain ⟨⟨y0, y1, y2⟩, z0, z1, z2, zl⟩ := res_at (HH5.out.made HU4.out).res; clear hb4 hp4 t4))
    all_goals
      go_wp2_with fail
      have hsz_0 : w.heap.size + 2 ≤ W3.drew.heap.size := by omega
      have s1 : Below W3.drew.heap.size W3.drew e1 := up_call HB1.out
      have u1 : Below W3.drew.heap.size W3.drew e1 := s1
      have hsz_1 : w.heap.size + 2 ≤ e1.heap.size := Nat.le_trans hsz_0 u1.size
      have s2 : Below e1.heap.size e1 e2 := HB2.out
      have u2 : Below W3.drew.heap.size W3.drew e2 := up_trans u1 s2
      have hsz_2 : w.heap.size + 2 ≤ e2.heap.size := Nat.le_trans hsz_0 u2.size
      have s3 : Below e2.heap.size e2 e3 := up_call HB3.out
      have u3 : Below W3.drew.heap.size W3.drew e3 := up_trans u2 s3
      have hsz_3 : w.heap.size + 2 ≤ e3.heap.size := Nat.le_trans hsz_0 u3.size
      have s4 : Below e3.heap.size e3 e4 := up_call HB4.out
      have u4 : Below W3.drew.heap.size W3.drew e4 := up_trans u3 s4
      have hsz_4 : w.heap.size + 2 ≤ e4.heap.size := Nat.le_trans hsz_0 u4.size
      have m1 : (Mt.n2 8 W3.drew.heap.size 2 p b).has e1 := mk2_has (W := W3.drew) 8 HH_0.out HH_1.out (up_next HB1.out)
      have f1 : Fr (Mt.n2 8 g c (Mt.n2 4 ga ca p q) b) (w.heap.size + 2) w0.heap.size (Mt.n2 8 W3.drew.heap.size 2 p b) := Fr.n2 hsz_0 (Fr.kid (Fr.kid (Fr.self _ _ _) (z := (Mt.n2 4 ga ca p q)) (by simp [Mt.kids])) (z := p) (by simp [Mt.kids])) (Fr.kid (Fr.self _ _ _) (z := b) (by simp [Mt.kids]))
      obtain ⟨c2a, c2b, c2c, c2d⟩ := HC2.out
      have m3 : (Mt.n2 8 e2.heap.size 2 q cm2).has e3 := mk2_has (W := e2) 8 (HH_2.out.made u2) c2b (up_next HB3.out)
      have f3 : Fr (Mt.n2 8 g c (Mt.n2 4 ga ca p q) b) (w.heap.size + 2) w0.heap.size (Mt.n2 8 e2.heap.size 2 q cm2) := Fr.n2 hsz_2 (Fr.kid (Fr.kid (Fr.self _ _ _) (z := (Mt.n2 4 ga ca p q)) (by simp [Mt.kids])) (z := q) (by simp [Mt.kids])) (Fr.new c2c hsz_1)
      have m4 : (Mt.n2 4 e3.heap.size 2 (Mt.n2 8 W3.drew.heap.size 2 p b) (Mt.n2 8 e2.heap.size 2 q cm2)).has e4 := mk2_has (W := e3) 4 (m1.made (up_trans (s2) s3)) m3 (up_next HB4.out)
      have f4 : Fr (Mt.n2 8 g c (Mt.n2 4 ga ca p q) b) (w.heap.size + 2) w0.heap.size (Mt.n2 4 e3.heap.size 2 (Mt.n2 8 W3.drew.heap.size 2 p b) (Mt.n2 8 e2.heap.size 2 q cm2)) := Fr.n2 hsz_3 f1 f3
      have ub : Below w.heap.size w e4 := HH5.out.below.trans (u4.mono (by omega))
      refine bodyPost_ret (v := .tuple #[(Mt.n2 4 e3.heap.size 2 (Mt.n2 8 W3.drew.heap.size 2 p b) (Mt.n2 8 e2.heap.size 2 q cm2)).val, .bool true]) (by simp [results, Tryz.results25, go_sem, y0, y1, y2]; rfl) rfl (by_fr HR.out HX.out HZ.out m4 (by simp only [Mt.w, c2a]) ub f4)
  · have hU : Below W2.heap.size W2 ((W2.alloc (Obj.cells #[.int .i64 b.kk, .int .i64 b.ks, .slice b.kA b.kids.length b.kc] 29)).alloc (Obj.cells #[.int .i64 4, .int .i64 0, .slice (some ⟨ga, 0, none⟩) 2 ca] 29)).drew := (((up_alloc W2 _).alloc (by simp) _).drew)
    have hbx0 : ((W2.alloc (Obj.cells #[.int .i64 b.kk, .int .i64 b.ks, .slice b.kA b.kids.length b.kc] 29)).alloc (Obj.cells #[.int .i64 4, .int .i64 0, .slice (some ⟨ga, 0, none⟩) 2 ca] 29)).drew.heap[W2.heap.size]? = some (mtObj1 b) := heap_old2 _ _ _
    have hbx1 : ((W2.alloc (Obj.cells #[.int .i64 b.kk, .int .i64 b.ks, .slice b.kA b.kids.length b.kc] 29)).alloc (Obj.cells #[.int .i64 4, .int .i64 0, .slice (some ⟨ga, 0, none⟩) 2 ca] 29)).drew.heap[(W2.heap.size + 1)]? = some (mtObj1 (Mt.n2 4 ga ca p q)) := heap_new2 _ _ _
    obtain ⟨W3, hW3⟩ : ∃ W3, ((W2.alloc (Obj.cells #[.int .i64 b.kk, .int .i64 b.ks, .slice b.kA b.kids.length b.kc] 29)).alloc (Obj.cells #[.int .i64 4, .int .i64 0, .slice (some ⟨ga, 0, none⟩) 2 ca] 29)).drew = W3 := ⟨_, rfl⟩
    rw [hW3] at hU hbx0 hbx1 ⊢
    clear hW3
    have hsz3 : W2.heap.size + 2 ≤ W3.heap.size := lt_blk hbx1
    have hh : ByHead w W3 (Mt.n2 8 g c (Mt.n2 4 ga ca p q) b) := HHD.out.made hU
    have hX3 : (Mt.n2 8 g c (Mt.n2 4 ga ca p q) b).has W3 := HX2.out.made hU
    obtain ⟨xf0, xf1, xf2⟩ : (W3.cell? ⟨w.heap.size, 0, none⟩ = some (.int .i64 8) ∧ W3.cell? ⟨w.heap.size, 1, none⟩ = some (.int .i64 0) ∧ W3.cell? ⟨w.heap.size, 2, none⟩ = some (.slice (some ⟨g, 0, none⟩) 2 c)) := box_kid hh.box
    obtain ⟨bf00, bf01, bf02⟩ : (W3.cell? ⟨W2.heap.size, 0, none⟩ = some (.int .i64 b.kk) ∧ W3.cell? ⟨W2.heap.size, 1, none⟩ = some (.int .i64 b.ks) ∧ W3.cell? ⟨W2.heap.size, 2, none⟩ = some (.slice b.kA b.kids.length b.kc)) := box_kid hbx0
    obtain ⟨bf10, bf11, bf12⟩ : (W3.cell? ⟨(W2.heap.size + 1), 0, none⟩ = some (.int .i64 4) ∧ W3.cell? ⟨(W2.heap.size + 1), 1, none⟩ = some (.int .i64 0) ∧ W3.cell? ⟨(W2.heap.size + 1), 2, none⟩ = some (.slice (some ⟨ga, 0, none⟩) 2 ca)) := box_kid hbx1
    have HHE := Lib.hid hh
    have HX3 := Lib.hid hX3
    have HBX0 := Lib.hid hbx0
    have HBX1 := Lib.hid hbx1
    clear hh hX3 hU HS0 HHD HX2 hbx0 hbx1
    go_upto_region 13 with fail
    have hh := HHE.out
    have hX2 := HX3.out
    have hbx0 := HBX0.out
    have hbx1 := HBX1.out
    clear xf0 xf1 xf2 bf00 bf01 bf02 bf10 bf11 bf12
    have hX5 : (Mt.n2 8 g c (Mt.n2 4 ga ca p q) b).has W3.drew := hX2.made (Below.refl _ _).drew
    have hH5 : ByHead w W3.drew (Mt.n2 8 g c (Mt.n2 4 ga ca p q) b) := hh.made (Below.refl _ _).drew
    obtain ⟨_, ka0, kb0, ha0, hb0⟩ := id hX5
    obtain ⟨_, ka1, kb1, ha1, hb1⟩ := id ha0
    have HS0 := Lib.hid (show AllS [(w.heap.size, 0, (Mt.n2 8 g c (Mt.n2 4 ga ca p q) b)), (W2.heap.size, 0, b), ((W2.heap.size + 1), 0, (Mt.n2 4 ga ca p q)), (ga, 0, p), (ga, 3, q)] W3.drew from ⟨box_kid hH5.box, (box_kid hbx0).draw, (box_kid hbx1).draw, kid_at ka1, kid_at kb1, trivial⟩)
    have HH_0 := Lib.hid ha1
    have HH_1 := Lib.hid hb0
    have HH_2 := Lib.hid hb1
    have HH5 := Lib.hid hH5
    clear hh hX2 hX5 hH5 ha0 ha1 hb0 hb1 ka0 ka1 kb0 kb1 hbx0 hbx1
    have hsb : W3.heap.size ≤ W3.drew.heap.size := Nat.le_refl _
    have t1 : True := trivial
    have t2 : True := trivial
    have t3 : True := trivial
    have t4 : True := trivial
    go_region_held3 (fun w' => ((w'.cell? ⟨w.heap.size, 0, none⟩ = some (.int .i64 8) ∧ w'.cell? ⟨w.heap.size, 1, none⟩ = some (.int .i64 0) ∧ w'.cell? ⟨w.heap.size, 2, none⟩ = some (.slice (some ⟨g, 0, none⟩) 2 c)) ∧ (w'.cell? ⟨W2.heap.size, 0, none⟩ = some (.int .i64 b.kk) ∧ w'.cell? ⟨W2.heap.size, 1, none⟩ = some (.int .i64 b.ks) ∧ w'.cell? ⟨W2.heap.size, 2, none⟩ = some (.slice b.kA b.kids.length b.kc)) ∧ (w'.cell? ⟨(W2.heap.size + 1), 0, none⟩ = some (.int .i64 4) ∧ w'.cell? ⟨(W2.heap.size + 1), 1, none⟩ = some (.int .i64 0) ∧ w'.cell? ⟨(W2.heap.size + 1), 2, none⟩ = some (.slice (some ⟨ga, 0, none⟩) 2 ca)) ∧ (w'.cell? ⟨ga, 0, none⟩ = some (.int .i64 p.kk) ∧ w'.cell? ⟨ga, 1, none⟩ = some (.int .i64 p.ks) ∧ w'.cell? ⟨ga, 2, none⟩ = some (.slice p.kA p.kids.length p.kc)) ∧ (w'.cell? ⟨ga, 3, none⟩ = some (.int .i64 q.kk) ∧ w'.cell? ⟨ga, 4, none⟩ = some (.int .i64 q.ks) ∧ w'.cell? ⟨ga, 5, none⟩ = some (.slice q.kA q.kids.length q.kc)) ∧ True)) (first | exact HS0.out | exact HS0.out.up (up_alloc _ _) | exact HS1.out | exact HS1.out.up (up_alloc _ _) | exact HS2.out | exact HS2.out.up (up_alloc _ _) | exact HS3.out | exact HS3.out.up (up_alloc _ _) | exact HS4.out | exact AllS.set3 _ _ _ HS4.out ⟨by omega, by omega, by omega, by omega, by omega, trivial⟩) (first
          | (have _t := t1; go_at_call 16; refine Calls.mono (wmake_any _ _ _ _ _) ?_; rintro e e1 ⟨rfl, hp1⟩; have hb1 : Below (W3.drew.alloc (mtObj2 p b)).heap.size (W3.drew.alloc (mtObj2 p b)) e1 := hp1; have HB1 := Lib.hid hb1; have HU1 := Lib.hid (up_call hb1); have HS1 := Lib.hid (HS0.out.up (up_call hb1)); clear hb1 hp1 t1)
          | (have _t := t2; go_at_call 17; refine Calls.mono (copy_out b _ (HH_1.out.made HU1.out)) ?_; rintro e e2 ⟨cm2, rfl, hc2⟩; have HC2 := Lib.hid hc2; have HB2 := Lib.hid hc2.2.2.2; have HU2 := Lib.hid (up_trans HU1.out hc2.2.2.2); have HS2 := Lib.hid (HS1.out.up hc2.2.2.2); clear hc2 t2)
          | (have _t := t3; go_at_call 16; refine Calls.mono (wmake_any _ _ _ _ _) ?_; rintro e e3 ⟨rfl, hp3⟩; have hb3 : Below (e2.alloc (mtObj2 q cm2)).heap.size (e2.alloc (mtObj2 q cm2)) e3 := hp3; have HB3 := Lib.hid hb3; have HU3 := Lib.hid (up_trans HU2.out (up_call hb3)); have HS3 := Lib.hid (HS2.out.up (up_call hb3)); clear hb3 hp3 t3)
          | (have _t := t4; go_at_call 16; refine Calls.mono (wmake_any _ _ _ _ _) ?_; rintro e e4 ⟨rfl, hp4⟩; have hb4 : Below (e3.alloc (mtObj2 (Mt.n2 8 W3.drew.heap.size 2 p b) (Mt.n2 8 e2.heap.size 2 q cm2))).heap.size (e3.alloc (mtObj2 (Mt.n2 8 W3.drew.heap.size 2 p b) (Mt.n2 8 e2.heap.size 2 q cm2))) e4 := hp4; have HB4 := Lib.hid hb4; have HU4 := Lib.hid (up_trans HU3.out (up_call hb4)); have HS4 := Lib.hid (HS3.out.up (up_call hb4)); obtain ⟨⟨y0, y1, y2⟩, z0, z1, z2, zl⟩ := res_at (HH5.out.made HU4.out).res; clear hb4 hp4 t4))
    all_goals
      go_wp2_with fail
      have hsz_0 : w.heap.size + 2 ≤ W3.drew.heap.size := by omega
      have s1 : Below W3.drew.heap.size W3.drew e1 := up_call HB1.out
      have u1 : Below W3.drew.heap.size W3.drew e1 := s1
      have hsz_1 : w.heap.size + 2 ≤ e1.heap.size := Nat.le_trans hsz_0 u1.size
      have s2 : Below e1.heap.size e1 e2 := HB2.out
      have u2 : Below W3.drew.heap.size W3.drew e2 := up_trans u1 s2
      have hsz_2 : w.heap.size + 2 ≤ e2.heap.size := Nat.le_trans hsz_0 u2.size
      have s3 : Below e2.heap.size e2 e3 := up_call HB3.out
      have u3 : Below W3.drew.heap.size W3.drew e3 := up_trans u2 s3
      have hsz_3 : w.heap.size + 2 ≤ e3.heap.size := Nat.le_trans hsz_0 u3.size
      have s4 : Below e3.heap.size e3 e4 := up_call HB4.out
      have u4 : Below W3.drew.heap.size W3.drew e4 := up_trans u3 s4
      have hsz_4 : w.heap.size + 2 ≤ e4.heap.size := Nat.le_trans hsz_0 u4.size
      have m1 : (Mt.n2 8 W3.drew.heap.size 2 p b).has e1 := mk2_has (W := W3.drew) 8 HH_0.out HH_1.out (up_next HB1.out)
      have f1 : Fr (Mt.n2 8 g c (Mt.n2 4 ga ca p q) b) (w.heap.size + 2) w0.heap.size (Mt.n2 8 W3.drew.heap.size 2 p b) := Fr.n2 hsz_0 (Fr.kid (Fr.kid (Fr.self _ _ _) (z := (Mt.n2 4 ga ca p q)) (by simp [Mt.kids])) (z := p) (by simp [Mt.kids])) (Fr.kid (Fr.self _ _ _) (z := b) (by simp [Mt.kids]))
      obtain ⟨c2a, c2b, c2c, c2d⟩ := HC2.out
      have m3 : (Mt.n2 8 e2.heap.size 2 q cm2).has e3 := mk2_has (W := e2) 8 (HH_2.out.made u2) c2b (up_next HB3.out)
      have f3 : Fr (Mt.n2 8 g c (Mt.n2 4 ga ca p q) b) (w.heap.size + 2) w0.heap.size (Mt.n2 8 e2.heap.size 2 q cm2) := Fr.n2 hsz_2 (Fr.kid (Fr.kid (Fr.self _ _ _) (z := (Mt.n2 4 ga ca p q)) (by simp [Mt.kids])) (z := q) (by simp [Mt.kids])) (Fr.new c2c hsz_1)
      have m4 : (Mt.n2 4 e3.heap.size 2 (Mt.n2 8 W3.drew.heap.size 2 p b) (Mt.n2 8 e2.heap.size 2 q cm2)).has e4 := mk2_has (W := e3) 4 (m1.made (up_trans (s2) s3)) m3 (up_next HB4.out)
      have f4 : Fr (Mt.n2 8 g c (Mt.n2 4 ga ca p q) b) (w.heap.size + 2) w0.heap.size (Mt.n2 4 e3.heap.size 2 (Mt.n2 8 W3.drew.heap.size 2 p b) (Mt.n2 8 e2.heap.size 2 q cm2)) := Fr.n2 hsz_3 f1 f3
      have ub : Below w.heap.size w e4 := HH5.out.below.trans (u4.mono (by omega))
      refine bodyPost_ret (v := .tuple #[(Mt.n2 4 e3.heap.size 2 (Mt.n2 8 W3.drew.heap.size 2 p b) (Mt.n2 8 e2.heap.size 2 q cm2)).val, .bool true]) (by simp [results, Tryz.results25, go_sem, y0, y1, y2]; rfl) rfl (by_fr HR.out HX.out HZ.out m4 (by simp only [Mt.w, c2a]) ub f4)
set_option maxRecDepth 100000 in
set_option maxHeartbeats 3200000 in
theorem ds_one9  (w0 w : World) (g : Nat) (c : Nat) (ga : Nat) (ca : Nat) (p : Mt) (q : Mt) (b : Mt) (hx : (Mt.n2 9 g c (Mt.n2 5 ga ca p q) b).has w) (h0 : w0.heap.size ≤ w.heap.size) :
    Calls Tryz.prog 25 #[.agg #[.int .i64 9, .int .i64 0, .slice (some ⟨g, 0, none⟩) 2 c]] w (ByOut (dsRule) (Mt.n2 9 g c (Mt.n2 5 ga ca p q) b) w0 w) := by
  have hr : (dsRule) (Mt.n2 9 g c (Mt.n2 5 ga ca p q) b).w = some (W.n2 5 (W.n2 9 p.w b.w) (W.n2 9 q.w b.w)) := rfl
  have HX := Lib.hid hx
  have HR := Lib.hid hr
  have HZ := Lib.hid h0
  clear hx hr h0
  go_enter Tryz.func25, Tryz.ntmps25
  go_upto_region 11 with fail
  have hh : ByHead w ((w.alloc (Obj.cells #[.int .i64 9, .int .i64 0, .slice (some ⟨g, 0, none⟩) 2 c] 29)).alloc (Obj.cells #[.int .i64 0, .int .i64 0, .slice none 0 0] 29)) (Mt.n2 9 g c (Mt.n2 5 ga ca p q) b) := by_head w (Mt.n2 9 g c (Mt.n2 5 ga ca p q) b)
  obtain ⟨W2, hW2⟩ : ∃ W2, (w.alloc (Obj.cells #[.int .i64 9, .int .i64 0, .slice (some ⟨g, 0, none⟩) 2 c] 29)).alloc (Obj.cells #[.int .i64 0, .int .i64 0, .slice none 0 0] 29) = W2 := ⟨_, rfl⟩
  rw [hW2] at hh ⊢
  clear hW2
  have hs2 : w.heap.size + 2 ≤ W2.heap.size := lt_blk hh.res
  have hX2 : (Mt.n2 9 g c (Mt.n2 5 ga ca p q) b).has W2 := HX.out.below hh.below (fun g hg => HX.out.lt g hg)
  have hgl_g : g < w.heap.size := HX.out.lt g (by simp [Mt.blks])
  have hgl_ga : ga < w.heap.size := HX.out.lt ga (by simp [Mt.blks])
  obtain ⟨_, kaq0, kbq0, haq0, hbq0⟩ := id hX2
  obtain ⟨_, kaq1, kbq1, haq1, hbq1⟩ := id haq0
  have HS0 := Lib.hid (show AllS [(w.heap.size, 0, (Mt.n2 9 g c (Mt.n2 5 ga ca p q) b)), (g, 0, (Mt.n2 5 ga ca p q)), (g, 3, b)] W2 from ⟨box_kid hh.box, kid_at kaq0, kid_at kbq0, trivial⟩)
  have HHD := Lib.hid hh
  have HX2 := Lib.hid hX2
  clear hh hX2 haq0 haq1 hbq0 hbq1 kaq0 kaq1 kbq0 kbq1
  go_region_held3 (fun w' => ((w'.cell? ⟨w.heap.size, 0, none⟩ = some (.int .i64 9) ∧ w'.cell? ⟨w.heap.size, 1, none⟩ = some (.int .i64 0) ∧ w'.cell? ⟨w.heap.size, 2, none⟩ = some (.slice (some ⟨g, 0, none⟩) 2 c)) ∧ (w'.cell? ⟨g, 0, none⟩ = some (.int .i64 5) ∧ w'.cell? ⟨g, 1, none⟩ = some (.int .i64 0) ∧ w'.cell? ⟨g, 2, none⟩ = some (.slice (some ⟨ga, 0, none⟩) 2 ca)) ∧ (w'.cell? ⟨g, 3, none⟩ = some (.int .i64 b.kk) ∧ w'.cell? ⟨g, 4, none⟩ = some (.int .i64 b.ks) ∧ w'.cell? ⟨g, 5, none⟩ = some (.slice b.kA b.kids.length b.kc)) ∧ True)) (first | exact HS0.out.draw | exact HS0.out.up ((up_alloc _ _).drew) | exact (HS0.out.up (up_alloc _ _)).up ((up_alloc _ _).drew) | exact HS0.out | exact HS0.out.up (up_alloc _ _) | exact (HS0.out.up (up_alloc _ _)).up (up_alloc _ _)) (fail)
  · have hU : Below W2.heap.size W2 ((W2.alloc (Obj.cells #[.int .i64 5, .int .i64 0, .slice (some ⟨ga, 0, none⟩) 2 ca] 29)).alloc (Obj.cells #[.int .i64 b.kk, .int .i64 b.ks, .slice b.kA b.kids.length b.kc] 29)).drew := (((up_alloc W2 _).alloc (by simp) _).drew)
    have hbx0 : ((W2.alloc (Obj.cells #[.int .i64 5, .int .i64 0, .slice (some ⟨ga, 0, none⟩) 2 ca] 29)).alloc (Obj.cells #[.int .i64 b.kk, .int .i64 b.ks, .slice b.kA b.kids.length b.kc] 29)).drew.heap[W2.heap.size]? = some (mtObj1 (Mt.n2 5 ga ca p q)) := heap_old2 _ _ _
    have hbx1 : ((W2.alloc (Obj.cells #[.int .i64 5, .int .i64 0, .slice (some ⟨ga, 0, none⟩) 2 ca] 29)).alloc (Obj.cells #[.int .i64 b.kk, .int .i64 b.ks, .slice b.kA b.kids.length b.kc] 29)).drew.heap[(W2.heap.size + 1)]? = some (mtObj1 b) := heap_new2 _ _ _
    obtain ⟨W3, hW3⟩ : ∃ W3, ((W2.alloc (Obj.cells #[.int .i64 5, .int .i64 0, .slice (some ⟨ga, 0, none⟩) 2 ca] 29)).alloc (Obj.cells #[.int .i64 b.kk, .int .i64 b.ks, .slice b.kA b.kids.length b.kc] 29)).drew = W3 := ⟨_, rfl⟩
    rw [hW3] at hU hbx0 hbx1 ⊢
    clear hW3
    have hsz3 : W2.heap.size + 2 ≤ W3.heap.size := lt_blk hbx1
    have hh : ByHead w W3 (Mt.n2 9 g c (Mt.n2 5 ga ca p q) b) := HHD.out.made hU
    have hX3 : (Mt.n2 9 g c (Mt.n2 5 ga ca p q) b).has W3 := HX2.out.made hU
    obtain ⟨xf0, xf1, xf2⟩ : (W3.cell? ⟨w.heap.size, 0, none⟩ = some (.int .i64 9) ∧ W3.cell? ⟨w.heap.size, 1, none⟩ = some (.int .i64 0) ∧ W3.cell? ⟨w.heap.size, 2, none⟩ = some (.slice (some ⟨g, 0, none⟩) 2 c)) := box_kid hh.box
    obtain ⟨bf00, bf01, bf02⟩ : (W3.cell? ⟨W2.heap.size, 0, none⟩ = some (.int .i64 5) ∧ W3.cell? ⟨W2.heap.size, 1, none⟩ = some (.int .i64 0) ∧ W3.cell? ⟨W2.heap.size, 2, none⟩ = some (.slice (some ⟨ga, 0, none⟩) 2 ca)) := box_kid hbx0
    obtain ⟨bf10, bf11, bf12⟩ : (W3.cell? ⟨(W2.heap.size + 1), 0, none⟩ = some (.int .i64 b.kk) ∧ W3.cell? ⟨(W2.heap.size + 1), 1, none⟩ = some (.int .i64 b.ks) ∧ W3.cell? ⟨(W2.heap.size + 1), 2, none⟩ = some (.slice b.kA b.kids.length b.kc)) := box_kid hbx1
    have HHE := Lib.hid hh
    have HX3 := Lib.hid hX3
    have HBX0 := Lib.hid hbx0
    have HBX1 := Lib.hid hbx1
    clear hh hX3 hU HS0 HHD HX2 hbx0 hbx1
    go_upto_region 13 with fail
    have hh := HHE.out
    have hX2 := HX3.out
    have hbx0 := HBX0.out
    have hbx1 := HBX1.out
    clear xf0 xf1 xf2 bf00 bf01 bf02 bf10 bf11 bf12
    have hX5 : (Mt.n2 9 g c (Mt.n2 5 ga ca p q) b).has W3.drew := hX2.made (Below.refl _ _).drew
    have hH5 : ByHead w W3.drew (Mt.n2 9 g c (Mt.n2 5 ga ca p q) b) := hh.made (Below.refl _ _).drew
    obtain ⟨_, ka0, kb0, ha0, hb0⟩ := id hX5
    obtain ⟨_, ka1, kb1, ha1, hb1⟩ := id ha0
    have HS0 := Lib.hid (show AllS [(w.heap.size, 0, (Mt.n2 9 g c (Mt.n2 5 ga ca p q) b)), (W2.heap.size, 0, (Mt.n2 5 ga ca p q)), ((W2.heap.size + 1), 0, b), (ga, 0, p), (ga, 3, q)] W3.drew from ⟨box_kid hH5.box, (box_kid hbx0).draw, (box_kid hbx1).draw, kid_at ka1, kid_at kb1, trivial⟩)
    have HH_0 := Lib.hid ha1
    have HH_1 := Lib.hid hb0
    have HH_2 := Lib.hid hb1
    have HH5 := Lib.hid hH5
    clear hh hX2 hX5 hH5 ha0 ha1 hb0 hb1 ka0 ka1 kb0 kb1 hbx0 hbx1
    have hsb : W3.heap.size ≤ W3.drew.heap.size := Nat.le_refl _
    have t1 : True := trivial
    have t2 : True := trivial
    have t3 : True := trivial
    have t4 : True := trivial
    go_region_held3 (fun w' => ((w'.cell? ⟨w.heap.size, 0, none⟩ = some (.int .i64 9) ∧ w'.cell? ⟨w.heap.size, 1, none⟩ = some (.int .i64 0) ∧ w'.cell? ⟨w.heap.size, 2, none⟩ = some (.slice (some ⟨g, 0, none⟩) 2 c)) ∧ (w'.cell? ⟨W2.heap.size, 0, none⟩ = some (.int .i64 5) ∧ w'.cell? ⟨W2.heap.size, 1, none⟩ = some (.int .i64 0) ∧ w'.cell? ⟨W2.heap.size, 2, none⟩ = some (.slice (some ⟨ga, 0, none⟩) 2 ca)) ∧ (w'.cell? ⟨(W2.heap.size + 1), 0, none⟩ = some (.int .i64 b.kk) ∧ w'.cell? ⟨(W2.heap.size + 1), 1, none⟩ = some (.int .i64 b.ks) ∧ w'.cell? ⟨(W2.heap.size + 1), 2, none⟩ = some (.slice b.kA b.kids.length b.kc)) ∧ (w'.cell? ⟨ga, 0, none⟩ = some (.int .i64 p.kk) ∧ w'.cell? ⟨ga, 1, none⟩ = some (.int .i64 p.ks) ∧ w'.cell? ⟨ga, 2, none⟩ = some (.slice p.kA p.kids.length p.kc)) ∧ (w'.cell? ⟨ga, 3, none⟩ = some (.int .i64 q.kk) ∧ w'.cell? ⟨ga, 4, none⟩ = some (.int .i64 q.ks) ∧ w'.cell? ⟨ga, 5, none⟩ = some (.slice q.kA q.kids.length q.kc)) ∧ True)) (first | exact HS0.out | exact HS0.out.up (up_alloc _ _) | exact HS1.out | exact HS1.out.up (up_alloc _ _) | exact HS2.out | exact HS2.out.up (up_alloc _ _) | exact HS3.out | exact HS3.out.up (up_alloc _ _) | exact HS4.out | exact AllS.set3 _ _ _ HS4.out ⟨by omega, by omega, by omega, by omega, by omega, trivial⟩) (first
          | (have _t := t1; go_at_call 16; refine Calls.mono (wmake_any _ _ _ _ _) ?_; rintro e e1 ⟨rfl, hp1⟩; have hb1 : Below (W3.drew.alloc (mtObj2 p b)).heap.size (W3.drew.alloc (mtObj2 p b)) e1 := hp1; have HB1 := Lib.hid hb1; have HU1 := Lib.hid (up_call hb1); have HS1 := Lib.hid (HS0.out.up (up_call hb1)); clear hb1 hp1 t1)
          | (have _t := t2; go_at_call 17; refine Calls.mono (copy_out b _ (HH_1.out.made HU1.out)) ?_; rintro e e2 ⟨cm2, rfl, hc2⟩; have HC2 := Lib.hid hc2; have HB2 := Lib.hid hc2.2.2.2; have HU2 := Lib.hid (up_trans HU1.out hc2.2.2.2); have HS2 := Lib.hid (HS1.out.up hc2.2.2.2); clear hc2 t2)
          | (have _t := t3; go_at_call 16; refine Calls.mono (wmake_any _ _ _ _ _) ?_; rintro e e3 ⟨rfl, hp3⟩; have hb3 : Below (e2.alloc (mtObj2 q cm2)).heap.size (e2.alloc (mtObj2 q cm2)) e3 := hp3; have HB3 := Lib.hid hb3; have HU3 := Lib.hid (up_trans HU2.out (up_call hb3)); have HS3 := Lib.hid (HS2.out.up (up_call hb3)); clear hb3 hp3 t3)
          | (have _t := t4; go_at_call 16; refine Calls.mono (wmake_any _ _ _ _ _) ?_; rintro e e4 ⟨rfl, hp4⟩; have hb4 : Below (e3.alloc (mtObj2 (Mt.n2 9 W3.drew.heap.size 2 p b) (Mt.n2 9 e2.heap.size 2 q cm2))).heap.size (e3.alloc (mtObj2 (Mt.n2 9 W3.drew.heap.size 2 p b) (Mt.n2 9 e2.heap.size 2 q cm2))) e4 := hp4; have HB4 := Lib.hid hb4; have HU4 := Lib.hid (up_trans HU3.out (up_call hb4)); have HS4 := Lib.hid (HS3.out.up (up_call hb4)); obtain ⟨⟨y0, y1, y2⟩, z0, z1, z2, zl⟩ := res_at (HH5.out.made HU4.out).res; clear hb4 hp4 t4))
    all_goals
      go_wp2_with fail
      have hsz_0 : w.heap.size + 2 ≤ W3.drew.heap.size := by omega
      have s1 : Below W3.drew.heap.size W3.drew e1 := up_call HB1.out
      have u1 : Below W3.drew.heap.size W3.drew e1 := s1
      have hsz_1 : w.heap.size + 2 ≤ e1.heap.size := Nat.le_trans hsz_0 u1.size
      have s2 : Below e1.heap.size e1 e2 := HB2.out
      have u2 : Below W3.drew.heap.size W3.drew e2 := up_trans u1 s2
      have hsz_2 : w.heap.size + 2 ≤ e2.heap.size := Nat.le_trans hsz_0 u2.size
      have s3 : Below e2.heap.size e2 e3 := up_call HB3.out
      have u3 : Below W3.drew.heap.size W3.drew e3 := up_trans u2 s3
      have hsz_3 : w.heap.size + 2 ≤ e3.heap.size := Nat.le_trans hsz_0 u3.size
      have s4 : Below e3.heap.size e3 e4 := up_call HB4.out
      have u4 : Below W3.drew.heap.size W3.drew e4 := up_trans u3 s4
      have hsz_4 : w.heap.size + 2 ≤ e4.heap.size := Nat.le_trans hsz_0 u4.size
      have m1 : (Mt.n2 9 W3.drew.heap.size 2 p b).has e1 := mk2_has (W := W3.drew) 9 HH_0.out HH_1.out (up_next HB1.out)
      have f1 : Fr (Mt.n2 9 g c (Mt.n2 5 ga ca p q) b) (w.heap.size + 2) w0.heap.size (Mt.n2 9 W3.drew.heap.size 2 p b) := Fr.n2 hsz_0 (Fr.kid (Fr.kid (Fr.self _ _ _) (z := (Mt.n2 5 ga ca p q)) (by simp [Mt.kids])) (z := p) (by simp [Mt.kids])) (Fr.kid (Fr.self _ _ _) (z := b) (by simp [Mt.kids]))
      obtain ⟨c2a, c2b, c2c, c2d⟩ := HC2.out
      have m3 : (Mt.n2 9 e2.heap.size 2 q cm2).has e3 := mk2_has (W := e2) 9 (HH_2.out.made u2) c2b (up_next HB3.out)
      have f3 : Fr (Mt.n2 9 g c (Mt.n2 5 ga ca p q) b) (w.heap.size + 2) w0.heap.size (Mt.n2 9 e2.heap.size 2 q cm2) := Fr.n2 hsz_2 (Fr.kid (Fr.kid (Fr.self _ _ _) (z := (Mt.n2 5 ga ca p q)) (by simp [Mt.kids])) (z := q) (by simp [Mt.kids])) (Fr.new c2c hsz_1)
      have m4 : (Mt.n2 5 e3.heap.size 2 (Mt.n2 9 W3.drew.heap.size 2 p b) (Mt.n2 9 e2.heap.size 2 q cm2)).has e4 := mk2_has (W := e3) 5 (m1.made (up_trans (s2) s3)) m3 (up_next HB4.out)
      have f4 : Fr (Mt.n2 9 g c (Mt.n2 5 ga ca p q) b) (w.heap.size + 2) w0.heap.size (Mt.n2 5 e3.heap.size 2 (Mt.n2 9 W3.drew.heap.size 2 p b) (Mt.n2 9 e2.heap.size 2 q cm2)) := Fr.n2 hsz_3 f1 f3
      have ub : Below w.heap.size w e4 := HH5.out.below.trans (u4.mono (by omega))
      refine bodyPost_ret (v := .tuple #[(Mt.n2 5 e3.heap.size 2 (Mt.n2 9 W3.drew.heap.size 2 p b) (Mt.n2 9 e2.heap.size 2 q cm2)).val, .bool true]) (by simp [results, Tryz.results25, go_sem, y0, y1, y2]; rfl) rfl (by_fr HR.out HX.out HZ.out m4 (by simp only [Mt.w, c2a]) ub f4)
  · have hU : Below W2.heap.size W2 ((W2.alloc (Obj.cells #[.int .i64 b.kk, .int .i64 b.ks, .slice b.kA b.kids.length b.kc] 29)).alloc (Obj.cells #[.int .i64 5, .int .i64 0, .slice (some ⟨ga, 0, none⟩) 2 ca] 29)).drew := (((up_alloc W2 _).alloc (by simp) _).drew)
    have hbx0 : ((W2.alloc (Obj.cells #[.int .i64 b.kk, .int .i64 b.ks, .slice b.kA b.kids.length b.kc] 29)).alloc (Obj.cells #[.int .i64 5, .int .i64 0, .slice (some ⟨ga, 0, none⟩) 2 ca] 29)).drew.heap[W2.heap.size]? = some (mtObj1 b) := heap_old2 _ _ _
    have hbx1 : ((W2.alloc (Obj.cells #[.int .i64 b.kk, .int .i64 b.ks, .slice b.kA b.kids.length b.kc] 29)).alloc (Obj.cells #[.int .i64 5, .int .i64 0, .slice (some ⟨ga, 0, none⟩) 2 ca] 29)).drew.heap[(W2.heap.size + 1)]? = some (mtObj1 (Mt.n2 5 ga ca p q)) := heap_new2 _ _ _
    obtain ⟨W3, hW3⟩ : ∃ W3, ((W2.alloc (Obj.cells #[.int .i64 b.kk, .int .i64 b.ks, .slice b.kA b.kids.length b.kc] 29)).alloc (Obj.cells #[.int .i64 5, .int .i64 0, .slice (some ⟨ga, 0, none⟩) 2 ca] 29)).drew = W3 := ⟨_, rfl⟩
    rw [hW3] at hU hbx0 hbx1 ⊢
    clear hW3
    have hsz3 : W2.heap.size + 2 ≤ W3.heap.size := lt_blk hbx1
    have hh : ByHead w W3 (Mt.n2 9 g c (Mt.n2 5 ga ca p q) b) := HHD.out.made hU
    have hX3 : (Mt.n2 9 g c (Mt.n2 5 ga ca p q) b).has W3 := HX2.out.made hU
    obtain ⟨xf0, xf1, xf2⟩ : (W3.cell? ⟨w.heap.size, 0, none⟩ = some (.int .i64 9) ∧ W3.cell? ⟨w.heap.size, 1, none⟩ = some (.int .i64 0) ∧ W3.cell? ⟨w.heap.size, 2, none⟩ = some (.slice (some ⟨g, 0, none⟩) 2 c)) := box_kid hh.box
    obtain ⟨bf00, bf01, bf02⟩ : (W3.cell? ⟨W2.heap.size, 0, none⟩ = some (.int .i64 b.kk) ∧ W3.cell? ⟨W2.heap.size, 1, none⟩ = some (.int .i64 b.ks) ∧ W3.cell? ⟨W2.heap.size, 2, none⟩ = some (.slice b.kA b.kids.length b.kc)) := box_kid hbx0
    obtain ⟨bf10, bf11, bf12⟩ : (W3.cell? ⟨(W2.heap.size + 1), 0, none⟩ = some (.int .i64 5) ∧ W3.cell? ⟨(W2.heap.size + 1), 1, none⟩ = some (.int .i64 0) ∧ W3.cell? ⟨(W2.heap.size + 1), 2, none⟩ = some (.slice (some ⟨ga, 0, none⟩) 2 ca)) := box_kid hbx1
    have HHE := Lib.hid hh
    have HX3 := Lib.hid hX3
    have HBX0 := Lib.hid hbx0
    have HBX1 := Lib.hid hbx1
    clear hh hX3 hU HS0 HHD HX2 hbx0 hbx1
    go_upto_region 13 with fail
    have hh := HHE.out
    have hX2 := HX3.out
    have hbx0 := HBX0.out
    have hbx1 := HBX1.out
    clear xf0 xf1 xf2 bf00 bf01 bf02 bf10 bf11 bf12
    have hX5 : (Mt.n2 9 g c (Mt.n2 5 ga ca p q) b).has W3.drew := hX2.made (Below.refl _ _).drew
    have hH5 : ByHead w W3.drew (Mt.n2 9 g c (Mt.n2 5 ga ca p q) b) := hh.made (Below.refl _ _).drew
    obtain ⟨_, ka0, kb0, ha0, hb0⟩ := id hX5
    obtain ⟨_, ka1, kb1, ha1, hb1⟩ := id ha0
    have HS0 := Lib.hid (show AllS [(w.heap.size, 0, (Mt.n2 9 g c (Mt.n2 5 ga ca p q) b)), (W2.heap.size, 0, b), ((W2.heap.size + 1), 0, (Mt.n2 5 ga ca p q)), (ga, 0, p), (ga, 3, q)] W3.drew from ⟨box_kid hH5.box, (box_kid hbx0).draw, (box_kid hbx1).draw, kid_at ka1, kid_at kb1, trivial⟩)
    have HH_0 := Lib.hid ha1
    have HH_1 := Lib.hid hb0
    have HH_2 := Lib.hid hb1
    have HH5 := Lib.hid hH5
    clear hh hX2 hX5 hH5 ha0 ha1 hb0 hb1 ka0 ka1 kb0 kb1 hbx0 hbx1
    have hsb : W3.heap.size ≤ W3.drew.heap.size := Nat.le_refl _
    have t1 : True := trivial
    have t2 : True := trivial
    have t3 : True := trivial
    have t4 : True := trivial
    go_region_held3 (fun w' => ((w'.cell? ⟨w.heap.size, 0, none⟩ = some (.int .i64 9) ∧ w'.cell? ⟨w.heap.size, 1, none⟩ = some (.int .i64 0) ∧ w'.cell? ⟨w.heap.size, 2, none⟩ = some (.slice (some ⟨g, 0, none⟩) 2 c)) ∧ (w'.cell? ⟨W2.heap.size, 0, none⟩ = some (.int .i64 b.kk) ∧ w'.cell? ⟨W2.heap.size, 1, none⟩ = some (.int .i64 b.ks) ∧ w'.cell? ⟨W2.heap.size, 2, none⟩ = some (.slice b.kA b.kids.length b.kc)) ∧ (w'.cell? ⟨(W2.heap.size + 1), 0, none⟩ = some (.int .i64 5) ∧ w'.cell? ⟨(W2.heap.size + 1), 1, none⟩ = some (.int .i64 0) ∧ w'.cell? ⟨(W2.heap.size + 1), 2, none⟩ = some (.slice (some ⟨ga, 0, none⟩) 2 ca)) ∧ (w'.cell? ⟨ga, 0, none⟩ = some (.int .i64 p.kk) ∧ w'.cell? ⟨ga, 1, none⟩ = some (.int .i64 p.ks) ∧ w'.cell? ⟨ga, 2, none⟩ = some (.slice p.kA p.kids.length p.kc)) ∧ (w'.cell? ⟨ga, 3, none⟩ = some (.int .i64 q.kk) ∧ w'.cell? ⟨ga, 4, none⟩ = some (.int .i64 q.ks) ∧ w'.cell? ⟨ga, 5, none⟩ = some (.slice q.kA q.kids.length q.kc)) ∧ True)) (first | exact HS0.out | exact HS0.out.up (up_alloc _ _) | exact HS1.out | exact HS1.out.up (up_alloc _ _) | exact HS2.out | exact HS2.out.up (up_alloc _ _) | exact HS3.out | exact HS3.out.up (up_alloc _ _) | exact HS4.out | exact AllS.set3 _ _ _ HS4.out ⟨by omega, by omega, by omega, by omega, by omega, trivial⟩) (first
          | (have _t := t1; go_at_call 16; refine Calls.mono (wmake_any _ _ _ _ _) ?_; rintro e e1 ⟨rfl, hp1⟩; have hb1 : Below (W3.drew.alloc (mtObj2 p b)).heap.size (W3.drew.alloc (mtObj2 p b)) e1 := hp1; have HB1 := Lib.hid hb1; have HU1 := Lib.hid (up_call hb1); have HS1 := Lib.hid (HS0.out.up (up_call hb1)); clear hb1 hp1 t1)
          | (have _t := t2; go_at_call 17; refine Calls.mono (copy_out b _ (HH_1.out.made HU1.out)) ?_; rintro e e2 ⟨cm2, rfl, hc2⟩; have HC2 := Lib.hid hc2; have HB2 := Lib.hid hc2.2.2.2; have HU2 := Lib.hid (up_trans HU1.out hc2.2.2.2); have HS2 := Lib.hid (HS1.out.up hc2.2.2.2); clear hc2 t2)
          | (have _t := t3; go_at_call 16; refine Calls.mono (wmake_any _ _ _ _ _) ?_; rintro e e3 ⟨rfl, hp3⟩; have hb3 : Below (e2.alloc (mtObj2 q cm2)).heap.size (e2.alloc (mtObj2 q cm2)) e3 := hp3; have HB3 := Lib.hid hb3; have HU3 := Lib.hid (up_trans HU2.out (up_call hb3)); have HS3 := Lib.hid (HS2.out.up (up_call hb3)); clear hb3 hp3 t3)
          | (have _t := t4; go_at_call 16; refine Calls.mono (wmake_any _ _ _ _ _) ?_; rintro e e4 ⟨rfl, hp4⟩; have hb4 : Below (e3.alloc (mtObj2 (Mt.n2 9 W3.drew.heap.size 2 p b) (Mt.n2 9 e2.heap.size 2 q cm2))).heap.size (e3.alloc (mtObj2 (Mt.n2 9 W3.drew.heap.size 2 p b) (Mt.n2 9 e2.heap.size 2 q cm2))) e4 := hp4; have HB4 := Lib.hid hb4; have HU4 := Lib.hid (up_trans HU3.out (up_call hb4)); have HS4 := Lib.hid (HS3.out.up (up_call hb4)); obtain ⟨⟨y0, y1, y2⟩, z0, z1, z2, zl⟩ := res_at (HH5.out.made HU4.out).res; clear hb4 hp4 t4))
    all_goals
      go_wp2_with fail
      have hsz_0 : w.heap.size + 2 ≤ W3.drew.heap.size := by omega
      have s1 : Below W3.drew.heap.size W3.drew e1 := up_call HB1.out
      have u1 : Below W3.drew.heap.size W3.drew e1 := s1
      have hsz_1 : w.heap.size + 2 ≤ e1.heap.size := Nat.le_trans hsz_0 u1.size
      have s2 : Below e1.heap.size e1 e2 := HB2.out
      have u2 : Below W3.drew.heap.size W3.drew e2 := up_trans u1 s2
      have hsz_2 : w.heap.size + 2 ≤ e2.heap.size := Nat.le_trans hsz_0 u2.size
      have s3 : Below e2.heap.size e2 e3 := up_call HB3.out
      have u3 : Below W3.drew.heap.size W3.drew e3 := up_trans u2 s3
      have hsz_3 : w.heap.size + 2 ≤ e3.heap.size := Nat.le_trans hsz_0 u3.size
      have s4 : Below e3.heap.size e3 e4 := up_call HB4.out
      have u4 : Below W3.drew.heap.size W3.drew e4 := up_trans u3 s4
      have hsz_4 : w.heap.size + 2 ≤ e4.heap.size := Nat.le_trans hsz_0 u4.size
      have m1 : (Mt.n2 9 W3.drew.heap.size 2 p b).has e1 := mk2_has (W := W3.drew) 9 HH_0.out HH_1.out (up_next HB1.out)
      have f1 : Fr (Mt.n2 9 g c (Mt.n2 5 ga ca p q) b) (w.heap.size + 2) w0.heap.size (Mt.n2 9 W3.drew.heap.size 2 p b) := Fr.n2 hsz_0 (Fr.kid (Fr.kid (Fr.self _ _ _) (z := (Mt.n2 5 ga ca p q)) (by simp [Mt.kids])) (z := p) (by simp [Mt.kids])) (Fr.kid (Fr.self _ _ _) (z := b) (by simp [Mt.kids]))
      obtain ⟨c2a, c2b, c2c, c2d⟩ := HC2.out
      have m3 : (Mt.n2 9 e2.heap.size 2 q cm2).has e3 := mk2_has (W := e2) 9 (HH_2.out.made u2) c2b (up_next HB3.out)
      have f3 : Fr (Mt.n2 9 g c (Mt.n2 5 ga ca p q) b) (w.heap.size + 2) w0.heap.size (Mt.n2 9 e2.heap.size 2 q cm2) := Fr.n2 hsz_2 (Fr.kid (Fr.kid (Fr.self _ _ _) (z := (Mt.n2 5 ga ca p q)) (by simp [Mt.kids])) (z := q) (by simp [Mt.kids])) (Fr.new c2c hsz_1)
      have m4 : (Mt.n2 5 e3.heap.size 2 (Mt.n2 9 W3.drew.heap.size 2 p b) (Mt.n2 9 e2.heap.size 2 q cm2)).has e4 := mk2_has (W := e3) 5 (m1.made (up_trans (s2) s3)) m3 (up_next HB4.out)
      have f4 : Fr (Mt.n2 9 g c (Mt.n2 5 ga ca p q) b) (w.heap.size + 2) w0.heap.size (Mt.n2 5 e3.heap.size 2 (Mt.n2 9 W3.drew.heap.size 2 p b) (Mt.n2 9 e2.heap.size 2 q cm2)) := Fr.n2 hsz_3 f1 f3
      have ub : Below w.heap.size w e4 := HH5.out.below.trans (u4.mono (by omega))
      refine bodyPost_ret (v := .tuple #[(Mt.n2 5 e3.heap.size 2 (Mt.n2 9 W3.drew.heap.size 2 p b) (Mt.n2 9 e2.heap.size 2 q cm2)).val, .bool true]) (by simp [results, Tryz.results25, go_sem, y0, y1, y2]; rfl) rfl (by_fr HR.out HX.out HZ.out m4 (by simp only [Mt.w, c2a]) ub f4)
end Go.Proofs.YtccknopchddicaaGreatDoor
