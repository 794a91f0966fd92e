/- contract: the rule of FormCrossed, where it does not apply. -/
import Derived.Test.YtccknopchddicaaGreatDoorMGcr1
import Derived.Test.YtccknopchddicaaGreatDoorMGcr2
import Derived.Test.YtccknopchddicaaGreatDoorMGl
import Derived.Test.YtccknopchddicaaGreatDoorMGx
set_option linter.unusedSimpArgs false
set_option linter.unusedVariables false
set_option linter.unnecessarySimpa false
namespace Go.Proofs.YtccknopchddicaaGreatDoor
open Go.RowKit Stile
set_option maxRecDepth 100000 in
set_option maxHeartbeats 3200000 in
theorem cr_three4  (w0 w : World) (g : Nat) (c : Nat) (a : Mt) (b : Mt) (hx : (Mt.n2 4 g c a b).has w) (h0 : w0.heap.size ≤ w.heap.size) (hna : asTwo 5 a.w = none) (hnk : (a.kk == 5) = false) (hnb : asTwo 5 b.w = none) (hnl : (b.kk == 5) = false) :
    Calls Tryz.prog 27 #[.agg #[.int .i64 4, .int .i64 0, .slice (some ⟨g, 0, none⟩) 2 c]] w (ByOut (crRule) (Mt.n2 4 g c a b) w0 w) := by
  have hr : (crRule) (Mt.n2 4 g c a b).w = none := by simp only [Mt.w]; show crTwo 4 5 a.w b.w = _; unfold crTwo; rw [hnb, hna]
  have HX := Lib.hid hx
  have HR := Lib.hid hr
  have HZ := Lib.hid h0
  clear hx hr h0
  go_enter Tryz.func27, Tryz.ntmps27
  go_upto_region 4 with fail
  have hh : ByHead w ((w.alloc (Obj.cells #[.int .i64 4, .int .i64 0, .slice (some ⟨g, 0, none⟩) 2 c] 29)).alloc (Obj.cells #[.int .i64 0, .int .i64 0, .slice none 0 0] 29)) (Mt.n2 4 g c a b) := by_head w (Mt.n2 4 g c a b)
  obtain ⟨W2, hW2⟩ : ∃ W2, (w.alloc (Obj.cells #[.int .i64 4, .int .i64 0, .slice (some ⟨g, 0, none⟩) 2 c] 29)).alloc (Obj.cells #[.int .i64 0, .int .i64 0, .slice none 0 0] 29) = W2 := ⟨_, rfl⟩
  rw [hW2] at hh ⊢
  clear hW2
  have hs2 : w.heap.size + 2 ≤ W2.heap.size := lt_blk hh.res
  have hX2 : (Mt.n2 4 g c a b).has W2 := HX.out.below hh.below (fun g hg => HX.out.lt g hg)
  have hgl_g : g < w.heap.size := HX.out.lt g (by simp [Mt.blks])
  obtain ⟨_, kaq0, kbq0, haq0, hbq0⟩ := id hX2
  have HS0 := Lib.hid (show AllS [(w.heap.size, 0, (Mt.n2 4 g c a b)), (g, 0, a), (g, 3, b)] W2 from ⟨box_kid hh.box, kid_at kaq0, kid_at kbq0, trivial⟩)
  have HHD := Lib.hid hh
  have HX2 := Lib.hid hX2
  clear hh hX2 haq0 hbq0 kaq0 kbq0
  go_region_held3 (fun w' => ((w'.cell? ⟨w.heap.size, 0, none⟩ = some (.int .i64 4) ∧ w'.cell? ⟨w.heap.size, 1, none⟩ = some (.int .i64 0) ∧ w'.cell? ⟨w.heap.size, 2, none⟩ = some (.slice (some ⟨g, 0, none⟩) 2 c)) ∧ (w'.cell? ⟨g, 0, none⟩ = some (.int .i64 a.kk) ∧ w'.cell? ⟨g, 1, none⟩ = some (.int .i64 a.ks) ∧ w'.cell? ⟨g, 2, none⟩ = some (.slice a.kA a.kids.length a.kc)) ∧ (w'.cell? ⟨g, 3, none⟩ = some (.int .i64 b.kk) ∧ w'.cell? ⟨g, 4, none⟩ = some (.int .i64 b.ks) ∧ w'.cell? ⟨g, 5, none⟩ = some (.slice b.kA b.kids.length b.kc)) ∧ True)) (first | exact HS0.out.draw | exact HS0.out.up ((up_alloc _ _).drew) | exact (HS0.out.up (up_alloc _ _)).up ((up_alloc _ _).drew) | exact HS0.out | exact HS0.out.up (up_alloc _ _) | exact (HS0.out.up (up_alloc _ _)).up (up_alloc _ _)) (fail)
  · have hU : Below W2.heap.size W2 ((W2.alloc (Obj.cells #[.int .i64 a.kk, .int .i64 a.ks, .slice a.kA a.kids.length a.kc] 29)).alloc (Obj.cells #[.int .i64 b.kk, .int .i64 b.ks, .slice b.kA b.kids.length b.kc] 29)).drew := (((up_alloc W2 _).alloc (by simp) _).drew)
    have hbx0 : ((W2.alloc (Obj.cells #[.int .i64 a.kk, .int .i64 a.ks, .slice a.kA a.kids.length a.kc] 29)).alloc (Obj.cells #[.int .i64 b.kk, .int .i64 b.ks, .slice b.kA b.kids.length b.kc] 29)).drew.heap[W2.heap.size]? = some (mtObj1 a) := heap_old2 _ _ _
    have hbx1 : ((W2.alloc (Obj.cells #[.int .i64 a.kk, .int .i64 a.ks, .slice a.kA a.kids.length a.kc] 29)).alloc (Obj.cells #[.int .i64 b.kk, .int .i64 b.ks, .slice b.kA b.kids.length b.kc] 29)).drew.heap[(W2.heap.size + 1)]? = some (mtObj1 b) := heap_new2 _ _ _
    obtain ⟨W3, hW3⟩ : ∃ W3, ((W2.alloc (Obj.cells #[.int .i64 a.kk, .int .i64 a.ks, .slice a.kA a.kids.length a.kc] 29)).alloc (Obj.cells #[.int .i64 b.kk, .int .i64 b.ks, .slice b.kA b.kids.length b.kc] 29)).drew = W3 := ⟨_, rfl⟩
    rw [hW3] at hU hbx0 hbx1 ⊢
    clear hW3
    have hsz3 : W2.heap.size + 2 ≤ W3.heap.size := lt_blk hbx1
    have hh : ByHead w W3 (Mt.n2 4 g c a b) := HHD.out.made hU
    have hX3 : (Mt.n2 4 g c a b).has W3 := HX2.out.made hU
    obtain ⟨xf0, xf1, xf2⟩ : (W3.cell? ⟨w.heap.size, 0, none⟩ = some (.int .i64 4) ∧ W3.cell? ⟨w.heap.size, 1, none⟩ = some (.int .i64 0) ∧ W3.cell? ⟨w.heap.size, 2, none⟩ = some (.slice (some ⟨g, 0, none⟩) 2 c)) := box_kid hh.box
    obtain ⟨bf00, bf01, bf02⟩ : (W3.cell? ⟨W2.heap.size, 0, none⟩ = some (.int .i64 a.kk) ∧ W3.cell? ⟨W2.heap.size, 1, none⟩ = some (.int .i64 a.ks) ∧ W3.cell? ⟨W2.heap.size, 2, none⟩ = some (.slice a.kA a.kids.length a.kc)) := box_kid hbx0
    obtain ⟨⟨y0, y1, y2⟩, z0, z1, z2, zl⟩ := res_at hh.res
    obtain ⟨bf10, bf11, bf12⟩ : (W3.cell? ⟨(W2.heap.size + 1), 0, none⟩ = some (.int .i64 b.kk) ∧ W3.cell? ⟨(W2.heap.size + 1), 1, none⟩ = some (.int .i64 b.ks) ∧ W3.cell? ⟨(W2.heap.size + 1), 2, none⟩ = some (.slice b.kA b.kids.length b.kc)) := box_kid hbx1
    have HHE := Lib.hid hh
    have HX3 := Lib.hid hX3
    have HBX0 := Lib.hid hbx0
    have HBX1 := Lib.hid hbx1
    clear hh hX3 hU HS0 HHD HX2 hbx0 hbx1
    go_wp2_with fail
    refine bodyPost_ret (v := .tuple #[(Mt.n2 4 g c a b).val, .bool false]) (by simp [results, Tryz.results27, go_sem, y0, y1, y2]; rfl) rfl (by_none HR.out ?_)
    exact ((HHE.out.below.setCell (by simp) _).setCell (by simp) _).setCell (by simp) _
  · have hU : Below W2.heap.size W2 ((W2.alloc (Obj.cells #[.int .i64 b.kk, .int .i64 b.ks, .slice b.kA b.kids.length b.kc] 29)).alloc (Obj.cells #[.int .i64 a.kk, .int .i64 a.ks, .slice a.kA a.kids.length a.kc] 29)).drew := (((up_alloc W2 _).alloc (by simp) _).drew)
    have hbx0 : ((W2.alloc (Obj.cells #[.int .i64 b.kk, .int .i64 b.ks, .slice b.kA b.kids.length b.kc] 29)).alloc (Obj.cells #[.int .i64 a.kk, .int .i64 a.ks, .slice a.kA a.kids.length a.kc] 29)).drew.heap[W2.heap.size]? = some (mtObj1 b) := heap_old2 _ _ _
    have hbx1 : ((W2.alloc (Obj.cells #[.int .i64 b.kk, .int .i64 b.ks, .slice b.kA b.kids.length b.kc] 29)).alloc (Obj.cells #[.int .i64 a.kk, .int .i64 a.ks, .slice a.kA a.kids.length a.kc] 29)).drew.heap[(W2.heap.size + 1)]? = some (mtObj1 a) := heap_new2 _ _ _
    obtain ⟨W3, hW3⟩ : ∃ W3, ((W2.alloc (Obj.cells #[.int .i64 b.kk, .int .i64 b.ks, .slice b.kA b.kids.length b.kc] 29)).alloc (Obj.cells #[.int .i64 a.kk, .int .i64 a.ks, .slice a.kA a.kids.length a.kc] 29)).drew = W3 := ⟨_, rfl⟩
    rw [hW3] at hU hbx0 hbx1 ⊢
    clear hW3
    have hsz3 : W2.heap.size + 2 ≤ W3.heap.size := lt_blk hbx1
    have hh : ByHead w W3 (Mt.n2 4 g c a b) := HHD.out.made hU
    have hX3 : (Mt.n2 4 g c a b).has W3 := HX2.out.made hU
    obtain ⟨xf0, xf1, xf2⟩ : (W3.cell? ⟨w.heap.size, 0, none⟩ = some (.int .i64 4) ∧ W3.cell? ⟨w.heap.size, 1, none⟩ = some (.int .i64 0) ∧ W3.cell? ⟨w.heap.size, 2, none⟩ = some (.slice (some ⟨g, 0, none⟩) 2 c)) := box_kid hh.box
    obtain ⟨bf00, bf01, bf02⟩ : (W3.cell? ⟨W2.heap.size, 0, none⟩ = some (.int .i64 b.kk) ∧ W3.cell? ⟨W2.heap.size, 1, none⟩ = some (.int .i64 b.ks) ∧ W3.cell? ⟨W2.heap.size, 2, none⟩ = some (.slice b.kA b.kids.length b.kc)) := box_kid hbx0
    obtain ⟨⟨y0, y1, y2⟩, z0, z1, z2, zl⟩ := res_at hh.res
    obtain ⟨bf10, bf11, bf12⟩ : (W3.cell? ⟨(W2.heap.size + 1), 0, none⟩ = some (.int .i64 a.kk) ∧ W3.cell? ⟨(W2.heap.size + 1), 1, none⟩ = some (.int .i64 a.ks) ∧ W3.cell? ⟨(W2.heap.size + 1), 2, none⟩ = some (.slice a.kA a.kids.length a.kc)) := box_kid hbx1
    have HHE := Lib.hid hh
    have HX3 := Lib.hid hX3
    have HBX0 := Lib.hid hbx0
    have HBX1 := Lib.hid hbx1
    clear hh hX3 hU HS0 HHD HX2 hbx0 hbx1
    go_wp2_with fail
    refine bodyPost_ret (v := .tuple #[(Mt.n2 4 g c a b).val, .bool false]) (by simp [results, Tryz.results27, go_sem, y0, y1, y2]; rfl) rfl (by_none HR.out ?_)
    exact ((HHE.out.below.setCell (by simp) _).setCell (by simp) _).setCell (by simp) _
set_option maxRecDepth 100000 in
set_option maxHeartbeats 3200000 in
theorem cr_three5  (w0 w : World) (g : Nat) (c : Nat) (a : Mt) (b : Mt) (hx : (Mt.n2 5 g c a b).has w) (h0 : w0.heap.size ≤ w.heap.size) (hna : asTwo 4 a.w = none) (hnk : (a.kk == 4) = false) (hnb : asTwo 4 b.w = none) (hnl : (b.kk == 4) = false) :
    Calls Tryz.prog 27 #[.agg #[.int .i64 5, .int .i64 0, .slice (some ⟨g, 0, none⟩) 2 c]] w (ByOut (crRule) (Mt.n2 5 g c a b) w0 w) := by
  have hr : (crRule) (Mt.n2 5 g c a b).w = none := by simp only [Mt.w]; show crTwo 5 4 a.w b.w = _; unfold crTwo; rw [hnb, hna]
  have HX := Lib.hid hx
  have HR := Lib.hid hr
  have HZ := Lib.hid h0
  clear hx hr h0
  go_enter Tryz.func27, Tryz.ntmps27
  go_upto_region 4 with fail
  have hh : ByHead w ((w.alloc (Obj.cells #[.int .i64 5, .int .i64 0, .slice (some ⟨g, 0, none⟩) 2 c] 29)).alloc (Obj.cells #[.int .i64 0, .int .i64 0, .slice none 0 0] 29)) (Mt.n2 5 g c a b) := by_head w (Mt.n2 5 g c a b)
  obtain ⟨W2, hW2⟩ : ∃ W2, (w.alloc (Obj.cells #[.int .i64 5, .int .i64 0, .slice (some ⟨g, 0, none⟩) 2 c] 29)).alloc (Obj.cells #[.int .i64 0, .int .i64 0, .slice none 0 0] 29) = W2 := ⟨_, rfl⟩
  rw [hW2] at hh ⊢
  clear hW2
  have hs2 : w.heap.size + 2 ≤ W2.heap.size := lt_blk hh.res
  have hX2 : (Mt.n2 5 g c a b).has W2 := HX.out.below hh.below (fun g hg => HX.out.lt g hg)
  have hgl_g : g < w.heap.size := HX.out.lt g (by simp [Mt.blks])
  obtain ⟨_, kaq0, kbq0, haq0, hbq0⟩ := id hX2
  have HS0 := Lib.hid (show AllS [(w.heap.size, 0, (Mt.n2 5 g c a b)), (g, 0, a), (g, 3, b)] W2 from ⟨box_kid hh.box, kid_at kaq0, kid_at kbq0, trivial⟩)
  have HHD := Lib.hid hh
  have HX2 := Lib.hid hX2
  clear hh hX2 haq0 hbq0 kaq0 kbq0
  go_region_held3 (fun w' => ((w'.cell? ⟨w.heap.size, 0, none⟩ = some (.int .i64 5) ∧ w'.cell? ⟨w.heap.size, 1, none⟩ = some (.int .i64 0) ∧ w'.cell? ⟨w.heap.size, 2, none⟩ = some (.slice (some ⟨g, 0, none⟩) 2 c)) ∧ (w'.cell? ⟨g, 0, none⟩ = some (.int .i64 a.kk) ∧ w'.cell? ⟨g, 1, none⟩ = some (.int .i64 a.ks) ∧ w'.cell? ⟨g, 2, none⟩ = some (.slice a.kA a.kids.length a.kc)) ∧ (w'.cell? ⟨g, 3, none⟩ = some (.int .i64 b.kk) ∧ w'.cell? ⟨g, 4, none⟩ = some (.int .i64 b.ks) ∧ w'.cell? ⟨g, 5, none⟩ = some (.slice b.kA b.kids.length b.kc)) ∧ True)) (first | exact HS0.out.draw | exact HS0.out.up ((up_alloc _ _).drew) | exact (HS0.out.up (up_alloc _ _)).up ((up_alloc _ _).drew) | exact HS0.out | exact HS0.out.up (up_alloc _ _) | exact (HS0.out.up (up_alloc _ _)).up (up_alloc _ _)) (fail)
  · have hU : Below W2.heap.size W2 ((W2.alloc (Obj.cells #[.int .i64 a.kk, .int .i64 a.ks, .slice a.kA a.kids.length a.kc] 29)).alloc (Obj.cells #[.int .i64 b.kk, .int .i64 b.ks, .slice b.kA b.kids.length b.kc] 29)).drew := (((up_alloc W2 _).alloc (by simp) _).drew)
    have hbx0 : ((W2.alloc (Obj.cells #[.int .i64 a.kk, .int .i64 a.ks, .slice a.kA a.kids.length a.kc] 29)).alloc (Obj.cells #[.int .i64 b.kk, .int .i64 b.ks, .slice b.kA b.kids.length b.kc] 29)).drew.heap[W2.heap.size]? = some (mtObj1 a) := heap_old2 _ _ _
    have hbx1 : ((W2.alloc (Obj.cells #[.int .i64 a.kk, .int .i64 a.ks, .slice a.kA a.kids.length a.kc] 29)).alloc (Obj.cells #[.int .i64 b.kk, .int .i64 b.ks, .slice b.kA b.kids.length b.kc] 29)).drew.heap[(W2.heap.size + 1)]? = some (mtObj1 b) := heap_new2 _ _ _
    obtain ⟨W3, hW3⟩ : ∃ W3, ((W2.alloc (Obj.cells #[.int .i64 a.kk, .int .i64 a.ks, .slice a.kA a.kids.length a.kc] 29)).alloc (Obj.cells #[.int .i64 b.kk, .int .i64 b.ks, .slice b.kA b.kids.length b.kc] 29)).drew = W3 := ⟨_, rfl⟩
    rw [hW3] at hU hbx0 hbx1 ⊢
    clear hW3
    have hsz3 : W2.heap.size + 2 ≤ W3.heap.size := lt_blk hbx1
    have hh : ByHead w W3 (Mt.n2 5 g c a b) := HHD.out.made hU
    have hX3 : (Mt.n2 5 g c a b).has W3 := HX2.out.made hU
    obtain ⟨xf0, xf1, xf2⟩ : (W3.cell? ⟨w.heap.size, 0, none⟩ = some (.int .i64 5) ∧ W3.cell? ⟨w.heap.size, 1, none⟩ = some (.int .i64 0) ∧ W3.cell? ⟨w.heap.size, 2, none⟩ = some (.slice (some ⟨g, 0, none⟩) 2 c)) := box_kid hh.box
    obtain ⟨bf00, bf01, bf02⟩ : (W3.cell? ⟨W2.heap.size, 0, none⟩ = some (.int .i64 a.kk) ∧ W3.cell? ⟨W2.heap.size, 1, none⟩ = some (.int .i64 a.ks) ∧ W3.cell? ⟨W2.heap.size, 2, none⟩ = some (.slice a.kA a.kids.length a.kc)) := box_kid hbx0
    obtain ⟨⟨y0, y1, y2⟩, z0, z1, z2, zl⟩ := res_at hh.res
    obtain ⟨bf10, bf11, bf12⟩ : (W3.cell? ⟨(W2.heap.size + 1), 0, none⟩ = some (.int .i64 b.kk) ∧ W3.cell? ⟨(W2.heap.size + 1), 1, none⟩ = some (.int .i64 b.ks) ∧ W3.cell? ⟨(W2.heap.size + 1), 2, none⟩ = some (.slice b.kA b.kids.length b.kc)) := box_kid hbx1
    have HHE := Lib.hid hh
    have HX3 := Lib.hid hX3
    have HBX0 := Lib.hid hbx0
    have HBX1 := Lib.hid hbx1
    clear hh hX3 hU HS0 HHD HX2 hbx0 hbx1
    go_wp2_with fail
    refine bodyPost_ret (v := .tuple #[(Mt.n2 5 g c a b).val, .bool false]) (by simp [results, Tryz.results27, go_sem, y0, y1, y2]; rfl) rfl (by_none HR.out ?_)
    exact ((HHE.out.below.setCell (by simp) _).setCell (by simp) _).setCell (by simp) _
  · have hU : Below W2.heap.size W2 ((W2.alloc (Obj.cells #[.int .i64 b.kk, .int .i64 b.ks, .slice b.kA b.kids.length b.kc] 29)).alloc (Obj.cells #[.int .i64 a.kk, .int .i64 a.ks, .slice a.kA a.kids.length a.kc] 29)).drew := (((up_alloc W2 _).alloc (by simp) _).drew)
    have hbx0 : ((W2.alloc (Obj.cells #[.int .i64 b.kk, .int .i64 b.ks, .slice b.kA b.kids.length b.kc] 29)).alloc (Obj.cells #[.int .i64 a.kk, .int .i64 a.ks, .slice a.kA a.kids.length a.kc] 29)).drew.heap[W2.heap.size]? = some (mtObj1 b) := heap_old2 _ _ _
    have hbx1 : ((W2.alloc (Obj.cells #[.int .i64 b.kk, .int .i64 b.ks, .slice b.kA b.kids.length b.kc] 29)).alloc (Obj.cells #[.int .i64 a.kk, .int .i64 a.ks, .slice a.kA a.kids.length a.kc] 29)).drew.heap[(W2.heap.size + 1)]? = some (mtObj1 a) := heap_new2 _ _ _
    obtain ⟨W3, hW3⟩ : ∃ W3, ((W2.alloc (Obj.cells #[.int .i64 b.kk, .int .i64 b.ks, .slice b.kA b.kids.length b.kc] 29)).alloc (Obj.cells #[.int .i64 a.kk, .int .i64 a.ks, .slice a.kA a.kids.length a.kc] 29)).drew = W3 := ⟨_, rfl⟩
    rw [hW3] at hU hbx0 hbx1 ⊢
    clear hW3
    have hsz3 : W2.heap.size + 2 ≤ W3.heap.size := lt_blk hbx1
    have hh : ByHead w W3 (Mt.n2 5 g c a b) := HHD.out.made hU
    have hX3 : (Mt.n2 5 g c a b).has W3 := HX2.out.made hU
    obtain ⟨xf0, xf1, xf2⟩ : (W3.cell? ⟨w.heap.size, 0, none⟩ = some (.int .i64 5) ∧ W3.cell? ⟨w.heap.size, 1, none⟩ = some (.int .i64 0) ∧ W3.cell? ⟨w.heap.size, 2, none⟩ = some (.slice (some ⟨g, 0, none⟩) 2 c)) := box_kid hh.box
    obtain ⟨bf00, bf01, bf02⟩ : (W3.cell? ⟨W2.heap.size, 0, none⟩ = some (.int .i64 b.kk) ∧ W3.cell? ⟨W2.heap.size, 1, none⟩ = some (.int .i64 b.ks) ∧ W3.cell? ⟨W2.heap.size, 2, none⟩ = some (.slice b.kA b.kids.length b.kc)) := box_kid hbx0
    obtain ⟨⟨y0, y1, y2⟩, z0, z1, z2, zl⟩ := res_at hh.res
    obtain ⟨bf10, bf11, bf12⟩ : (W3.cell? ⟨(W2.heap.size + 1), 0, none⟩ = some (.int .i64 a.kk) ∧ W3.cell? ⟨(W2.heap.size + 1), 1, none⟩ = some (.int .i64 a.ks) ∧ W3.cell? ⟨(W2.heap.size + 1), 2, none⟩ = some (.slice a.kA a.kids.length a.kc)) := box_kid hbx1
    have HHE := Lib.hid hh
    have HX3 := Lib.hid hX3
    have HBX0 := Lib.hid hbx0
    have HBX1 := Lib.hid hbx1
    clear hh hX3 hU HS0 HHD HX2 hbx0 hbx1
    go_wp2_with fail
    refine bodyPost_ret (v := .tuple #[(Mt.n2 5 g c a b).val, .bool false]) (by simp [results, Tryz.results27, go_sem, y0, y1, y2]; rfl) rfl (by_none HR.out ?_)
    exact ((HHE.out.below.setCell (by simp) _).setCell (by simp) _).setCell (by simp) _
set_option maxRecDepth 100000 in
set_option maxHeartbeats 3200000 in
theorem cr_no  (w0 w : World)  (x : Mt) (hx : x.has w) (h0 : w0.heap.size ≤ w.heap.size) (h4 : x.kk ≠ 4) (h5 : x.kk ≠ 5) (hr0 : crRule x.w = none) :
    Calls Tryz.prog 27 #[.agg #[.int .i64 x.kk, .int .i64 x.ks, .slice x.kA x.kids.length x.kc]] w (ByOut (crRule) x w0 w) := by
  have hr : (crRule) x.w = none := hr0
  have HX := Lib.hid hx
  have HR := Lib.hid hr
  have HZ := Lib.hid h0
  clear hx hr h0
  have e4 : (x.kk == 4) = false := beq_eq_false_iff_ne.2 h4
  have e5 : (x.kk == 5) = false := beq_eq_false_iff_ne.2 h5
  have d4 : (x.kk != 4) = true := bne_iff_ne.2 h4
  have d5 : (x.kk != 5) = true := bne_iff_ne.2 h5
  go_enter Tryz.func27, Tryz.ntmps27
  go_wp2_with fail
  refine bodyPost_ret (v := .tuple #[x.val, .bool false]) (by simp [results, Tryz.results27, go_sem]; rfl) rfl (by_none HR.out (((Below.refl _ _).alloc (Nat.le_refl _) _).alloc (by simp) _))
end Go.Proofs.YtccknopchddicaaGreatDoor
/- contract: the rule of FormCrossed, whole. -/
namespace Go.Proofs.YtccknopchddicaaGreatDoor
open Go.RowKit Stile
theorem cr_by_ok {mm : Int} (w0 : World) : ByOk futK mm w0 27 #[] crRule := by
  intro m w hb hm hok hsz
  have h0 : w0.heap.size ≤ w.heap.size := hb.size
  show Calls _ _ #[m.val] w (ByOut crRule m w0 w)
  cases m with
  | n0 k s =>
    have hk := leaf_kk hok
    exact cr_no w0 w (.n0 k s) hm h0 (by intro e; have e : k = 4 := e; omega) (by intro e; have e : k = 5 := e; omega) rfl
  | n1 k g c x =>
    have hk := one_kk hok
    exact cr_no w0 w (.n1 k g c x) hm h0 (by intro e; have e : k = 4 := e; omega) (by intro e; have e : k = 5 := e; omega) rfl
  | n2 k g c x y =>
    have hx : x.w.ok futK mm := hok.2.2.1
    have hy : y.w.ok futK mm := hok.2.2.2
    by_cases h4 : k = 4
    · subst h4
      rcases mt_two (show twoK 5 = true from rfl) y hy with ⟨gb, cb, p, q, rfl⟩ | ⟨hb', hbk⟩
      · exact cr_one4 w0 w g c gb cb x p q hm h0
      · rcases mt_two (show twoK 5 = true from rfl) x hx with ⟨ga, ca, p, q, rfl⟩ | ⟨ha, hak⟩
        · exact cr_two4 w0 w g c ga ca p q y hm h0 hb' hbk
        · exact cr_three4 w0 w g c x y hm h0 ha hak hb' hbk
    · by_cases h5 : k = 5
      · subst h5
        rcases mt_two (show twoK 4 = true from rfl) y hy with ⟨gb, cb, p, q, rfl⟩ | ⟨hb', hbk⟩
        · exact cr_one5 w0 w g c gb cb x p q hm h0
        · rcases mt_two (show twoK 4 = true from rfl) x hx with ⟨ga, ca, p, q, rfl⟩ | ⟨ha, hak⟩
          · exact cr_two5 w0 w g c ga ca p q y hm h0 hb' hbk
          · exact cr_three5 w0 w g c x y hm h0 ha hak hb' hbk
      · refine cr_no w0 w (.n2 k g c x y) hm h0 h4 h5 ?_
        show (if k = 4 then _ else if k = 5 then _ else none) = none
        rw [if_neg h4, if_neg h5]
end Go.Proofs.YtccknopchddicaaGreatDoor
/- contract: the change of FormCrossed, and the law: it answers true. -/
namespace Go.Proofs.YtccknopchddicaaGreatDoor
open Go.RowKit Stile
set_option maxRecDepth 100000 in
set_option maxHeartbeats 800000 in
theorem cr_change {mm : Int} (which : Int) (fv : Value) (f : List Nd) (pf pw : Addr) (w : World) (hf : RdN w w.heap.size fv f) (hok : okF futK mm f) (hn0 : 0 < f.length) (hn : f.length ≤ 40) (hw0 : -9223372036854775808 ≤ which) (hw1 : which ≤ 9223372036854775807)
    (h1 : w.cell? pf = some fv) (h2 : w.cell? pw = some (.int .i64 which)) :
    Calls Tryz.prog 26 #[.pointer (some pf), .pointer (some pw)] w (SwapOut (swapR f which (crRule)) w) := by
  have hmf : ∀ (fn : Fn) (first cap : Array Value) (w : World), (Instr.makeFunc fn first cap).run Tryz.prog w = .ok (.func fn first cap) w := fun _ _ _ _ => rfl
  have hs := swap_any futK_any f fv which 27 #[] (crRule) w hf hok hn0 hn hw0 hw1 (fun _ _ => rfl) (cr_by_ok  w) (cr_size )
  obtain ⟨fA, fc, rfl, _, _⟩ := id hf
  have l1 := lt_of_cell h1
  have l2 := lt_of_cell h2
  have HS := Lib.hid hs
  clear hs hf hok
  go_enter Tryz.func26, Tryz.ntmps26
  go_wp2_with fail
  refine HS.out.mono ?_
  rintro e w2 ⟨hb, gv, b, rfl, hx, hy⟩
  have HB := Lib.hid hb
  have HX := Lib.hid hx
  have HY := Lib.hid hy
  clear hb hx hy
  go_wp2_with fail
  go_ret2
  exact ⟨HB.out, _, _, rfl, HX.out, HY.out⟩
set_option maxRecDepth 100000 in
set_option maxHeartbeats 800000 in
theorem cr_law (L which : Int) (fv lv : Value) (f : List Nd) (l : List Int) (w : World) (hf : RdN w w.heap.size fv f) (hl : RdI w w.heap.size lv l) (hg : ErrVar w) (hw0 : -9223372036854775808 ≤ which) (hw1 : which ≤ 9223372036854775807) :
    Calls Tryz.prog 7 #[.int .i64 L, fv, lv, .int .i64 which] w (TrueB w) := by
  have hmf : ∀ (fn : Fn) (first cap : Array Value) (w : World), (Instr.makeFunc fn first cap).run Tryz.prog w = .ok (.func fn first cap) w := fun _ _ _ _ => rfl
  obtain ⟨fA, fc, rfl, _, _⟩ := id hf
  have H : ∀ W, Below w.heap.size w W → W.cell? ⟨w.heap.size, 0, none⟩ = some (.slice fA f.length fc) → W.cell? ⟨w.heap.size + 1, 0, none⟩ = some (.int .i64 which) →
      Calls Tryz.prog 12 #[.int .i64 L, .slice fA f.length fc, lv, .func (.func 26) #[] #[.pointer (some ⟨w.heap.size, 0, none⟩), .pointer (some ⟨w.heap.size + 1, 0, none⟩)]] W (TrueB W) := fun W hb c0 c1 => by
    have hfW := Rd.mono (Rd.below hf hb) hb.size
    have hlW := Rd.mono (Rd.below hl hb) hb.size
    by_cases hbad : checkP L (setsOf L) f ≠ 0 ∨ wcheckP L l ≠ 0
    · exact wform_bad L _ lv f l W _ _ hfW hlW hbad
    · have hc : checkP L (setsOf L) f = 0 := by omega
      have hw : wcheckP L l = 0 := by omega
      obtain ⟨hL, hn0, hn, hok⟩ := checkP_ok.1 hc
      obtain ⟨n, rfl⟩ := Int.eq_ofNat_of_zero_le (show 0 ≤ L by omega)
      refine wform_ok n _ lv f l W _ _ (swapR f which (crRule)) hfW hlW (ErrVar.below hg hb) hc hw (fun _ _ => rfl) (fun W2 hb2 => ?_) (fun u hu => ?_)
      · exact cr_change  which _ f _ _ W2 (Rd.mono (Rd.below hfW hb2) hb2.size) hok hn0 hn hw0 hw1 ((hb2.cell (lt_of_cell c0)).trans c0) ((hb2.cell (lt_of_cell c1)).trans c1)
      · obtain ⟨a1, a2⟩ := swapR_spec (D := fun _ => True) futK_any hok hn0 (fun t u h1 h2 => cr_spec  t u h1 h2) hu
        refine ⟨a1, fun x _ => ?_⟩
        rw [holds_eq _ f (fun i hi => ⟨futK_any _ (hok i hi).1, (hok i hi).2⟩) (by intro e; rw [e] at hn0; simp at hn0)]
        exact a2 x (fun _ _ => trivial)
  have HH := Lib.hid H
  obtain ⟨lA, lc, rfl, _, _⟩ := id hl
  clear H hf hl hg
  go_enter Tryz.func7, Tryz.ntmps7
  go_wp2_with fail
  obtain ⟨t0, t1⟩ := two_new w (Obj.cells #[.slice fA f.length fc] 22) (Obj.cells #[.int .i64 which] 3)
  have hb : Below w.heap.size w ((w.alloc (Obj.cells #[.slice fA f.length fc] 22)).alloc (Obj.cells #[.int .i64 which] 3)) := (((Below.refl _ _).alloc (Nat.le_refl _) _).alloc (by simp) _)
  refine (HH.out _ hb (by rw [fld_cell t0]; rfl) (by rw [fld_cell t1]; rfl)).mono ?_
  rintro e w2 ⟨rfl, hb2⟩
  have HB := Lib.hid (hb.trans (hb2.mono hb.size))
  clear hb hb2 t0 t1
  go_wp2_with fail
  go_ret
  exact ⟨rfl, HB.out⟩
end Go.Proofs.YtccknopchddicaaGreatDoor
