/- contract: the rule of FormDistributed, where it does not apply. -/
import Derived.Test.YtccknopchddicaaGreatDoorMGl
import Derived.Test.YtccknopchddicaaGreatDoorMGx
import Derived.Test.YtccknopchddicaaGreatDoorMYds1
import Derived.Test.YtccknopchddicaaGreatDoorMYds2
import Derived.Test.YtccknopchddicaaGreatDoorMYds5
set_option linter.unusedSimpArgs false
set_option linter.unusedVariables false
set_option linter.unnecessarySimpa false
namespace Go.Proofs.YtccknopchddicaaGreatDoor
open Go.RowKit Stile
set_option maxRecDepth 100000 in
set_option maxHeartbeats 3200000 in
theorem ds_three8  (w0 w : World) (g : Nat) (c : Nat) (a : Mt) (b : Mt) (hx : (Mt.n2 8 g c a b).has w) (h0 : w0.heap.size ≤ w.heap.size) (hna : asTwo 4 a.w = none) (hnk : (a.kk == 4) = false) (hnb : asTwo 5 b.w = none) (hnl : (b.kk == 5) = false) :
    Calls Tryz.prog 25 #[.agg #[.int .i64 8, .int .i64 0, .slice (some ⟨g, 0, none⟩) 2 c]] w (ByOut (dsRule) (Mt.n2 8 g c a b) w0 w) := by
  have hr : (dsRule) (Mt.n2 8 g c a b).w = none := by simp only [Mt.w]; show dsTwo 8 4 5 a.w b.w = _; unfold dsTwo; rw [hna, hnb]
  have HX := Lib.hid hx
  have HR := Lib.hid hr
  have HZ := Lib.hid h0
  clear hx hr h0
  go_enter Tryz.func25, Tryz.ntmps25
  go_upto_region 11 with fail
  have hh : ByHead w ((w.alloc (Obj.cells #[.int .i64 8, .int .i64 0, .slice (some ⟨g, 0, none⟩) 2 c] 29)).alloc (Obj.cells #[.int .i64 0, .int .i64 0, .slice none 0 0] 29)) (Mt.n2 8 g c a b) := by_head w (Mt.n2 8 g c a b)
  obtain ⟨W2, hW2⟩ : ∃ W2, (w.alloc (Obj.cells #[.int .i64 8, .int .i64 0, .slice (some ⟨g, 0, none⟩) 2 c] 29)).alloc (Obj.cells #[.int .i64 0, .int .i64 0, .slice none 0 0] 29) = W2 := ⟨_, rfl⟩
  rw [hW2] at hh ⊢
  clear hW2
  have hs2 : w.heap.size + 2 ≤ W2.heap.size := lt_blk hh.res
  have hX2 : (Mt.n2 8 g c a b).has W2 := HX.out.below hh.below (fun g hg => HX.out.lt g hg)
  have hgl_g : g < w.heap.size := HX.out.lt g (by simp [Mt.blks])
  obtain ⟨_, kaq0, kbq0, haq0, hbq0⟩ := id hX2
  have HS0 := Lib.hid (show AllS [(w.heap.size, 0, (Mt.n2 8 g c a b)), (g, 0, a), (g, 3, b)] W2 from ⟨box_kid hh.box, kid_at kaq0, kid_at kbq0, trivial⟩)
  have HHD := Lib.hid hh
  have HX2 := Lib.hid hX2
  clear hh hX2 haq0 hbq0 kaq0 kbq0
  go_region_held3 (fun w' => ((w'.cell? ⟨w.heap.size, 0, none⟩ = some (.int .i64 8) ∧ w'.cell? ⟨w.heap.size, 1, none⟩ = some (.int .i64 0) ∧ w'.cell? ⟨w.heap.size, 2, none⟩ = some (.slice (some ⟨g, 0, none⟩) 2 c)) ∧ (w'.cell? ⟨g, 0, none⟩ = some (.int .i64 a.kk) ∧ w'.cell? ⟨g, 1, none⟩ = some (.int .i64 a.ks) ∧ w'.cell? ⟨g, 2, none⟩ = some (.slice a.kA a.kids.length a.kc)) ∧ (w'.cell? ⟨g, 3, none⟩ = some (.int .i64 b.kk) ∧ w'.cell? ⟨g, 4, none⟩ = some (.int .i64 b.ks) ∧ w'.cell? ⟨g, 5, none⟩ = some (.slice b.kA b.kids.length b.kc)) ∧ True)) (first | exact HS0.out.draw | exact HS0.out.up ((up_alloc _ _).drew) | exact (HS0.out.up (up_alloc _ _)).up ((up_alloc _ _).drew) | exact HS0.out | exact HS0.out.up (up_alloc _ _) | exact (HS0.out.up (up_alloc _ _)).up (up_alloc _ _)) (fail)
  · have hU : Below W2.heap.size W2 ((W2.alloc (Obj.cells #[.int .i64 a.kk, .int .i64 a.ks, .slice a.kA a.kids.length a.kc] 29)).alloc (Obj.cells #[.int .i64 b.kk, .int .i64 b.ks, .slice b.kA b.kids.length b.kc] 29)).drew := (((up_alloc W2 _).alloc (by simp) _).drew)
    have hbx0 : ((W2.alloc (Obj.cells #[.int .i64 a.kk, .int .i64 a.ks, .slice a.kA a.kids.length a.kc] 29)).alloc (Obj.cells #[.int .i64 b.kk, .int .i64 b.ks, .slice b.kA b.kids.length b.kc] 29)).drew.heap[W2.heap.size]? = some (mtObj1 a) := heap_old2 _ _ _
    have hbx1 : ((W2.alloc (Obj.cells #[.int .i64 a.kk, .int .i64 a.ks, .slice a.kA a.kids.length a.kc] 29)).alloc (Obj.cells #[.int .i64 b.kk, .int .i64 b.ks, .slice b.kA b.kids.length b.kc] 29)).drew.heap[(W2.heap.size + 1)]? = some (mtObj1 b) := heap_new2 _ _ _
    obtain ⟨W3, hW3⟩ : ∃ W3, ((W2.alloc (Obj.cells #[.int .i64 a.kk, .int .i64 a.ks, .slice a.kA a.kids.length a.kc] 29)).alloc (Obj.cells #[.int .i64 b.kk, .int .i64 b.ks, .slice b.kA b.kids.length b.kc] 29)).drew = W3 := ⟨_, rfl⟩
    rw [hW3] at hU hbx0 hbx1 ⊢
    clear hW3
    have hsz3 : W2.heap.size + 2 ≤ W3.heap.size := lt_blk hbx1
    have hh : ByHead w W3 (Mt.n2 8 g c a b) := HHD.out.made hU
    have hX3 : (Mt.n2 8 g c a b).has W3 := HX2.out.made hU
    obtain ⟨xf0, xf1, xf2⟩ : (W3.cell? ⟨w.heap.size, 0, none⟩ = some (.int .i64 8) ∧ W3.cell? ⟨w.heap.size, 1, none⟩ = some (.int .i64 0) ∧ W3.cell? ⟨w.heap.size, 2, none⟩ = some (.slice (some ⟨g, 0, none⟩) 2 c)) := box_kid hh.box
    obtain ⟨bf00, bf01, bf02⟩ : (W3.cell? ⟨W2.heap.size, 0, none⟩ = some (.int .i64 a.kk) ∧ W3.cell? ⟨W2.heap.size, 1, none⟩ = some (.int .i64 a.ks) ∧ W3.cell? ⟨W2.heap.size, 2, none⟩ = some (.slice a.kA a.kids.length a.kc)) := box_kid hbx0
    obtain ⟨⟨y0, y1, y2⟩, z0, z1, z2, zl⟩ := res_at hh.res
    obtain ⟨bf10, bf11, bf12⟩ : (W3.cell? ⟨(W2.heap.size + 1), 0, none⟩ = some (.int .i64 b.kk) ∧ W3.cell? ⟨(W2.heap.size + 1), 1, none⟩ = some (.int .i64 b.ks) ∧ W3.cell? ⟨(W2.heap.size + 1), 2, none⟩ = some (.slice b.kA b.kids.length b.kc)) := box_kid hbx1
    have HHE := Lib.hid hh
    have HX3 := Lib.hid hX3
    have HBX0 := Lib.hid hbx0
    have HBX1 := Lib.hid hbx1
    clear hh hX3 hU HS0 HHD HX2 hbx0 hbx1
    go_wp2_with fail
    refine bodyPost_ret (v := .tuple #[(Mt.n2 8 g c a b).val, .bool false]) (by simp [results, Tryz.results25, go_sem, y0, y1, y2]; rfl) rfl (by_none HR.out ?_)
    exact ((HHE.out.below.setCell (by simp) _).setCell (by simp) _).setCell (by simp) _
  · have hU : Below W2.heap.size W2 ((W2.alloc (Obj.cells #[.int .i64 b.kk, .int .i64 b.ks, .slice b.kA b.kids.length b.kc] 29)).alloc (Obj.cells #[.int .i64 a.kk, .int .i64 a.ks, .slice a.kA a.kids.length a.kc] 29)).drew := (((up_alloc W2 _).alloc (by simp) _).drew)
    have hbx0 : ((W2.alloc (Obj.cells #[.int .i64 b.kk, .int .i64 b.ks, .slice b.kA b.kids.length b.kc] 29)).alloc (Obj.cells #[.int .i64 a.kk, .int .i64 a.ks, .slice a.kA a.kids.length a.kc] 29)).drew.heap[W2.heap.size]? = some (mtObj1 b) := heap_old2 _ _ _
    have hbx1 : ((W2.alloc (Obj.cells #[.int .i64 b.kk, .int .i64 b.ks, .slice b.kA b.kids.length b.kc] 29)).alloc (Obj.cells #[.int .i64 a.kk, .int .i64 a.ks, .slice a.kA a.kids.length a.kc] 29)).drew.heap[(W2.heap.size + 1)]? = some (mtObj1 a) := heap_new2 _ _ _
    obtain ⟨W3, hW3⟩ : ∃ W3, ((W2.alloc (Obj.cells #[.int .i64 b.kk, .int .i64 b.ks, .slice b.kA b.kids.length b.kc] 29)).alloc (Obj.cells #[.int .i64 a.kk, .int .i64 a.ks, .slice a.kA a.kids.length a.kc] 29)).drew = W3 := ⟨_, rfl⟩
    rw [hW3] at hU hbx0 hbx1 ⊢
    clear hW3
    have hsz3 : W2.heap.size + 2 ≤ W3.heap.size := lt_blk hbx1
    have hh : ByHead w W3 (Mt.n2 8 g c a b) := HHD.out.made hU
    have hX3 : (Mt.n2 8 g c a b).has W3 := HX2.out.made hU
    obtain ⟨xf0, xf1, xf2⟩ : (W3.cell? ⟨w.heap.size, 0, none⟩ = some (.int .i64 8) ∧ W3.cell? ⟨w.heap.size, 1, none⟩ = some (.int .i64 0) ∧ W3.cell? ⟨w.heap.size, 2, none⟩ = some (.slice (some ⟨g, 0, none⟩) 2 c)) := box_kid hh.box
    obtain ⟨bf00, bf01, bf02⟩ : (W3.cell? ⟨W2.heap.size, 0, none⟩ = some (.int .i64 b.kk) ∧ W3.cell? ⟨W2.heap.size, 1, none⟩ = some (.int .i64 b.ks) ∧ W3.cell? ⟨W2.heap.size, 2, none⟩ = some (.slice b.kA b.kids.length b.kc)) := box_kid hbx0
    obtain ⟨⟨y0, y1, y2⟩, z0, z1, z2, zl⟩ := res_at hh.res
    obtain ⟨bf10, bf11, bf12⟩ : (W3.cell? ⟨(W2.heap.size + 1), 0, none⟩ = some (.int .i64 a.kk) ∧ W3.cell? ⟨(W2.heap.size + 1), 1, none⟩ = some (.int .i64 a.ks) ∧ W3.cell? ⟨(W2.heap.size + 1), 2, none⟩ = some (.slice a.kA a.kids.length a.kc)) := box_kid hbx1
    have HHE := Lib.hid hh
    have HX3 := Lib.hid hX3
    have HBX0 := Lib.hid hbx0
    have HBX1 := Lib.hid hbx1
    clear hh hX3 hU HS0 HHD HX2 hbx0 hbx1
    go_wp2_with fail
    refine bodyPost_ret (v := .tuple #[(Mt.n2 8 g c a b).val, .bool false]) (by simp [results, Tryz.results25, go_sem, y0, y1, y2]; rfl) rfl (by_none HR.out ?_)
    exact ((HHE.out.below.setCell (by simp) _).setCell (by simp) _).setCell (by simp) _
set_option maxRecDepth 100000 in
set_option maxHeartbeats 3200000 in
theorem ds_three9  (w0 w : World) (g : Nat) (c : Nat) (a : Mt) (b : Mt) (hx : (Mt.n2 9 g c a b).has w) (h0 : w0.heap.size ≤ w.heap.size) (hna : asTwo 5 a.w = none) (hnk : (a.kk == 5) = false) (hnb : asTwo 4 b.w = none) (hnl : (b.kk == 4) = false) :
    Calls Tryz.prog 25 #[.agg #[.int .i64 9, .int .i64 0, .slice (some ⟨g, 0, none⟩) 2 c]] w (ByOut (dsRule) (Mt.n2 9 g c a b) w0 w) := by
  have hr : (dsRule) (Mt.n2 9 g c a b).w = none := by simp only [Mt.w]; show dsTwo 9 5 4 a.w b.w = _; unfold dsTwo; rw [hna, hnb]
  have HX := Lib.hid hx
  have HR := Lib.hid hr
  have HZ := Lib.hid h0
  clear hx hr h0
  go_enter Tryz.func25, Tryz.ntmps25
  go_upto_region 11 with fail
  have hh : ByHead w ((w.alloc (Obj.cells #[.int .i64 9, .int .i64 0, .slice (some ⟨g, 0, none⟩) 2 c] 29)).alloc (Obj.cells #[.int .i64 0, .int .i64 0, .slice none 0 0] 29)) (Mt.n2 9 g c a b) := by_head w (Mt.n2 9 g c a b)
  obtain ⟨W2, hW2⟩ : ∃ W2, (w.alloc (Obj.cells #[.int .i64 9, .int .i64 0, .slice (some ⟨g, 0, none⟩) 2 c] 29)).alloc (Obj.cells #[.int .i64 0, .int .i64 0, .slice none 0 0] 29) = W2 := ⟨_, rfl⟩
  rw [hW2] at hh ⊢
  clear hW2
  have hs2 : w.heap.size + 2 ≤ W2.heap.size := lt_blk hh.res
  have hX2 : (Mt.n2 9 g c a b).has W2 := HX.out.below hh.below (fun g hg => HX.out.lt g hg)
  have hgl_g : g < w.heap.size := HX.out.lt g (by simp [Mt.blks])
  obtain ⟨_, kaq0, kbq0, haq0, hbq0⟩ := id hX2
  have HS0 := Lib.hid (show AllS [(w.heap.size, 0, (Mt.n2 9 g c a b)), (g, 0, a), (g, 3, b)] W2 from ⟨box_kid hh.box, kid_at kaq0, kid_at kbq0, trivial⟩)
  have HHD := Lib.hid hh
  have HX2 := Lib.hid hX2
  clear hh hX2 haq0 hbq0 kaq0 kbq0
  go_region_held3 (fun w' => ((w'.cell? ⟨w.heap.size, 0, none⟩ = some (.int .i64 9) ∧ w'.cell? ⟨w.heap.size, 1, none⟩ = some (.int .i64 0) ∧ w'.cell? ⟨w.heap.size, 2, none⟩ = some (.slice (some ⟨g, 0, none⟩) 2 c)) ∧ (w'.cell? ⟨g, 0, none⟩ = some (.int .i64 a.kk) ∧ w'.cell? ⟨g, 1, none⟩ = some (.int .i64 a.ks) ∧ w'.cell? ⟨g, 2, none⟩ = some (.slice a.kA a.kids.length a.kc)) ∧ (w'.cell? ⟨g, 3, none⟩ = some (.int .i64 b.kk) ∧ w'.cell? ⟨g, 4, none⟩ = some (.int .i64 b.ks) ∧ w'.cell? ⟨g, 5, none⟩ = some (.slice b.kA b.kids.length b.kc)) ∧ True)) (first | exact HS0.out.draw | exact HS0.out.up ((up_alloc _ _).drew) | exact (HS0.out.up (up_alloc _ _)).up ((up_alloc _ _).drew) | exact HS0.out | exact HS0.out.up (up_alloc _ _) | exact (HS0.out.up (up_alloc _ _)).up (up_alloc _ _)) (fail)
  · have hU : Below W2.heap.size W2 ((W2.alloc (Obj.cells #[.int .i64 a.kk, .int .i64 a.ks, .slice a.kA a.kids.length a.kc] 29)).alloc (Obj.cells #[.int .i64 b.kk, .int .i64 b.ks, .slice b.kA b.kids.length b.kc] 29)).drew := (((up_alloc W2 _).alloc (by simp) _).drew)
    have hbx0 : ((W2.alloc (Obj.cells #[.int .i64 a.kk, .int .i64 a.ks, .slice a.kA a.kids.length a.kc] 29)).alloc (Obj.cells #[.int .i64 b.kk, .int .i64 b.ks, .slice b.kA b.kids.length b.kc] 29)).drew.heap[W2.heap.size]? = some (mtObj1 a) := heap_old2 _ _ _
    have hbx1 : ((W2.alloc (Obj.cells #[.int .i64 a.kk, .int .i64 a.ks, .slice a.kA a.kids.length a.kc] 29)).alloc (Obj.cells #[.int .i64 b.kk, .int .i64 b.ks, .slice b.kA b.kids.length b.kc] 29)).drew.heap[(W2.heap.size + 1)]? = some (mtObj1 b) := heap_new2 _ _ _
    obtain ⟨W3, hW3⟩ : ∃ W3, ((W2.alloc (Obj.cells #[.int .i64 a.kk, .int .i64 a.ks, .slice a.kA a.kids.length a.kc] 29)).alloc (Obj.cells #[.int .i64 b.kk, .int .i64 b.ks, .slice b.kA b.kids.length b.kc] 29)).drew = W3 := ⟨_, rfl⟩
    rw [hW3] at hU hbx0 hbx1 ⊢
    clear hW3
    have hsz3 : W2.heap.size + 2 ≤ W3.heap.size := lt_blk hbx1
    have hh : ByHead w W3 (Mt.n2 9 g c a b) := HHD.out.made hU
    have hX3 : (Mt.n2 9 g c a b).has W3 := HX2.out.made hU
    obtain ⟨xf0, xf1, xf2⟩ : (W3.cell? ⟨w.heap.size, 0, none⟩ = some (.int .i64 9) ∧ W3.cell? ⟨w.heap.size, 1, none⟩ = some (.int .i64 0) ∧ W3.cell? ⟨w.heap.size, 2, none⟩ = some (.slice (some ⟨g, 0, none⟩) 2 c)) := box_kid hh.box
    obtain ⟨bf00, bf01, bf02⟩ : (W3.cell? ⟨W2.heap.size, 0, none⟩ = some (.int .i64 a.kk) ∧ W3.cell? ⟨W2.heap.size, 1, none⟩ = some (.int .i64 a.ks) ∧ W3.cell? ⟨W2.heap.size, 2, none⟩ = some (.slice a.kA a.kids.length a.kc)) := box_kid hbx0
    obtain ⟨⟨y0, y1, y2⟩, z0, z1, z2, zl⟩ := res_at hh.res
    obtain ⟨bf10, bf11, bf12⟩ : (W3.cell? ⟨(W2.heap.size + 1), 0, none⟩ = some (.int .i64 b.kk) ∧ W3.cell? ⟨(W2.heap.size + 1), 1, none⟩ = some (.int .i64 b.ks) ∧ W3.cell? ⟨(W2.heap.size + 1), 2, none⟩ = some (.slice b.kA b.kids.length b.kc)) := box_kid hbx1
    have HHE := Lib.hid hh
    have HX3 := Lib.hid hX3
    have HBX0 := Lib.hid hbx0
    have HBX1 := Lib.hid hbx1
    clear hh hX3 hU HS0 HHD HX2 hbx0 hbx1
    go_wp2_with fail
    refine bodyPost_ret (v := .tuple #[(Mt.n2 9 g c a b).val, .bool false]) (by simp [results, Tryz.results25, go_sem, y0, y1, y2]; rfl) rfl (by_none HR.out ?_)
    exact ((HHE.out.below.setCell (by simp) _).setCell (by simp) _).setCell (by simp) _
  · have hU : Below W2.heap.size W2 ((W2.alloc (Obj.cells #[.int .i64 b.kk, .int .i64 b.ks, .slice b.kA b.kids.length b.kc] 29)).alloc (Obj.cells #[.int .i64 a.kk, .int .i64 a.ks, .slice a.kA a.kids.length a.kc] 29)).drew := (((up_alloc W2 _).alloc (by simp) _).drew)
    have hbx0 : ((W2.alloc (Obj.cells #[.int .i64 b.kk, .int .i64 b.ks, .slice b.kA b.kids.length b.kc] 29)).alloc (Obj.cells #[.int .i64 a.kk, .int .i64 a.ks, .slice a.kA a.kids.length a.kc] 29)).drew.heap[W2.heap.size]? = some (mtObj1 b) := heap_old2 _ _ _
    have hbx1 : ((W2.alloc (Obj.cells #[.int .i64 b.kk, .int .i64 b.ks, .slice b.kA b.kids.length b.kc] 29)).alloc (Obj.cells #[.int .i64 a.kk, .int .i64 a.ks, .slice a.kA a.kids.length a.kc] 29)).drew.heap[(W2.heap.size + 1)]? = some (mtObj1 a) := heap_new2 _ _ _
    obtain ⟨W3, hW3⟩ : ∃ W3, ((W2.alloc (Obj.cells #[.int .i64 b.kk, .int .i64 b.ks, .slice b.kA b.kids.length b.kc] 29)).alloc (Obj.cells #[.int .i64 a.kk, .int .i64 a.ks, .slice a.kA a.kids.length a.kc] 29)).drew = W3 := ⟨_, rfl⟩
    rw [hW3] at hU hbx0 hbx1 ⊢
    clear hW3
    have hsz3 : W2.heap.size + 2 ≤ W3.heap.size := lt_blk hbx1
    have hh : ByHead w W3 (Mt.n2 9 g c a b) := HHD.out.made hU
    have hX3 : (Mt.n2 9 g c a b).has W3 := HX2.out.made hU
    obtain ⟨xf0, xf1, xf2⟩ : (W3.cell? ⟨w.heap.size, 0, none⟩ = some (.int .i64 9) ∧ W3.cell? ⟨w.heap.size, 1, none⟩ = some (.int .i64 0) ∧ W3.cell? ⟨w.heap.size, 2, none⟩ = some (.slice (some ⟨g, 0, none⟩) 2 c)) := box_kid hh.box
    obtain ⟨bf00, bf01, bf02⟩ : (W3.cell? ⟨W2.heap.size, 0, none⟩ = some (.int .i64 b.kk) ∧ W3.cell? ⟨W2.heap.size, 1, none⟩ = some (.int .i64 b.ks) ∧ W3.cell? ⟨W2.heap.size, 2, none⟩ = some (.slice b.kA b.kids.length b.kc)) := box_kid hbx0
    obtain ⟨⟨y0, y1, y2⟩, z0, z1, z2, zl⟩ := res_at hh.res
    obtain ⟨bf10, bf11, bf12⟩ : (W3.cell? ⟨(W2.heap.size + 1), 0, none⟩ = some (.int .i64 a.kk) ∧ W3.cell? ⟨(W2.heap.size + 1), 1, none⟩ = some (.int .i64 a.ks) ∧ W3.cell? ⟨(W2.heap.size + 1), 2, none⟩ = some (.slice a.kA a.kids.length a.kc)) := box_kid hbx1
    have HHE := Lib.hid hh
    have HX3 := Lib.hid hX3
    have HBX0 := Lib.hid hbx0
    have HBX1 := Lib.hid hbx1
    clear hh hX3 hU HS0 HHD HX2 hbx0 hbx1
    go_wp2_with fail
    refine bodyPost_ret (v := .tuple #[(Mt.n2 9 g c a b).val, .bool false]) (by simp [results, Tryz.results25, go_sem, y0, y1, y2]; rfl) rfl (by_none HR.out ?_)
    exact ((HHE.out.below.setCell (by simp) _).setCell (by simp) _).setCell (by simp) _
set_option maxRecDepth 100000 in
set_option maxHeartbeats 3200000 in
theorem ds_no  (w0 w : World)  (x : Mt) (hx : x.has w) (h0 : w0.heap.size ≤ w.heap.size) (h6 : x.kk ≠ 6) (h7 : x.kk ≠ 7) (h8 : x.kk ≠ 8) (h9 : x.kk ≠ 9) (hr0 : dsRule x.w = none) :
    Calls Tryz.prog 25 #[.agg #[.int .i64 x.kk, .int .i64 x.ks, .slice x.kA x.kids.length x.kc]] w (ByOut (dsRule) x w0 w) := by
  have hr : (dsRule) x.w = none := hr0
  have HX := Lib.hid hx
  have HR := Lib.hid hr
  have HZ := Lib.hid h0
  clear hx hr h0
  have e6 : (x.kk == 6) = false := beq_eq_false_iff_ne.2 h6
  have e7 : (x.kk == 7) = false := beq_eq_false_iff_ne.2 h7
  have e8 : (x.kk == 8) = false := beq_eq_false_iff_ne.2 h8
  have e9 : (x.kk == 9) = false := beq_eq_false_iff_ne.2 h9
  have d6 : (x.kk != 6) = true := bne_iff_ne.2 h6
  have d7 : (x.kk != 7) = true := bne_iff_ne.2 h7
  have d8 : (x.kk != 8) = true := bne_iff_ne.2 h8
  have d9 : (x.kk != 9) = true := bne_iff_ne.2 h9
  go_enter Tryz.func25, Tryz.ntmps25
  go_wp2_with fail
  refine bodyPost_ret (v := .tuple #[x.val, .bool false]) (by simp [results, Tryz.results25, go_sem]; rfl) rfl (by_none HR.out (((Below.refl _ _).alloc (Nat.le_refl _) _).alloc (by simp) _))
end Go.Proofs.YtccknopchddicaaGreatDoor
/- contract: the rule of FormDistributed at next and weak of other parts. -/
namespace Go.Proofs.YtccknopchddicaaGreatDoor
open Go.RowKit Stile
set_option maxRecDepth 100000 in
set_option maxHeartbeats 3200000 in
theorem ds_out6 (w0 w : World) (g c : Nat) (a : Mt) (hx : (Mt.n1 6 g c a).has w) (h4 : asTwo 4 a.w = none) (d4 : (a.kk != 4) = true) (h5 : asTwo 5 a.w = none) (d5 : (a.kk != 5) = true) :
    Calls Tryz.prog 25 #[.agg #[.int .i64 6, .int .i64 0, .slice (some ⟨g, 0, none⟩) 1 c]] w (ByOut dsRule (Mt.n1 6 g c a) w0 w) := by
  have hr : dsRule (Mt.n1 6 g c a).w = none := by show (if (6 : Int) = 6 ∨ (6 : Int) = 7 then _ else none) = none; rw [if_pos (by decide)]; show (match asTwo 4 a.w with | some (p, q) => some (W.n2 4 (.n1 6 p) (.n1 6 q)) | none => match asTwo 5 a.w with | some (p, q) => some (.n2 5 (.n1 6 p) (.n1 6 q)) | none => none) = none; rw [h4, h5]
  have HX := Lib.hid hx
  have HR := Lib.hid hr
  clear hx hr h4 h5
  go_enter Tryz.func25, Tryz.ntmps25
  go_upto_region 4 with fail
  have hh : ByHead w ((w.alloc (Obj.cells #[.int .i64 6, .int .i64 0, .slice (some ⟨g, 0, none⟩) 1 c] 29)).alloc (Obj.cells #[.int .i64 0, .int .i64 0, .slice none 0 0] 29)) (Mt.n1 6 g c a) := by_head w (Mt.n1 6 g c a)
  obtain ⟨W2, hW2⟩ : ∃ W2, (w.alloc (Obj.cells #[.int .i64 6, .int .i64 0, .slice (some ⟨g, 0, none⟩) 1 c] 29)).alloc (Obj.cells #[.int .i64 0, .int .i64 0, .slice none 0 0] 29) = W2 := ⟨_, rfl⟩
  rw [hW2] at hh ⊢
  clear hW2
  have hs2 : w.heap.size + 2 ≤ W2.heap.size := lt_blk hh.res
  have hX2 : (Mt.n1 6 g c a).has W2 := HX.out.below hh.below (fun g hg => HX.out.lt g hg)
  obtain ⟨_, ka0, ha0⟩ := id hX2
  obtain ⟨xf0, xf1, xf2⟩ : (W2.cell? ⟨w.heap.size, 0, none⟩ = some (.int .i64 6) ∧ W2.cell? ⟨w.heap.size, 1, none⟩ = some (.int .i64 0) ∧ W2.cell? ⟨w.heap.size, 2, none⟩ = some (.slice (some ⟨g, 0, none⟩) 1 c)) := box_kid hh.box
  obtain ⟨kf0, kf1, kf2⟩ : (W2.cell? ⟨g, 0, none⟩ = some (.int .i64 a.kk) ∧ W2.cell? ⟨g, 1, none⟩ = some (.int .i64 a.ks) ∧ W2.cell? ⟨g, 2, none⟩ = some (.slice a.kA a.kids.length a.kc)) := kid_at ka0
  have HHD := Lib.hid hh
  clear hh hX2 ka0 ha0
  go_upto_region 6 with fail
  have hU : Below W2.heap.size W2 (W2.alloc (Obj.cells #[.int .i64 a.kk, .int .i64 a.ks, .slice a.kA a.kids.length a.kc] 29)) := up_alloc _ _
  obtain ⟨W3, hW3⟩ : ∃ W3, (W2.alloc (Obj.cells #[.int .i64 a.kk, .int .i64 a.ks, .slice a.kA a.kids.length a.kc] 29)) = W3 := ⟨_, rfl⟩
  rw [hW3] at hU ⊢
  clear hW3 xf0 xf1 xf2 kf0 kf1 kf2
  have hh := HHD.out.made hU
  clear hU HHD
  obtain ⟨xf0, xf1, xf2⟩ : (W3.cell? ⟨w.heap.size, 0, none⟩ = some (.int .i64 6) ∧ W3.cell? ⟨w.heap.size, 1, none⟩ = some (.int .i64 0) ∧ W3.cell? ⟨w.heap.size, 2, none⟩ = some (.slice (some ⟨g, 0, none⟩) 1 c)) := box_kid hh.box
  obtain ⟨⟨y0, y1, y2⟩, z0, z1, z2, zl⟩ := res_at hh.res
  have HHD := Lib.hid hh
  clear hh
  go_wp2_with fail
  refine bodyPost_ret (v := .tuple #[(Mt.n1 6 g c a).val, .bool false]) (by simp [results, Tryz.results25, go_sem, y0, y1, y2]; rfl) rfl (by_none HR.out ?_)
  exact ((HHD.out.below.setCell (by simp) _).setCell (by simp) _).setCell (by simp) _
set_option maxRecDepth 100000 in
set_option maxHeartbeats 3200000 in
theorem ds_out7 (w0 w : World) (g c : Nat) (a : Mt) (hx : (Mt.n1 7 g c a).has w) (h4 : asTwo 4 a.w = none) (d4 : (a.kk != 4) = true) (h5 : asTwo 5 a.w = none) (d5 : (a.kk != 5) = true) :
    Calls Tryz.prog 25 #[.agg #[.int .i64 7, .int .i64 0, .slice (some ⟨g, 0, none⟩) 1 c]] w (ByOut dsRule (Mt.n1 7 g c a) w0 w) := by
  have hr : dsRule (Mt.n1 7 g c a).w = none := by show (if (7 : Int) = 6 ∨ (7 : Int) = 7 then _ else none) = none; rw [if_pos (by decide)]; show (match asTwo 4 a.w with | some (p, q) => some (W.n2 4 (.n1 7 p) (.n1 7 q)) | none => match asTwo 5 a.w with | some (p, q) => some (.n2 5 (.n1 7 p) (.n1 7 q)) | none => none) = none; rw [h4, h5]
  have HX := Lib.hid hx
  have HR := Lib.hid hr
  clear hx hr h4 h5
  go_enter Tryz.func25, Tryz.ntmps25
  go_upto_region 4 with fail
  have hh : ByHead w ((w.alloc (Obj.cells #[.int .i64 7, .int .i64 0, .slice (some ⟨g, 0, none⟩) 1 c] 29)).alloc (Obj.cells #[.int .i64 0, .int .i64 0, .slice none 0 0] 29)) (Mt.n1 7 g c a) := by_head w (Mt.n1 7 g c a)
  obtain ⟨W2, hW2⟩ : ∃ W2, (w.alloc (Obj.cells #[.int .i64 7, .int .i64 0, .slice (some ⟨g, 0, none⟩) 1 c] 29)).alloc (Obj.cells #[.int .i64 0, .int .i64 0, .slice none 0 0] 29) = W2 := ⟨_, rfl⟩
  rw [hW2] at hh ⊢
  clear hW2
  have hs2 : w.heap.size + 2 ≤ W2.heap.size := lt_blk hh.res
  have hX2 : (Mt.n1 7 g c a).has W2 := HX.out.below hh.below (fun g hg => HX.out.lt g hg)
  obtain ⟨_, ka0, ha0⟩ := id hX2
  obtain ⟨xf0, xf1, xf2⟩ : (W2.cell? ⟨w.heap.size, 0, none⟩ = some (.int .i64 7) ∧ W2.cell? ⟨w.heap.size, 1, none⟩ = some (.int .i64 0) ∧ W2.cell? ⟨w.heap.size, 2, none⟩ = some (.slice (some ⟨g, 0, none⟩) 1 c)) := box_kid hh.box
  obtain ⟨kf0, kf1, kf2⟩ : (W2.cell? ⟨g, 0, none⟩ = some (.int .i64 a.kk) ∧ W2.cell? ⟨g, 1, none⟩ = some (.int .i64 a.ks) ∧ W2.cell? ⟨g, 2, none⟩ = some (.slice a.kA a.kids.length a.kc)) := kid_at ka0
  have HHD := Lib.hid hh
  clear hh hX2 ka0 ha0
  go_upto_region 6 with fail
  have hU : Below W2.heap.size W2 (W2.alloc (Obj.cells #[.int .i64 a.kk, .int .i64 a.ks, .slice a.kA a.kids.length a.kc] 29)) := up_alloc _ _
  obtain ⟨W3, hW3⟩ : ∃ W3, (W2.alloc (Obj.cells #[.int .i64 a.kk, .int .i64 a.ks, .slice a.kA a.kids.length a.kc] 29)) = W3 := ⟨_, rfl⟩
  rw [hW3] at hU ⊢
  clear hW3 xf0 xf1 xf2 kf0 kf1 kf2
  have hh := HHD.out.made hU
  clear hU HHD
  obtain ⟨xf0, xf1, xf2⟩ : (W3.cell? ⟨w.heap.size, 0, none⟩ = some (.int .i64 7) ∧ W3.cell? ⟨w.heap.size, 1, none⟩ = some (.int .i64 0) ∧ W3.cell? ⟨w.heap.size, 2, none⟩ = some (.slice (some ⟨g, 0, none⟩) 1 c)) := box_kid hh.box
  obtain ⟨⟨y0, y1, y2⟩, z0, z1, z2, zl⟩ := res_at hh.res
  have HHD := Lib.hid hh
  clear hh
  go_wp2_with fail
  refine bodyPost_ret (v := .tuple #[(Mt.n1 7 g c a).val, .bool false]) (by simp [results, Tryz.results25, go_sem, y0, y1, y2]; rfl) rfl (by_none HR.out ?_)
  exact ((HHD.out.below.setCell (by simp) _).setCell (by simp) _).setCell (by simp) _
end Go.Proofs.YtccknopchddicaaGreatDoor
/- contract: the rule of FormDistributed, whole. -/
namespace Go.Proofs.YtccknopchddicaaGreatDoor
open Go.RowKit Stile
theorem ds_by_ok {mm : Int} (w0 : World) : ByOk futK mm w0 25 #[] dsRule := by
  intro m w hb hm hok hsz
  have h0 : w0.heap.size ≤ w.heap.size := hb.size
  show Calls _ _ #[m.val] w (ByOut dsRule m w0 w)
  cases m with
  | n0 k s =>
    have hk := leaf_kk hok
    exact ds_no w0 w (.n0 k s) hm h0 (by intro e; have e : k = 6 := e; omega) (by intro e; have e : k = 7 := e; omega) (by intro e; have e : k = 8 := e; omega) (by intro e; have e : k = 9 := e; omega) rfl
  | n1 k g c x =>
    have hk := one_kk hok
    have hx : x.w.ok futK mm := hok.2.2
    rcases hk with rfl | rfl | rfl
    · exact ds_no w0 w (.n1 3 g c x) hm h0 (by intro e; have e : (3 : Int) = 6 := e; omega) (by intro e; have e : (3 : Int) = 7 := e; omega) (by intro e; have e : (3 : Int) = 8 := e; omega) (by intro e; have e : (3 : Int) = 9 := e; omega) rfl
    · rcases mt_two (show twoK 4 = true from rfl) x hx with ⟨ga, ca, p, q, rfl⟩ | ⟨h4, d4⟩
      · exact ds_in64 w0 w g c ga ca p q hm h0
      · rcases mt_two (show twoK 5 = true from rfl) x hx with ⟨ga, ca, p, q, rfl⟩ | ⟨h5, d5⟩
        · exact ds_in65 w0 w g c ga ca p q hm h0
        · exact ds_out6 w0 w g c x hm h4 (by simpa using d4) h5 (by simpa using d5)
    · rcases mt_two (show twoK 4 = true from rfl) x hx with ⟨ga, ca, p, q, rfl⟩ | ⟨h4, d4⟩
      · exact ds_in74 w0 w g c ga ca p q hm h0
      · rcases mt_two (show twoK 5 = true from rfl) x hx with ⟨ga, ca, p, q, rfl⟩ | ⟨h5, d5⟩
        · exact ds_in75 w0 w g c ga ca p q hm h0
        · exact ds_out7 w0 w g c x hm h4 (by simpa using d4) h5 (by simpa using d5)
  | n2 k g c x y =>
    have hk := two_kk hok
    have hx : x.w.ok futK mm := hok.2.2.1
    have hy : y.w.ok futK mm := hok.2.2.2
    by_cases h8 : k = 8
    · subst h8
      rcases mt_two (show twoK 4 = true from rfl) x hx with ⟨ga, ca, p, q, rfl⟩ | ⟨ha, hak⟩
      · exact ds_one8 w0 w g c ga ca p q y hm h0
      · rcases mt_two (show twoK 5 = true from rfl) y hy with ⟨gb, cb, p, q, rfl⟩ | ⟨hb', hbk⟩
        · exact ds_two8 w0 w g c gb cb x p q hm h0 ha hak
        · exact ds_three8 w0 w g c x y hm h0 ha hak hb' hbk
    · by_cases h9 : k = 9
      · subst h9
        rcases mt_two (show twoK 5 = true from rfl) x hx with ⟨ga, ca, p, q, rfl⟩ | ⟨ha, hak⟩
        · exact ds_one9 w0 w g c ga ca p q y hm h0
        · rcases mt_two (show twoK 4 = true from rfl) y hy with ⟨gb, cb, p, q, rfl⟩ | ⟨hb', hbk⟩
          · exact ds_two9 w0 w g c gb cb x p q hm h0 ha hak
          · exact ds_three9 w0 w g c x y hm h0 ha hak hb' hbk
      · refine ds_no w0 w (.n2 k g c x y) hm h0 (by intro e; have e : k = 6 := e; omega) (by intro e; have e : k = 7 := e; omega) h8 h9 ?_
        show (if k = 8 then _ else if k = 9 then _ else none) = none
        rw [if_neg h8, if_neg h9]
end Go.Proofs.YtccknopchddicaaGreatDoor
/- contract: the change of FormDistributed, and the law: it answers true. -/
namespace Go.Proofs.YtccknopchddicaaGreatDoor
open Go.RowKit Stile
set_option maxRecDepth 100000 in
set_option maxHeartbeats 800000 in
theorem ds_change {mm : Int} (which : Int) (fv : Value) (f : List Nd) (pf pw : Addr) (w : World) (hf : RdN w w.heap.size fv f) (hok : okF futK mm f) (hn0 : 0 < f.length) (hn : f.length ≤ 40) (hw0 : -9223372036854775808 ≤ which) (hw1 : which ≤ 9223372036854775807)
    (h1 : w.cell? pf = some fv) (h2 : w.cell? pw = some (.int .i64 which)) :
    Calls Tryz.prog 24 #[.pointer (some pf), .pointer (some pw)] w (SwapOut (swapR f which (dsRule)) w) := by
  have hmf : ∀ (fn : Fn) (first cap : Array Value) (w : World), (Instr.makeFunc fn first cap).run Tryz.prog w = .ok (.func fn first cap) w := fun _ _ _ _ => rfl
  have hs := swap_any futK_any f fv which 25 #[] (dsRule) w hf hok hn0 hn hw0 hw1 (fun _ _ => rfl) (ds_by_ok  w) (ds_size )
  obtain ⟨fA, fc, rfl, _, _⟩ := id hf
  have l1 := lt_of_cell h1
  have l2 := lt_of_cell h2
  have HS := Lib.hid hs
  clear hs hf hok
  go_enter Tryz.func24, Tryz.ntmps24
  go_wp2_with fail
  refine HS.out.mono ?_
  rintro e w2 ⟨hb, gv, b, rfl, hx, hy⟩
  have HB := Lib.hid hb
  have HX := Lib.hid hx
  have HY := Lib.hid hy
  clear hb hx hy
  go_wp2_with fail
  go_ret2
  exact ⟨HB.out, _, _, rfl, HX.out, HY.out⟩
set_option maxRecDepth 100000 in
set_option maxHeartbeats 800000 in
theorem ds_law (L which : Int) (fv lv : Value) (f : List Nd) (l : List Int) (w : World) (hf : RdN w w.heap.size fv f) (hl : RdI w w.heap.size lv l) (hg : ErrVar w) (hw0 : -9223372036854775808 ≤ which) (hw1 : which ≤ 9223372036854775807) :
    Calls Tryz.prog 6 #[.int .i64 L, fv, lv, .int .i64 which] w (TrueB w) := by
  have hmf : ∀ (fn : Fn) (first cap : Array Value) (w : World), (Instr.makeFunc fn first cap).run Tryz.prog w = .ok (.func fn first cap) w := fun _ _ _ _ => rfl
  obtain ⟨fA, fc, rfl, _, _⟩ := id hf
  have H : ∀ W, Below w.heap.size w W → W.cell? ⟨w.heap.size, 0, none⟩ = some (.slice fA f.length fc) → W.cell? ⟨w.heap.size + 1, 0, none⟩ = some (.int .i64 which) →
      Calls Tryz.prog 12 #[.int .i64 L, .slice fA f.length fc, lv, .func (.func 24) #[] #[.pointer (some ⟨w.heap.size, 0, none⟩), .pointer (some ⟨w.heap.size + 1, 0, none⟩)]] W (TrueB W) := fun W hb c0 c1 => by
    have hfW := Rd.mono (Rd.below hf hb) hb.size
    have hlW := Rd.mono (Rd.below hl hb) hb.size
    by_cases hbad : checkP L (setsOf L) f ≠ 0 ∨ wcheckP L l ≠ 0
    · exact wform_bad L _ lv f l W _ _ hfW hlW hbad
    · have hc : checkP L (setsOf L) f = 0 := by omega
      have hw : wcheckP L l = 0 := by omega
      obtain ⟨hL, hn0, hn, hok⟩ := checkP_ok.1 hc
      obtain ⟨n, rfl⟩ := Int.eq_ofNat_of_zero_le (show 0 ≤ L by omega)
      refine wform_ok n _ lv f l W _ _ (swapR f which (dsRule)) hfW hlW (ErrVar.below hg hb) hc hw (fun _ _ => rfl) (fun W2 hb2 => ?_) (fun u hu => ?_)
      · exact ds_change  which _ f _ _ W2 (Rd.mono (Rd.below hfW hb2) hb2.size) hok hn0 hn hw0 hw1 ((hb2.cell (lt_of_cell c0)).trans c0) ((hb2.cell (lt_of_cell c1)).trans c1)
      · obtain ⟨a1, a2⟩ := swapR_spec (D := fun _ => True) futK_any hok hn0 (fun t u h1 h2 => ds_spec  t u h1 h2) hu
        refine ⟨a1, fun x _ => ?_⟩
        rw [holds_eq _ f (fun i hi => ⟨futK_any _ (hok i hi).1, (hok i hi).2⟩) (by intro e; rw [e] at hn0; simp at hn0)]
        exact a2 x (fun _ _ => trivial)
  have HH := Lib.hid H
  obtain ⟨lA, lc, rfl, _, _⟩ := id hl
  clear H hf hl hg
  go_enter Tryz.func6, Tryz.ntmps6
  go_wp2_with fail
  obtain ⟨t0, t1⟩ := two_new w (Obj.cells #[.slice fA f.length fc] 22) (Obj.cells #[.int .i64 which] 3)
  have hb : Below w.heap.size w ((w.alloc (Obj.cells #[.slice fA f.length fc] 22)).alloc (Obj.cells #[.int .i64 which] 3)) := (((Below.refl _ _).alloc (Nat.le_refl _) _).alloc (by simp) _)
  refine (HH.out _ hb (by rw [fld_cell t0]; rfl) (by rw [fld_cell t1]; rfl)).mono ?_
  rintro e w2 ⟨rfl, hb2⟩
  have HB := Lib.hid (hb.trans (hb2.mono hb.size))
  clear hb hb2 t0 t1
  go_wp2_with fail
  go_ret
  exact ⟨rfl, HB.out⟩
end Go.Proofs.YtccknopchddicaaGreatDoor
