/- contract: the rule of FormUnrolled at until. -/
import Derived.Test.YtccknopchddicaaGreatDoorMGx
set_option linter.unusedSimpArgs false
set_option linter.unusedVariables false
set_option linter.unnecessarySimpa false
namespace Go.Proofs.YtccknopchddicaaGreatDoor
open Go.RowKit Stile
set_option maxRecDepth 100000 in
set_option maxHeartbeats 3200000 in
theorem ur_until  (w0 w : World) (g : Nat) (c : Nat) (a : Mt) (b : Mt) (hx : (Mt.n2 8 g c a b).has w) (h0 : w0.heap.size ≤ w.heap.size) :
    Calls Tryz.prog 22 #[.agg #[.int .i64 8, .int .i64 0, .slice (some ⟨g, 0, none⟩) 2 c]] w (ByOut (urRule) (Mt.n2 8 g c a b) w0 w) := by
  have hr : (urRule) (Mt.n2 8 g c a b).w = some (W.n2 5 (W.n2 4 (W.n1 6 (W.n0 0 0)) b.w) (W.n2 4 a.w (W.n1 6 (W.n2 8 a.w b.w)))) := rfl
  have HX := Lib.hid hx
  have HR := Lib.hid hr
  have HZ := Lib.hid h0
  clear hx hr h0
  go_enter Tryz.func22, Tryz.ntmps22
  go_upto_region 3 with fail
  have hh : ByHead w ((w.alloc (Obj.cells #[.int .i64 8, .int .i64 0, .slice (some ⟨g, 0, none⟩) 2 c] 29)).alloc (Obj.cells #[.int .i64 0, .int .i64 0, .slice none 0 0] 29)) (Mt.n2 8 g c a b) := by_head w (Mt.n2 8 g c a b)
  obtain ⟨W2, hW2⟩ : ∃ W2, (w.alloc (Obj.cells #[.int .i64 8, .int .i64 0, .slice (some ⟨g, 0, none⟩) 2 c] 29)).alloc (Obj.cells #[.int .i64 0, .int .i64 0, .slice none 0 0] 29) = W2 := ⟨_, rfl⟩
  rw [hW2] at hh ⊢
  clear hW2
  have hs2 : w.heap.size + 2 ≤ W2.heap.size := lt_blk hh.res
  have hX2 : (Mt.n2 8 g c a b).has W2 := HX.out.below hh.below (fun g hg => HX.out.lt g hg)
  have hgl_g : g < w.heap.size := HX.out.lt g (by simp [Mt.blks])
  have hX5 : (Mt.n2 8 g c a b).has W2.drew := hX2.made (Below.refl _ _).drew
  have hH5 : ByHead w W2.drew (Mt.n2 8 g c a b) := hh.made (Below.refl _ _).drew
  obtain ⟨_, ka0, kb0, ha0, hb0⟩ := id hX5
  have HS0 := Lib.hid (show AllS [(w.heap.size, 0, (Mt.n2 8 g c a b)), (g, 0, a), (g, 3, b)] W2.drew from ⟨box_kid hH5.box, kid_at ka0, kid_at kb0, trivial⟩)
  have HH_0 := Lib.hid hb0
  have HH_1 := Lib.hid ha0
  have HH_2 := Lib.hid hX5
  have HH5 := Lib.hid hH5
  clear hh hX2 hX5 hH5 ha0 hb0 ka0 kb0 
  have hsb : W2.heap.size ≤ W2.drew.heap.size := Nat.le_refl _
  have t1 : True := trivial
  have t2 : True := trivial
  have t3 : True := trivial
  have t4 : True := trivial
  have t5 : True := trivial
  have t6 : True := trivial
  have t7 : True := trivial
  go_region_held3 (fun w' => ((w'.cell? ⟨w.heap.size, 0, none⟩ = some (.int .i64 8) ∧ w'.cell? ⟨w.heap.size, 1, none⟩ = some (.int .i64 0) ∧ w'.cell? ⟨w.heap.size, 2, none⟩ = some (.slice (some ⟨g, 0, none⟩) 2 c)) ∧ (w'.cell? ⟨g, 0, none⟩ = some (.int .i64 a.kk) ∧ w'.cell? ⟨g, 1, none⟩ = some (.int .i64 a.ks) ∧ w'.cell? ⟨g, 2, none⟩ = some (.slice a.kA a.kids.length a.kc)) ∧ (w'.cell? ⟨g, 3, none⟩ = some (.int .i64 b.kk) ∧ w'.cell? ⟨g, 4, none⟩ = some (.int .i64 b.ks) ∧ w'.cell? ⟨g, 5, none⟩ = some (.slice b.kA b.kids.length b.kc)) ∧ True)) (first | exact HS0.out | exact HS0.out.up (up_alloc _ _) | exact HS1.out | exact HS1.out.up (up_alloc _ _) | exact HS2.out | exact HS2.out.up (up_alloc _ _) | exact HS3.out | exact HS3.out.up (up_alloc _ _) | exact HS4.out | exact HS4.out.up (up_alloc _ _) | exact HS5.out | exact HS5.out.up (up_alloc _ _) | exact HS6.out | exact HS6.out.up (up_alloc _ _) | exact HS7.out | exact AllS.set3 _ _ _ HS7.out ⟨by omega, by omega, by omega, trivial⟩) (first
          | (have _t := t1; go_at_call 23; refine Calls.mono (any_any _) ?_; rintro e e1 ⟨ga1, rfl, hc1⟩; have HC1 := Lib.hid hc1; have HB1 := Lib.hid hc1.2.2; have HU1 := Lib.hid (hc1.2.2); have HS1 := Lib.hid (HS0.out.up hc1.2.2); clear hc1 t1)
          | (have _t := t2; go_at_call 16; refine Calls.mono (wmake_any _ _ _ _ _) ?_; rintro e e2 ⟨rfl, hp2⟩; have hb2 : Below (e1.alloc (mtObj2 (Mt.n1 6 ga1 1 (Mt.n0 0 0)) b)).heap.size (e1.alloc (mtObj2 (Mt.n1 6 ga1 1 (Mt.n0 0 0)) b)) e2 := hp2; have HB2 := Lib.hid hb2; have HU2 := Lib.hid (up_trans HU1.out (up_call hb2)); have HS2 := Lib.hid (HS1.out.up (up_call hb2)); clear hb2 hp2 t2)
          | (have _t := t3; go_at_call 17; refine Calls.mono (copy_out a _ (HH_1.out.made HU2.out)) ?_; rintro e e3 ⟨cm3, rfl, hc3⟩; have HC3 := Lib.hid hc3; have HB3 := Lib.hid hc3.2.2.2; have HU3 := Lib.hid (up_trans HU2.out hc3.2.2.2); have HS3 := Lib.hid (HS2.out.up hc3.2.2.2); clear hc3 t3)
          | (have _t := t4; go_at_call 17; refine Calls.mono (show Calls Tryz.prog 17 #[.agg #[.int .i64 8, .int .i64 0, .slice (some ⟨g, 0, none⟩) 2 c]] e3 (fun e w' => ∃ m9 : Mt, e = .returned (.agg #[.int .i64 m9.kk, .int .i64 m9.ks, .slice m9.kA m9.kids.length m9.kc]) ∧ CopyOut (Mt.n2 8 g c a b) e3 m9 w') from copy_out (Mt.n2 8 g c a b) _ (HH_2.out.made HU3.out)) ?_; rintro e e4 ⟨cm4, rfl, hc4⟩; have HC4 := Lib.hid hc4; have HB4 := Lib.hid hc4.2.2.2; have HU4 := Lib.hid (up_trans HU3.out hc4.2.2.2); have HS4 := Lib.hid (HS3.out.up hc4.2.2.2); clear hc4 t4)
          | (have _t := t5; go_at_call 16; refine Calls.mono (wmake_any _ _ _ _ _) ?_; rintro e e5 ⟨rfl, hp5⟩; have hb5 : Below (e4.alloc (mtObj1 cm4)).heap.size (e4.alloc (mtObj1 cm4)) e5 := hp5; have HB5 := Lib.hid hb5; have HU5 := Lib.hid (up_trans HU4.out (up_call hb5)); have HS5 := Lib.hid (HS4.out.up (up_call hb5)); clear hb5 hp5 t5)
          | (have _t := t6; go_at_call 16; refine Calls.mono (wmake_any _ _ _ _ _) ?_; rintro e e6 ⟨rfl, hp6⟩; have hb6 : Below (e5.alloc (mtObj2 cm3 (Mt.n1 6 e4.heap.size 1 cm4))).heap.size (e5.alloc (mtObj2 cm3 (Mt.n1 6 e4.heap.size 1 cm4))) e6 := hp6; have HB6 := Lib.hid hb6; have HU6 := Lib.hid (up_trans HU5.out (up_call hb6)); have HS6 := Lib.hid (HS5.out.up (up_call hb6)); clear hb6 hp6 t6)
          | (have _t := t7; go_at_call 16; refine Calls.mono (wmake_any _ _ _ _ _) ?_; rintro e e7 ⟨rfl, hp7⟩; have hb7 : Below (e6.alloc (mtObj2 (Mt.n2 4 e1.heap.size 2 (Mt.n1 6 ga1 1 (Mt.n0 0 0)) b) (Mt.n2 4 e5.heap.size 2 cm3 (Mt.n1 6 e4.heap.size 1 cm4)))).heap.size (e6.alloc (mtObj2 (Mt.n2 4 e1.heap.size 2 (Mt.n1 6 ga1 1 (Mt.n0 0 0)) b) (Mt.n2 4 e5.heap.size 2 cm3 (Mt.n1 6 e4.heap.size 1 cm4)))) e7 := hp7; have HB7 := Lib.hid hb7; have HU7 := Lib.hid (up_trans HU6.out (up_call hb7)); have HS7 := Lib.hid (HS6.out.up (up_call hb7)); obtain ⟨⟨y0, y1, y2⟩, z0, z1, z2, zl⟩ := res_at (HH5.out.made HU7.out).res; clear hb7 hp7 t7))
  all_goals
    go_wp2_with fail
    have hsz_0 : w.heap.size + 2 ≤ W2.drew.heap.size := by omega
    have s1 : Below W2.drew.heap.size W2.drew e1 := HB1.out
    have u1 : Below W2.drew.heap.size W2.drew e1 := s1
    have hsz_1 : w.heap.size + 2 ≤ e1.heap.size := Nat.le_trans hsz_0 u1.size
    have s2 : Below e1.heap.size e1 e2 := up_call HB2.out
    have u2 : Below W2.drew.heap.size W2.drew e2 := up_trans u1 s2
    have hsz_2 : w.heap.size + 2 ≤ e2.heap.size := Nat.le_trans hsz_0 u2.size
    have s3 : Below e2.heap.size e2 e3 := HB3.out
    have u3 : Below W2.drew.heap.size W2.drew e3 := up_trans u2 s3
    have hsz_3 : w.heap.size + 2 ≤ e3.heap.size := Nat.le_trans hsz_0 u3.size
    have s4 : Below e3.heap.size e3 e4 := HB4.out
    have u4 : Below W2.drew.heap.size W2.drew e4 := up_trans u3 s4
    have hsz_4 : w.heap.size + 2 ≤ e4.heap.size := Nat.le_trans hsz_0 u4.size
    have s5 : Below e4.heap.size e4 e5 := up_call HB5.out
    have u5 : Below W2.drew.heap.size W2.drew e5 := up_trans u4 s5
    have hsz_5 : w.heap.size + 2 ≤ e5.heap.size := Nat.le_trans hsz_0 u5.size
    have s6 : Below e5.heap.size e5 e6 := up_call HB6.out
    have u6 : Below W2.drew.heap.size W2.drew e6 := up_trans u5 s6
    have hsz_6 : w.heap.size + 2 ≤ e6.heap.size := Nat.le_trans hsz_0 u6.size
    have s7 : Below e6.heap.size e6 e7 := up_call HB7.out
    have u7 : Below W2.drew.heap.size W2.drew e7 := up_trans u6 s7
    have hsz_7 : w.heap.size + 2 ≤ e7.heap.size := Nat.le_trans hsz_0 u7.size
    obtain ⟨c1a, c1b, c1c⟩ := HC1.out
    have m2 : (Mt.n2 4 e1.heap.size 2 (Mt.n1 6 ga1 1 (Mt.n0 0 0)) b).has e2 := mk2_has (W := e1) 4 c1b (HH_0.out.made u1) (up_next HB2.out)
    have f2 : Fr (Mt.n2 8 g c a b) (w.heap.size + 2) w0.heap.size (Mt.n2 4 e1.heap.size 2 (Mt.n1 6 ga1 1 (Mt.n0 0 0)) b) := Fr.n2 hsz_1 (Fr.n1 (Nat.le_trans hsz_0 c1a) Fr.n0) (Fr.kid (Fr.self _ _ _) (z := b) (by simp [Mt.kids]))
    obtain ⟨c3a, c3b, c3c, c3d⟩ := HC3.out
    obtain ⟨c4a, c4b, c4c, c4d⟩ := HC4.out
    have m5 : (Mt.n1 6 e4.heap.size 1 cm4).has e5 := mk1_has (W := e4) 6 c4b (up_next HB5.out)
    have f5 : Fr (Mt.n2 8 g c a b) (w.heap.size + 2) w0.heap.size (Mt.n1 6 e4.heap.size 1 cm4) := Fr.n1 hsz_4 (Fr.new c4c hsz_3)
    have m6 : (Mt.n2 4 e5.heap.size 2 cm3 (Mt.n1 6 e4.heap.size 1 cm4)).has e6 := mk2_has (W := e5) 4 (c3b.made (up_trans (s4) s5)) m5 (up_next HB6.out)
    have f6 : Fr (Mt.n2 8 g c a b) (w.heap.size + 2) w0.heap.size (Mt.n2 4 e5.heap.size 2 cm3 (Mt.n1 6 e4.heap.size 1 cm4)) := Fr.n2 hsz_5 (Fr.new c3c hsz_2) f5
    have m7 : (Mt.n2 5 e6.heap.size 2 (Mt.n2 4 e1.heap.size 2 (Mt.n1 6 ga1 1 (Mt.n0 0 0)) b) (Mt.n2 4 e5.heap.size 2 cm3 (Mt.n1 6 e4.heap.size 1 cm4))).has e7 := mk2_has (W := e6) 5 (m2.made (up_trans (up_trans (up_trans (s3) s4) s5) s6)) m6 (up_next HB7.out)
    have f7 : Fr (Mt.n2 8 g c a b) (w.heap.size + 2) w0.heap.size (Mt.n2 5 e6.heap.size 2 (Mt.n2 4 e1.heap.size 2 (Mt.n1 6 ga1 1 (Mt.n0 0 0)) b) (Mt.n2 4 e5.heap.size 2 cm3 (Mt.n1 6 e4.heap.size 1 cm4))) := Fr.n2 hsz_6 f2 f6
    have ub : Below w.heap.size w e7 := HH5.out.below.trans (u7.mono (by omega))
    refine bodyPost_ret (v := .tuple #[(Mt.n2 5 e6.heap.size 2 (Mt.n2 4 e1.heap.size 2 (Mt.n1 6 ga1 1 (Mt.n0 0 0)) b) (Mt.n2 4 e5.heap.size 2 cm3 (Mt.n1 6 e4.heap.size 1 cm4))).val, .bool true]) (by simp [results, Tryz.results22, go_sem, y0, y1, y2]; rfl) rfl (by_fr HR.out HX.out HZ.out m7 (by simp only [Mt.w, c3a, c4a]) ub f7)
end Go.Proofs.YtccknopchddicaaGreatDoor
/- contract: the rule of FormUnrolled at release, and elsewhere. -/
namespace Go.Proofs.YtccknopchddicaaGreatDoor
open Go.RowKit Stile
set_option maxRecDepth 100000 in
set_option maxHeartbeats 3200000 in
theorem ur_release  (w0 w : World) (g : Nat) (c : Nat) (a : Mt) (b : Mt) (hx : (Mt.n2 9 g c a b).has w) (h0 : w0.heap.size ≤ w.heap.size) :
    Calls Tryz.prog 22 #[.agg #[.int .i64 9, .int .i64 0, .slice (some ⟨g, 0, none⟩) 2 c]] w (ByOut (urRule) (Mt.n2 9 g c a b) w0 w) := by
  have hr : (urRule) (Mt.n2 9 g c a b).w = some (W.n2 4 (W.n2 5 (W.n1 3 (W.n1 6 (W.n0 0 0))) b.w) (W.n2 5 a.w (W.n1 7 (W.n2 9 a.w b.w)))) := rfl
  have HX := Lib.hid hx
  have HR := Lib.hid hr
  have HZ := Lib.hid h0
  clear hx hr h0
  go_enter Tryz.func22, Tryz.ntmps22
  go_upto_region 5 with fail
  have hh : ByHead w ((w.alloc (Obj.cells #[.int .i64 9, .int .i64 0, .slice (some ⟨g, 0, none⟩) 2 c] 29)).alloc (Obj.cells #[.int .i64 0, .int .i64 0, .slice none 0 0] 29)) (Mt.n2 9 g c a b) := by_head w (Mt.n2 9 g c a b)
  obtain ⟨W2, hW2⟩ : ∃ W2, (w.alloc (Obj.cells #[.int .i64 9, .int .i64 0, .slice (some ⟨g, 0, none⟩) 2 c] 29)).alloc (Obj.cells #[.int .i64 0, .int .i64 0, .slice none 0 0] 29) = W2 := ⟨_, rfl⟩
  rw [hW2] at hh ⊢
  clear hW2
  have hs2 : w.heap.size + 2 ≤ W2.heap.size := lt_blk hh.res
  have hX2 : (Mt.n2 9 g c a b).has W2 := HX.out.below hh.below (fun g hg => HX.out.lt g hg)
  have hgl_g : g < w.heap.size := HX.out.lt g (by simp [Mt.blks])
  have hX5 : (Mt.n2 9 g c a b).has W2.drew := hX2.made (Below.refl _ _).drew
  have hH5 : ByHead w W2.drew (Mt.n2 9 g c a b) := hh.made (Below.refl _ _).drew
  obtain ⟨_, ka0, kb0, ha0, hb0⟩ := id hX5
  have HS0 := Lib.hid (show AllS [(w.heap.size, 0, (Mt.n2 9 g c a b)), (g, 0, a), (g, 3, b)] W2.drew from ⟨box_kid hH5.box, kid_at ka0, kid_at kb0, trivial⟩)
  have HH_0 := Lib.hid hb0
  have HH_1 := Lib.hid ha0
  have HH_2 := Lib.hid hX5
  have HH5 := Lib.hid hH5
  clear hh hX2 hX5 hH5 ha0 hb0 ka0 kb0 
  have hsb : W2.heap.size ≤ W2.drew.heap.size := Nat.le_refl _
  have t1 : True := trivial
  have t2 : True := trivial
  have t3 : True := trivial
  have t4 : True := trivial
  have t5 : True := trivial
  have t6 : True := trivial
  have t7 : True := trivial
  have t8 : True := trivial
  go_region_held3 (fun w' => ((w'.cell? ⟨w.heap.size, 0, none⟩ = some (.int .i64 9) ∧ w'.cell? ⟨w.heap.size, 1, none⟩ = some (.int .i64 0) ∧ w'.cell? ⟨w.heap.size, 2, none⟩ = some (.slice (some ⟨g, 0, none⟩) 2 c)) ∧ (w'.cell? ⟨g, 0, none⟩ = some (.int .i64 a.kk) ∧ w'.cell? ⟨g, 1, none⟩ = some (.int .i64 a.ks) ∧ w'.cell? ⟨g, 2, none⟩ = some (.slice a.kA a.kids.length a.kc)) ∧ (w'.cell? ⟨g, 3, none⟩ = some (.int .i64 b.kk) ∧ w'.cell? ⟨g, 4, none⟩ = some (.int .i64 b.ks) ∧ w'.cell? ⟨g, 5, none⟩ = some (.slice b.kA b.kids.length b.kc)) ∧ True)) (first | exact HS0.out | exact HS0.out.up (up_alloc _ _) | exact HS1.out | exact HS1.out.up (up_alloc _ _) | exact HS2.out | exact HS2.out.up (up_alloc _ _) | exact HS3.out | exact HS3.out.up (up_alloc _ _) | exact HS4.out | exact HS4.out.up (up_alloc _ _) | exact HS5.out | exact HS5.out.up (up_alloc _ _) | exact HS6.out | exact HS6.out.up (up_alloc _ _) | exact HS7.out | exact HS7.out.up (up_alloc _ _) | exact HS8.out | exact AllS.set3 _ _ _ HS8.out ⟨by omega, by omega, by omega, trivial⟩) (first
          | (have _t := t1; go_at_call 23; refine Calls.mono (any_any _) ?_; rintro e e1 ⟨ga1, rfl, hc1⟩; have HC1 := Lib.hid hc1; have HB1 := Lib.hid hc1.2.2; have HU1 := Lib.hid (hc1.2.2); have HS1 := Lib.hid (HS0.out.up hc1.2.2); clear hc1 t1)
          | (have _t := t2; go_at_call 16; refine Calls.mono (wmake_any _ _ _ _ _) ?_; rintro e e2 ⟨rfl, hp2⟩; have hb2 : Below (e1.alloc (mtObj1 (Mt.n1 6 ga1 1 (Mt.n0 0 0)))).heap.size (e1.alloc (mtObj1 (Mt.n1 6 ga1 1 (Mt.n0 0 0)))) e2 := hp2; have HB2 := Lib.hid hb2; have HU2 := Lib.hid (up_trans HU1.out (up_call hb2)); have HS2 := Lib.hid (HS1.out.up (up_call hb2)); clear hb2 hp2 t2)
          | (have _t := t3; go_at_call 16; refine Calls.mono (wmake_any _ _ _ _ _) ?_; rintro e e3 ⟨rfl, hp3⟩; have hb3 : Below (e2.alloc (mtObj2 (Mt.n1 3 e1.heap.size 1 (Mt.n1 6 ga1 1 (Mt.n0 0 0))) b)).heap.size (e2.alloc (mtObj2 (Mt.n1 3 e1.heap.size 1 (Mt.n1 6 ga1 1 (Mt.n0 0 0))) b)) e3 := hp3; have HB3 := Lib.hid hb3; have HU3 := Lib.hid (up_trans HU2.out (up_call hb3)); have HS3 := Lib.hid (HS2.out.up (up_call hb3)); clear hb3 hp3 t3)
          | (have _t := t4; go_at_call 17; refine Calls.mono (copy_out a _ (HH_1.out.made HU3.out)) ?_; rintro e e4 ⟨cm4, rfl, hc4⟩; have HC4 := Lib.hid hc4; have HB4 := Lib.hid hc4.2.2.2; have HU4 := Lib.hid (up_trans HU3.out hc4.2.2.2); have HS4 := Lib.hid (HS3.out.up hc4.2.2.2); clear hc4 t4)
          | (have _t := t5; go_at_call 17; refine Calls.mono (show Calls Tryz.prog 17 #[.agg #[.int .i64 9, .int .i64 0, .slice (some ⟨g, 0, none⟩) 2 c]] e4 (fun e w' => ∃ m9 : Mt, e = .returned (.agg #[.int .i64 m9.kk, .int .i64 m9.ks, .slice m9.kA m9.kids.length m9.kc]) ∧ CopyOut (Mt.n2 9 g c a b) e4 m9 w') from copy_out (Mt.n2 9 g c a b) _ (HH_2.out.made HU4.out)) ?_; rintro e e5 ⟨cm5, rfl, hc5⟩; have HC5 := Lib.hid hc5; have HB5 := Lib.hid hc5.2.2.2; have HU5 := Lib.hid (up_trans HU4.out hc5.2.2.2); have HS5 := Lib.hid (HS4.out.up hc5.2.2.2); clear hc5 t5)
          | (have _t := t6; go_at_call 16; refine Calls.mono (wmake_any _ _ _ _ _) ?_; rintro e e6 ⟨rfl, hp6⟩; have hb6 : Below (e5.alloc (mtObj1 cm5)).heap.size (e5.alloc (mtObj1 cm5)) e6 := hp6; have HB6 := Lib.hid hb6; have HU6 := Lib.hid (up_trans HU5.out (up_call hb6)); have HS6 := Lib.hid (HS5.out.up (up_call hb6)); clear hb6 hp6 t6)
          | (have _t := t7; go_at_call 16; refine Calls.mono (wmake_any _ _ _ _ _) ?_; rintro e e7 ⟨rfl, hp7⟩; have hb7 : Below (e6.alloc (mtObj2 cm4 (Mt.n1 7 e5.heap.size 1 cm5))).heap.size (e6.alloc (mtObj2 cm4 (Mt.n1 7 e5.heap.size 1 cm5))) e7 := hp7; have HB7 := Lib.hid hb7; have HU7 := Lib.hid (up_trans HU6.out (up_call hb7)); have HS7 := Lib.hid (HS6.out.up (up_call hb7)); clear hb7 hp7 t7)
          | (have _t := t8; go_at_call 16; refine Calls.mono (wmake_any _ _ _ _ _) ?_; rintro e e8 ⟨rfl, hp8⟩; have hb8 : Below (e7.alloc (mtObj2 (Mt.n2 5 e2.heap.size 2 (Mt.n1 3 e1.heap.size 1 (Mt.n1 6 ga1 1 (Mt.n0 0 0))) b) (Mt.n2 5 e6.heap.size 2 cm4 (Mt.n1 7 e5.heap.size 1 cm5)))).heap.size (e7.alloc (mtObj2 (Mt.n2 5 e2.heap.size 2 (Mt.n1 3 e1.heap.size 1 (Mt.n1 6 ga1 1 (Mt.n0 0 0))) b) (Mt.n2 5 e6.heap.size 2 cm4 (Mt.n1 7 e5.heap.size 1 cm5)))) e8 := hp8; have HB8 := Lib.hid hb8; have HU8 := Lib.hid (up_trans HU7.out (up_call hb8)); have HS8 := Lib.hid (HS7.out.up (up_call hb8)); obtain ⟨⟨y0, y1, y2⟩, z0, z1, z2, zl⟩ := res_at (HH5.out.made HU8.out).res; clear hb8 hp8 t8))
  all_goals
    go_wp2_with fail
    have hsz_0 : w.heap.size + 2 ≤ W2.drew.heap.size := by omega
    have s1 : Below W2.drew.heap.size W2.drew e1 := HB1.out
    have u1 : Below W2.drew.heap.size W2.drew e1 := s1
    have hsz_1 : w.heap.size + 2 ≤ e1.heap.size := Nat.le_trans hsz_0 u1.size
    have s2 : Below e1.heap.size e1 e2 := up_call HB2.out
    have u2 : Below W2.drew.heap.size W2.drew e2 := up_trans u1 s2
    have hsz_2 : w.heap.size + 2 ≤ e2.heap.size := Nat.le_trans hsz_0 u2.size
    have s3 : Below e2.heap.size e2 e3 := up_call HB3.out
    have u3 : Below W2.drew.heap.size W2.drew e3 := up_trans u2 s3
    have hsz_3 : w.heap.size + 2 ≤ e3.heap.size := Nat.le_trans hsz_0 u3.size
    have s4 : Below e3.heap.size e3 e4 := HB4.out
    have u4 : Below W2.drew.heap.size W2.drew e4 := up_trans u3 s4
    have hsz_4 : w.heap.size + 2 ≤ e4.heap.size := Nat.le_trans hsz_0 u4.size
    have s5 : Below e4.heap.size e4 e5 := HB5.out
    have u5 : Below W2.drew.heap.size W2.drew e5 := up_trans u4 s5
    have hsz_5 : w.heap.size + 2 ≤ e5.heap.size := Nat.le_trans hsz_0 u5.size
    have s6 : Below e5.heap.size e5 e6 := up_call HB6.out
    have u6 : Below W2.drew.heap.size W2.drew e6 := up_trans u5 s6
    have hsz_6 : w.heap.size + 2 ≤ e6.heap.size := Nat.le_trans hsz_0 u6.size
    have s7 : Below e6.heap.size e6 e7 := up_call HB7.out
    have u7 : Below W2.drew.heap.size W2.drew e7 := up_trans u6 s7
    have hsz_7 : w.heap.size + 2 ≤ e7.heap.size := Nat.le_trans hsz_0 u7.size
    have s8 : Below e7.heap.size e7 e8 := up_call HB8.out
    have u8 : Below W2.drew.heap.size W2.drew e8 := up_trans u7 s8
    have hsz_8 : w.heap.size + 2 ≤ e8.heap.size := Nat.le_trans hsz_0 u8.size
    obtain ⟨c1a, c1b, c1c⟩ := HC1.out
    have m2 : (Mt.n1 3 e1.heap.size 1 (Mt.n1 6 ga1 1 (Mt.n0 0 0))).has e2 := mk1_has (W := e1) 3 c1b (up_next HB2.out)
    have f2 : Fr (Mt.n2 9 g c a b) (w.heap.size + 2) w0.heap.size (Mt.n1 3 e1.heap.size 1 (Mt.n1 6 ga1 1 (Mt.n0 0 0))) := Fr.n1 hsz_1 (Fr.n1 (Nat.le_trans hsz_0 c1a) Fr.n0)
    have m3 : (Mt.n2 5 e2.heap.size 2 (Mt.n1 3 e1.heap.size 1 (Mt.n1 6 ga1 1 (Mt.n0 0 0))) b).has e3 := mk2_has (W := e2) 5 m2 (HH_0.out.made u2) (up_next HB3.out)
    have f3 : Fr (Mt.n2 9 g c a b) (w.heap.size + 2) w0.heap.size (Mt.n2 5 e2.heap.size 2 (Mt.n1 3 e1.heap.size 1 (Mt.n1 6 ga1 1 (Mt.n0 0 0))) b) := Fr.n2 hsz_2 f2 (Fr.kid (Fr.self _ _ _) (z := b) (by simp [Mt.kids]))
    obtain ⟨c4a, c4b, c4c, c4d⟩ := HC4.out
    obtain ⟨c5a, c5b, c5c, c5d⟩ := HC5.out
    have m6 : (Mt.n1 7 e5.heap.size 1 cm5).has e6 := mk1_has (W := e5) 7 c5b (up_next HB6.out)
    have f6 : Fr (Mt.n2 9 g c a b) (w.heap.size + 2) w0.heap.size (Mt.n1 7 e5.heap.size 1 cm5) := Fr.n1 hsz_5 (Fr.new c5c hsz_4)
    have m7 : (Mt.n2 5 e6.heap.size 2 cm4 (Mt.n1 7 e5.heap.size 1 cm5)).has e7 := mk2_has (W := e6) 5 (c4b.made (up_trans (s5) s6)) m6 (up_next HB7.out)
    have f7 : Fr (Mt.n2 9 g c a b) (w.heap.size + 2) w0.heap.size (Mt.n2 5 e6.heap.size 2 cm4 (Mt.n1 7 e5.heap.size 1 cm5)) := Fr.n2 hsz_6 (Fr.new c4c hsz_3) f6
    have m8 : (Mt.n2 4 e7.heap.size 2 (Mt.n2 5 e2.heap.size 2 (Mt.n1 3 e1.heap.size 1 (Mt.n1 6 ga1 1 (Mt.n0 0 0))) b) (Mt.n2 5 e6.heap.size 2 cm4 (Mt.n1 7 e5.heap.size 1 cm5))).has e8 := mk2_has (W := e7) 4 (m3.made (up_trans (up_trans (up_trans (s4) s5) s6) s7)) m7 (up_next HB8.out)
    have f8 : Fr (Mt.n2 9 g c a b) (w.heap.size + 2) w0.heap.size (Mt.n2 4 e7.heap.size 2 (Mt.n2 5 e2.heap.size 2 (Mt.n1 3 e1.heap.size 1 (Mt.n1 6 ga1 1 (Mt.n0 0 0))) b) (Mt.n2 5 e6.heap.size 2 cm4 (Mt.n1 7 e5.heap.size 1 cm5))) := Fr.n2 hsz_7 f3 f7
    have ub : Below w.heap.size w e8 := HH5.out.below.trans (u8.mono (by omega))
    refine bodyPost_ret (v := .tuple #[(Mt.n2 4 e7.heap.size 2 (Mt.n2 5 e2.heap.size 2 (Mt.n1 3 e1.heap.size 1 (Mt.n1 6 ga1 1 (Mt.n0 0 0))) b) (Mt.n2 5 e6.heap.size 2 cm4 (Mt.n1 7 e5.heap.size 1 cm5))).val, .bool true]) (by simp [results, Tryz.results22, go_sem, y0, y1, y2]; rfl) rfl (by_fr HR.out HX.out HZ.out m8 (by simp only [Mt.w, c4a, c5a]) ub f8)
set_option maxRecDepth 100000 in
set_option maxHeartbeats 3200000 in
theorem ur_no  (w0 w : World)  (x : Mt) (hx : x.has w) (h0 : w0.heap.size ≤ w.heap.size) (h8 : x.kk ≠ 8) (h9 : x.kk ≠ 9) (hr0 : urRule x.w = none) :
    Calls Tryz.prog 22 #[.agg #[.int .i64 x.kk, .int .i64 x.ks, .slice x.kA x.kids.length x.kc]] w (ByOut (urRule) x w0 w) := by
  have hr : (urRule) x.w = none := hr0
  have HX := Lib.hid hx
  have HR := Lib.hid hr
  have HZ := Lib.hid h0
  clear hx hr h0
  have e8 : (x.kk == 8) = false := beq_eq_false_iff_ne.2 h8
  have e9 : (x.kk == 9) = false := beq_eq_false_iff_ne.2 h9
  have d8 : (x.kk != 8) = true := bne_iff_ne.2 h8
  have d9 : (x.kk != 9) = true := bne_iff_ne.2 h9
  go_enter Tryz.func22, Tryz.ntmps22
  go_wp2_with fail
  refine bodyPost_ret (v := .tuple #[x.val, .bool false]) (by simp [results, Tryz.results22, go_sem]; rfl) rfl (by_none HR.out (((Below.refl _ _).alloc (Nat.le_refl _) _).alloc (by simp) _))
end Go.Proofs.YtccknopchddicaaGreatDoor
/- contract: the rule of FormUnrolled, whole. -/
namespace Go.Proofs.YtccknopchddicaaGreatDoor
open Go.RowKit Stile
theorem ur_by_ok {mm : Int} (w0 : World) : ByOk futK mm w0 22 #[] urRule := by
  intro m w hb hm hok hsz
  have h0 : w0.heap.size ≤ w.heap.size := hb.size
  show Calls _ _ #[m.val] w (ByOut urRule m w0 w)
  cases m with
  | n0 k s =>
    have hk := leaf_kk hok
    exact ur_no w0 w (.n0 k s) hm h0 (by intro e; have e : k = 8 := e; omega) (by intro e; have e : k = 9 := e; omega) rfl
  | n1 k g c x =>
    have hk := one_kk hok
    exact ur_no w0 w (.n1 k g c x) hm h0 (by intro e; have e : k = 8 := e; omega) (by intro e; have e : k = 9 := e; omega) rfl
  | n2 k g c x y =>
    by_cases h8 : k = 8
    · subst h8
      exact ur_until w0 w g c x y hm h0
    · by_cases h9 : k = 9
      · subst h9
        exact ur_release w0 w g c x y hm h0
      · refine ur_no w0 w (.n2 k g c x y) hm h0 h8 h9 ?_
        show (if k = 8 then _ else if k = 9 then _ else none) = none
        rw [if_neg h8, if_neg h9]
end Go.Proofs.YtccknopchddicaaGreatDoor
/- contract: the change of FormUnrolled, and the law: it answers true. -/
namespace Go.Proofs.YtccknopchddicaaGreatDoor
open Go.RowKit Stile
set_option maxRecDepth 100000 in
set_option maxHeartbeats 800000 in
theorem ur_change {mm : Int} (which : Int) (fv : Value) (f : List Nd) (pf pw : Addr) (w : World) (hf : RdN w w.heap.size fv f) (hok : okF futK mm f) (hn0 : 0 < f.length) (hn : f.length ≤ 40) (hw0 : -9223372036854775808 ≤ which) (hw1 : which ≤ 9223372036854775807)
    (h1 : w.cell? pf = some fv) (h2 : w.cell? pw = some (.int .i64 which)) :
    Calls Tryz.prog 21 #[.pointer (some pf), .pointer (some pw)] w (SwapOut (swapR f which (urRule)) w) := by
  have hmf : ∀ (fn : Fn) (first cap : Array Value) (w : World), (Instr.makeFunc fn first cap).run Tryz.prog w = .ok (.func fn first cap) w := fun _ _ _ _ => rfl
  have hs := swap_any futK_any f fv which 22 #[] (urRule) w hf hok hn0 hn hw0 hw1 (fun _ _ => rfl) (ur_by_ok  w) (ur_size )
  obtain ⟨fA, fc, rfl, _, _⟩ := id hf
  have l1 := lt_of_cell h1
  have l2 := lt_of_cell h2
  have HS := Lib.hid hs
  clear hs hf hok
  go_enter Tryz.func21, Tryz.ntmps21
  go_wp2_with fail
  refine HS.out.mono ?_
  rintro e w2 ⟨hb, gv, b, rfl, hx, hy⟩
  have HB := Lib.hid hb
  have HX := Lib.hid hx
  have HY := Lib.hid hy
  clear hb hx hy
  go_wp2_with fail
  go_ret2
  exact ⟨HB.out, _, _, rfl, HX.out, HY.out⟩
set_option maxRecDepth 100000 in
set_option maxHeartbeats 800000 in
theorem ur_law (L which : Int) (fv lv : Value) (f : List Nd) (l : List Int) (w : World) (hf : RdN w w.heap.size fv f) (hl : RdI w w.heap.size lv l) (hg : ErrVar w) (hw0 : -9223372036854775808 ≤ which) (hw1 : which ≤ 9223372036854775807) :
    Calls Tryz.prog 5 #[.int .i64 L, fv, lv, .int .i64 which] w (TrueB w) := by
  have hmf : ∀ (fn : Fn) (first cap : Array Value) (w : World), (Instr.makeFunc fn first cap).run Tryz.prog w = .ok (.func fn first cap) w := fun _ _ _ _ => rfl
  obtain ⟨fA, fc, rfl, _, _⟩ := id hf
  have H : ∀ W, Below w.heap.size w W → W.cell? ⟨w.heap.size, 0, none⟩ = some (.slice fA f.length fc) → W.cell? ⟨w.heap.size + 1, 0, none⟩ = some (.int .i64 which) →
      Calls Tryz.prog 12 #[.int .i64 L, .slice fA f.length fc, lv, .func (.func 21) #[] #[.pointer (some ⟨w.heap.size, 0, none⟩), .pointer (some ⟨w.heap.size + 1, 0, none⟩)]] W (TrueB W) := fun W hb c0 c1 => by
    have hfW := Rd.mono (Rd.below hf hb) hb.size
    have hlW := Rd.mono (Rd.below hl hb) hb.size
    by_cases hbad : checkP L (setsOf L) f ≠ 0 ∨ wcheckP L l ≠ 0
    · exact wform_bad L _ lv f l W _ _ hfW hlW hbad
    · have hc : checkP L (setsOf L) f = 0 := by omega
      have hw : wcheckP L l = 0 := by omega
      obtain ⟨hL, hn0, hn, hok⟩ := checkP_ok.1 hc
      obtain ⟨n, rfl⟩ := Int.eq_ofNat_of_zero_le (show 0 ≤ L by omega)
      refine wform_ok n _ lv f l W _ _ (swapR f which (urRule)) hfW hlW (ErrVar.below hg hb) hc hw (fun _ _ => rfl) (fun W2 hb2 => ?_) (fun u hu => ?_)
      · exact ur_change  which _ f _ _ W2 (Rd.mono (Rd.below hfW hb2) hb2.size) hok hn0 hn hw0 hw1 ((hb2.cell (lt_of_cell c0)).trans c0) ((hb2.cell (lt_of_cell c1)).trans c1)
      · obtain ⟨a1, a2⟩ := swapR_spec (D := fun _ => True) futK_any hok hn0 (fun t u h1 h2 => ur_spec  t u h1 h2) hu
        refine ⟨a1, fun x _ => ?_⟩
        rw [holds_eq _ f (fun i hi => ⟨futK_any _ (hok i hi).1, (hok i hi).2⟩) (by intro e; rw [e] at hn0; simp at hn0)]
        exact a2 x (fun _ _ => trivial)
  have HH := Lib.hid H
  obtain ⟨lA, lc, rfl, _, _⟩ := id hl
  clear H hf hl hg
  go_enter Tryz.func5, Tryz.ntmps5
  go_wp2_with fail
  obtain ⟨t0, t1⟩ := two_new w (Obj.cells #[.slice fA f.length fc] 22) (Obj.cells #[.int .i64 which] 3)
  have hb : Below w.heap.size w ((w.alloc (Obj.cells #[.slice fA f.length fc] 22)).alloc (Obj.cells #[.int .i64 which] 3)) := (((Below.refl _ _).alloc (Nat.le_refl _) _).alloc (by simp) _)
  refine (HH.out _ hb (by rw [fld_cell t0]; rfl) (by rw [fld_cell t1]; rfl)).mono ?_
  rintro e w2 ⟨rfl, hb2⟩
  have HB := Lib.hid (hb.trans (hb2.mono hb.size))
  clear hb hb2 t0 t1
  go_wp2_with fail
  go_ret
  exact ⟨rfl, HB.out⟩
end Go.Proofs.YtccknopchddicaaGreatDoor
