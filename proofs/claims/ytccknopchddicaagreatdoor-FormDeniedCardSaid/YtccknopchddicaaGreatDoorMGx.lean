/- contract: wAny. -/
import Derived.Test.YtccknopchddicaaGreatDoorMGl
set_option linter.unusedSimpArgs false
set_option linter.unusedVariables false
set_option linter.unnecessarySimpa false
namespace Go.Proofs.YtccknopchddicaaGreatDoor
open Go.RowKit Stile
set_option maxRecDepth 100000 in
set_option maxHeartbeats 1600000 in
theorem any_any (w : World) : Calls Tryz.prog 23 #[] w fun e w' => ∃ ga : Nat, e = .returned (.agg #[.int .i64 6, .int .i64 0, .slice (some ⟨ga, 0, none⟩) 1 1]) ∧ w.heap.size ≤ ga ∧ (Mt.n1 6 ga 1 (.n0 0 0)).has w' ∧ Below w.heap.size w w' := by
  go_enter Tryz.func23, Tryz.ntmps23
  have tok : True := trivial
  go_upto_region 1 with fail
  obtain ⟨W1, hW1⟩ : ∃ W1, w.alloc (Obj.cells #[.int .i64 0, .int .i64 0, .slice none 0 0] 29) = W1 := ⟨_, rfl⟩
  have hb1 : Below w.heap.size w W1 := by rw [← hW1]; exact up_alloc _ _
  have hr1 : W1.heap[w.heap.size]? = some (Obj.cells #[.int .i64 0, .int .i64 0, .slice none 0 0] 29) := by rw [← hW1]; exact heap_new _ _
  rw [hW1]
  clear hW1
  have hs1 : w.heap.size + 1 ≤ W1.heap.size := lt_blk hr1
  have HB1 := Lib.hid hb1
  have HR1 := Lib.hid hr1
  clear hb1 hr1
  go_wp2_with (first
    | (have _t := tok; go_at_call 16; refine Calls.mono (wmake_any _ _ _ _ _) ?_; rintro e e1 ⟨rfl, hc1⟩; have HC1 := Lib.hid hc1; clear hc1 tok)
    | (go_at_call 16; refine Calls.mono (wmake_any _ _ _ _ _) ?_; rintro e e2 ⟨rfl, hp2⟩; have hc2 : Below (e1.alloc (mtObj1 (.n0 0 0))).heap.size (e1.alloc (mtObj1 (.n0 0 0))) e2 := hp2; obtain ⟨⟨y0, y1, y2⟩, z0, z1, z2, zl⟩ := res_at ((((up_trans HC1.out (up_call hc2)).block _ (lt_blk HR1.out))).trans HR1.out); have HC2 := Lib.hid hc2; clear hc2 hp2))
  have s1 := HC1.out
  have s2 := up_call HC2.out
  have m1 : (Mt.n1 6 e1.heap.size 1 (.n0 0 0)).has e2 := mk1_has (W := e1) (x := .n0 0 0) 6 trivial (up_next HC2.out)
  have hl := s1.size
  have hne : ∀ g ∈ (Mt.n1 6 e1.heap.size 1 (.n0 0 0)).blks, g ≠ w.heap.size := fun g hg e => by
    simp [Mt.blks] at hg; omega
  refine bodyPost_ret (v := .agg #[.int .i64 6, .int .i64 0, .slice (some ⟨e1.heap.size, 0, none⟩) 1 1]) (by simp [results, Tryz.results23, go_sem, y0, y1, y2]) rfl ⟨e1.heap.size, rfl, by omega, ((m1.set hne).set hne).set hne, ?_⟩
  exact (((HB1.out.trans ((up_trans s1 s2).mono (by omega))).setCell (by simp) _).setCell (by simp) _).setCell (by simp) _
end Go.Proofs.YtccknopchddicaaGreatDoor
/- what the rules' laws share. -/
namespace Go.Proofs.YtccknopchddicaaGreatDoor
open Go.RowKit Stile
theorem mt_two {mm k : Int} (hk : twoK k = true) (x : Mt) (h : x.w.ok futK mm) : (∃ g c p q, x = .n2 k g c p q) ∨ (asTwo k x.w = none ∧ (x.kk == k) = false) := by
  have h2 := two_not_leaf hk
  cases x with
  | n0 j s =>
    refine .inr ⟨rfl, beq_eq_false_iff_ne.2 fun e => ?_⟩
    have e : j = k := e
    subst e
    exact absurd h.2.1 (by rw [h2.1]; decide)
  | n1 j g c y =>
    refine .inr ⟨rfl, beq_eq_false_iff_ne.2 fun e => ?_⟩
    have e : j = k := e
    subst e
    exact absurd h.2.1 (by rw [h2.2]; decide)
  | n2 j g c p q =>
    by_cases e : j = k
    · subst e; exact .inl ⟨g, c, p, q, rfl⟩
    · refine .inr ⟨?_, beq_eq_false_iff_ne.2 e⟩
      show (if j = k then some (p.w, q.w) else none) = none
      rw [if_neg e]
theorem leaf_kk {mm k s : Int} (h : (W.n0 k s).ok futK mm) : k = 0 ∨ k = 1 ∨ k = 2 := by
  have := h.2.1; simp [leafK] at this; omega
theorem one_kk {mm k : Int} {x : W} (h : (W.n1 k x).ok futK mm) : k = 3 ∨ k = 6 ∨ k = 7 := by
  have h1 := h.1; have := h.2.1; simp [oneK] at this; simp [futK] at h1; omega
theorem two_kk {mm k : Int} {x y : W} (h : (W.n2 k x y).ok futK mm) : k = 4 ∨ k = 5 ∨ k = 8 ∨ k = 9 := by
  have h1 := h.1; have := h.2.1; simp [twoK] at this; simp [futK] at h1; omega
theorem two_new (w : World) (o1 o2 : Obj) : ((w.alloc o1).alloc o2).heap[w.heap.size]? = some o1 ∧ ((w.alloc o1).alloc o2).heap[w.heap.size + 1]? = some o2 := ⟨heap_old2 _ _ _, heap_new2 _ _ _⟩
end Go.Proofs.YtccknopchddicaaGreatDoor
