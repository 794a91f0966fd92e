/- contract: wOf at a node of two parts (the walk). -/
import Derived.Test.YtccknopchddicaaGreatDoorMT5
set_option linter.unusedSimpArgs false
set_option linter.unusedVariables false
set_option linter.unnecessarySimpa false
namespace Go.Proofs.YtccknopchddicaaGreatDoor
open Go.RowKit Stile
set_option maxRecDepth 100000 in
set_option maxHeartbeats 3200000 in
theorem of_two (f : List Nd) (k : Nat) (hk : k < f.length) (hfn : f.length ≤ 40) (ih : ∀ j, j < k → OfOk f j) (fv : Value) (pl : Nat) (l : Int) (w : World) (hf : RdN w pl fv f) (hl : LeftAt w pl l) (h0 : 1 ≤ l) (h1 : l ≤ 100) (hkind : (nd f k).k = 4 ∨ (nd f k).k = 5 ∨ (nd f k).k = 8 ∨ (nd f k).k = 9 ∨ (nd f k).k = 11) (ha0 : 0 ≤ (nd f k).a) (hak : (nd f k).a < k) (hb0 : 0 ≤ (nd f k).b) (hbk : (nd f k).b < k) :
    Calls Tryz.prog 29 #[fv, .int .i64 (k : Int), .pointer (some ⟨pl, 0, none⟩)] w fun e w' => ∃ v, e = .returned v ∧ OfPost (.n2 (nd f k).k (getW (treesL f) (nd f k).a) (getW (treesL f) (nd f k).b)) k pl l w v w' := by
  obtain ⟨b, off, c, rfl, hlc, hb, hcell⟩ := hf.at_ (by omega)
  obtain ⟨c1, c2, c3⟩ := hcell k hk
  have hpl := lt_blk hl
  have hbl : b < w.heap.size := by omega
  have lc := fld_cell hl 0
  have lf := fld_frozen hl 0
  simp at lc
  have HL := Lib.hid hl
  have hneg : decide (l - 1 < 0) = false := by simp; omega
  obtain ⟨x, hx⟩ : ∃ x, nd f k = x := ⟨_, rfl⟩
  rw [hx] at c1 c2 c3
  rw [hx] at hkind ha0 hak hb0 hbk ⊢
  obtain ⟨xk, xa, xb⟩ := x
  dsimp only at c1 c2 c3 hkind ha0 hak hb0 hbk ⊢
  obtain ⟨xb, rfl⟩ := Int.eq_ofNat_of_zero_le hb0
  obtain ⟨xa, rfl⟩ := Int.eq_ofNat_of_zero_le ha0
  have hxk : xa < k := by omega
  have hxb : xb < k := by omega
  have ih1 := fun W (hb : Below pl w W) => ih xa (by omega) (.slice (some ⟨b, off, none⟩) f.length c) pl (l - 1) W (Rd.below hf hb)
  have ih2 := fun W (hb : Below pl w W) l1 => ih xb (by omega) (.slice (some ⟨b, off, none⟩) f.length c) pl l1 W (Rd.below hf hb)
  obtain ⟨T1, hT1⟩ : ∃ T1, getW (treesL f) (xa : Int) = T1 := ⟨_, rfl⟩
  rw [hT1] at ih1 ⊢
  obtain ⟨T2, hT2⟩ : ∃ T2, getW (treesL f) (xb : Int) = T2 := ⟨_, rfl⟩
  rw [hT2] at ih2 ⊢
  have HIH := Lib.hid ih1
  have HIH2 := Lib.hid ih2
  clear ih ih1 hT1 ih2 hT2
  have e1 : (l : Int) = l := rfl
  generalize f.length = n at *
  clear hcell hf hl hx
  go_enter Tryz.func29, Tryz.ntmps29
  go_upto_region 3 with fail
  obtain ⟨W3, hW3⟩ : ∃ W3, (((w.alloc (Obj.cells #[.int .i64 0, .int .i64 0, .slice none 0 0] 29)).alloc (Obj.cells #[.int .i64 xk, .int .i64 (xa : Int), .int .i64 (xb : Int)] 71)).alloc (Obj.cells #[.int .i64 xk, .int .i64 0, .slice none 0 0] 29)) = W3 := ⟨_, rfl⟩
  rw [hW3]
  have hb3 : Below w.heap.size w W3 := by rw [← hW3]; exact (((Below.refl _ _).alloc (Nat.le_refl _) _).alloc (by simp) _).alloc (by simp; omega) _
  have hl3 : LeftAt W3 pl l := (hb3.block _ hpl).trans HL.out
  have lc3 : W3.cell? ⟨pl, 0, none⟩ = some (.int .i64 l) := by have := fld_cell hl3 0; simpa using this
  have lf3 := fld_frozen hl3 0
  have hh := of_head HL.out hW3
  clear lc lf hb3 hl3 hW3
  go_upto_region 6 with fail
  obtain ⟨W4, hW4⟩ : ∃ W4, W3.setCell ⟨pl, 0, none⟩ (.int .i64 (l - 1)) = W4 := ⟨_, rfl⟩
  rw [hW4] at hh ⊢
  have ht := fun k => fld_cell hh.tree k
  have t0 := ht 0
  have t1 := ht 1
  have t2 := ht 2
  have hr := fun k => fld_cell hh.res k
  have r0 := hr 0
  have r1 := hr 1
  have r2 := hr 2
  have hf := fun k => fld_frozen hh.res k
  have f0 := hf 0
  have f1 := hf 1
  have f2 := hf 2
  have ft1 := fld_frozen hh.tree 1
  have hn := fun k => fld_cell hh.node k
  have n0 := hn 0
  have n1 := hn 1
  have n2 := hn 2
  have s1 := lt_blk hh.res
  have s2 := lt_blk hh.tree
  have s3 := lt_blk hh.node
  simp at t0 t1 t2 r0 r1 r2 n0 n1 n2
  have HH := Lib.hid hh
  clear ht hr hf hh hW4 lc3 lf3 hn
  have G1 : ∀ W, OfHead w W pl (l - 1) xk 0 xa xb (.slice none 0 0) → Calls Tryz.prog 29 #[.slice (some ⟨b, off, none⟩) n c, .int .i64 (xa : Int), .pointer (some ⟨pl, 0, none⟩)] W fun e w' => ∃ (k1 s1 : Int) (A1 : Option Addr) (m1 c1 : Nat), e = .returned (.agg #[.int .i64 k1, .int .i64 s1, .slice A1 m1 c1]) ∧
      OneOut w w' pl l k T1 xk xa xb (.agg #[.int .i64 k1, .int .i64 s1, .slice A1 m1 c1]) ∧ (w'.cell? ⟨w.heap.size + 1, 1, none⟩ = some (.int .i64 (xa : Int)) ∧ w'.cell? ⟨w.heap.size + 1, 2, none⟩ = some (.int .i64 (xb : Int))) := fun W h =>
    (HIH.out W h.op.below h.left (by omega) (by omega)).mono fun e w' ⟨v1, e1, e2⟩ => by
      obtain ⟨k1, s1, A1, m1, c1, rfl⟩ := e2.2.1
      have ho := one_out (xa' := xa) h hpl h0 hxk e2
      obtain ⟨l1, hh1, _⟩ := id ho
      have q1 := fld_cell hh1.node 1
      have q2 := fld_cell hh1.node 2
      simp at q1 q2
      exact ⟨k1, s1, A1, m1, c1, e1, ho, q1, q2⟩
  have G2 : ∀ W v1, OneOut w W pl l k T1 xk xa xb v1 → Calls Tryz.prog 29 #[.slice (some ⟨b, off, none⟩) n c, .int .i64 (xb : Int), .pointer (some ⟨pl, 0, none⟩)] W fun e w' => ∃ (k1 s1 : Int) (A1 : Option Addr) (m1 c1 : Nat), e = .returned (.agg #[.int .i64 k1, .int .i64 s1, .slice A1 m1 c1]) ∧
      TwoOut w w' pl l k T1 T2 xk xa xb v1 (.agg #[.int .i64 k1, .int .i64 s1, .slice A1 m1 c1]) ∧ (w'.cell? ⟨w.heap.size + 1, 1, none⟩ = some (.int .i64 (xa : Int)) ∧ w'.cell? ⟨w.heap.size + 1, 2, none⟩ = some (.int .i64 (xb : Int))) := fun W v1 h => by
    obtain ⟨l1, hh1, hd1⟩ := h
    refine (HIH2.out W hh1.op.below l1 hh1.left (by rcases hd1 with ⟨_, e, _⟩ | ⟨_, _, e⟩ <;> omega) (by rcases hd1 with ⟨_, e, _⟩ | ⟨_, _, e⟩ <;> omega)).mono fun e w' ⟨v2, e1, e2⟩ => ?_
    obtain ⟨k1, s1, A1, m1, c1, rfl⟩ := e2.2.1
    have ho := two_out (xb' := xb) hh1 hpl h0 hxb hd1 e2
    obtain ⟨l2, hh2, _⟩ := id ho
    have q1 := fld_cell hh2.node 1
    have q2 := fld_cell hh2.node 2
    simp at q1 q2
    exact ⟨k1, s1, A1, m1, c1, e1, ho, q1, q2⟩
  have hH0 := HH.out.drew
  have GG1 := Lib.hid G1
  have GG2 := Lib.hid G2
  clear G1 G2 HIH HIH2 t0 t1 t2 r0 r1 r2 f0 f1 f2 ft1
  rcases hkind with rfl | rfl | rfl | rfl | rfl
  all_goals
    go_upto_region 7 with fail
    have hS0 : (W4.drew.cell? ⟨w.heap.size + 1, 1, none⟩ = some (.int .i64 (xa : Int)) ∧ W4.drew.cell? ⟨w.heap.size + 1, 2, none⟩ = some (.int .i64 (xb : Int))) := ⟨n1, n2⟩
    go_region_held3 (fun w' => (w'.cell? ⟨w.heap.size + 1, 1, none⟩ = some (.int .i64 (xa : Int)) ∧ w'.cell? ⟨w.heap.size + 1, 2, none⟩ = some (.int .i64 (xb : Int)))) (first | assumption | exact ⟨hq1 _, hq2 _⟩ | (simp [go_sem, hS6.1, hS6.2, World.cell?_alloc_past, hl6, hl62]))
      (first
        | (go_at_call_of 29 (Value.int .i64 (xb : Int)); refine Calls.mono (GG2.out _ _ ho5) ?_; rintro en w6 ⟨k6, s6, A6, m6, c6, rfl, ho6, hS6⟩; have hl6 : w.heap.size + 1 < w6.heap.size := (let ⟨_, hh, _⟩ := ho6; lt_blk hh.node); have hq1 := fun o => (Below.cell ((Below.refl w6.heap.size w6).alloc (Nat.le_refl _) o) (p := ⟨w.heap.size + 1, 1, none⟩) hl6).trans hS6.1; have hq2 := fun o => (Below.cell ((Below.refl w6.heap.size w6).alloc (Nat.le_refl _) o) (p := ⟨w.heap.size + 1, 2, none⟩) hl6).trans hS6.2; have y2 : w6.cell? ⟨w.heap.size + 2, 2, none⟩ = some (.slice none 0 0) := (let ⟨_, hh, _⟩ := ho6; fld_cell hh.tree 2); have y2f : w6.frozen? ⟨w.heap.size + 2, 2, none⟩ = false := (let ⟨_, hh, _⟩ := ho6; fld_frozen hh.tree 2); have hl62 : w.heap.size + 2 < w6.heap.size := (let ⟨_, hh, _⟩ := ho6; lt_blk hh.tree))
        | (go_at_call_of 29 (Value.int .i64 (xa : Int)); refine Calls.mono (GG1.out _ ?_) ?_; assumption; rintro en w5 ⟨k5, s5, A5, m5, c5, rfl, ho5, hS5⟩))
    all_goals
      go_upto_region 17 with fail
      obtain ⟨W7, hW7⟩ : ∃ W7, (w6.setCell ⟨w.heap.size + 1 + 1, 2, none⟩ (.slice (some ⟨w6.heap.size, 0, none⟩) 2 2)).alloc (Obj.cells #[.int .i64 k5, .int .i64 s5, .slice A5 m5 c5, .int .i64 k6, .int .i64 s6, .slice A6 m6 c6] 29) = W7 := ⟨_, rfl⟩
      rw [hW7]
      obtain ⟨l6, ht6, hd6⟩ := id ho6
      obtain ⟨hh7, hg7, hsz7, hk7⟩ := of_kids #[.int .i64 k5, .int .i64 s5, .slice A5 m5 c5, .int .i64 k6, .int .i64 s6, .slice A6 m6 c6] ht6.op hpl ht6.left ht6.res ht6.node ht6.tree hW7
      have u0 := fld_cell hh7.tree 0
      have u1 := fld_cell hh7.tree 1
      have u2 := fld_cell hh7.tree 2
      have v0 := fld_cell hh7.res 0
      have v1 := fld_cell hh7.res 1
      have v2 := fld_cell hh7.res 2
      have w0 := fld_frozen hh7.res 0
      have w1 := fld_frozen hh7.res 1
      have w2 := fld_frozen hh7.res 2
      have x1 := lt_blk hh7.res
      have x2 := lt_blk hh7.tree
      simp at u0 u1 u2 v0 v1 v2
      have HH7 := Lib.hid hh7
      have HG7 := Lib.hid hg7
      have HSZ7 := Lib.hid hsz7
      have HK7 := Lib.hid hk7
      have HD6 := Lib.hid hd6
      clear hh7 hW7 hg7 hsz7 hk7 hd6 ht6 ho6 ho5 hS5 hS6 hq1 hq2 y2 y2f hS0 hH0
      go_wp2_with fail
      obtain ⟨g1, g2, g3, g4⟩ := HH7.out.fin hpl
      refine bodyPost_ret (v := .agg #[.int .i64 _, .int .i64 0, .slice (some ⟨w6.heap.size, 0, none⟩) 2 2]) (by simp [results, Tryz.results29, go_sem, v0, v1, v2]; rfl) rfl ⟨_, rfl, g1, ⟨_, _, _, _, _, rfl⟩, ?_⟩
      rcases HD6.out with ⟨d1, d2, m, d3, d4, d5, d6⟩ | ⟨d1, d2, d3⟩
      · left
        refine ⟨by simp [W.size]; omega, ?_, w6.heap.size, 2, m, .agg #[.int .i64 k5, .int .i64 s5, .slice A5 m5 c5], .agg #[.int .i64 k6, .int .i64 s6, .slice A6 m6 c6], rfl, by omega, by omega, d4, by rw [g3, HSZ7.out]; omega, ?_, ?_, ?_, ?_⟩
        · rw [d2] at g2
          have e : l - 1 - (T1.size : Int) - (T2.size : Int) = l - ((T1.size + T2.size + 1 : Nat) : Int) := by omega
          rw [e] at g2
          exact g2
        · exact ⟨_, _, _, _, rfl, (g4 _ (by omega)).trans HG7.out, by simp, by simp, by simp⟩
        · exact ⟨_, _, _, _, rfl, (g4 _ (by omega)).trans HG7.out, by simp, by simp, by simp⟩
        · exact Tk.mono _ _ _ _ _ _ (by omega) (Nat.le_refl _) (Tk.keep _ _ _ _ (fun b q1 q2 => (g4 b (by omega)).trans (HK7.out b (by omega) (by omega))) d5)
        · exact Tk.keep _ _ _ _ (fun b q1 q2 => (g4 b (by omega)).trans (HK7.out b q2 (by omega))) d6
      · right
        exact ⟨by simp [W.size]; omega, l6, g2, d2, fun h => by omega, fun _ => by omega⟩
end Go.Proofs.YtccknopchddicaaGreatDoor
/- contract: wOf, at every node. -/
namespace Go.Proofs.YtccknopchddicaaGreatDoor
open Go.RowKit Stile
theorem treesL_pre (p : List Nd) : ∀ q : List Nd, ∃ s, treesL (p ++ q) = treesL p ++ s := by
  intro q
  induction q using snoc_ind with
  | h0 => exact ⟨[], by simp⟩
  | h1 q y ihq =>
    obtain ⟨s, hs⟩ := ihq
    exact ⟨s ++ [mkW (treesL (p ++ q)) y], by rw [← List.append_assoc, treesL_snoc, hs]; simp⟩
theorem getW_pre (ts s : List W) (i : Int) (h0 : 0 ≤ i) (h1 : i < ts.length) : getW (ts ++ s) i = getW ts i := by
  unfold getW
  simp [List.getD, List.getElem?_append_left (show i.toNat < ts.length by omega)]
theorem getW_at {ks : Int → Bool} {m : Int} (hks : ∀ k, ks k = true → anyK k = true) (f : List Nd) (h : okF ks m f) (k : Nat) (hk : k < f.length) : getW (treesL f) (k : Int) = mkW (treesL f) (nd f k) := by
  obtain ⟨p, q, hf, hp⟩ : ∃ p q, f = p ++ nd f k :: q ∧ p.length = k := by
    refine ⟨f.take k, f.drop (k + 1), ?_, by simp; omega⟩
    have e : nd f k = f[k] := by simp [nd, hk]
    rw [e]; simp
  have hn := h k hk
  have e : nd f k = f[k] := by simp [nd, hk]
  rw [← e] at hn
  generalize nd f k = x at *
  subst hf
  have hl := treesL_len p
  obtain ⟨s, hs⟩ := treesL_pre (p ++ [x]) q
  rw [show p ++ x :: q = (p ++ [x]) ++ q by simp, hs, treesL_snoc]
  have e1 : getW (treesL p ++ [mkW (treesL p) x] ++ s) (k : Int) = mkW (treesL p) x := by
    rw [getW_pre _ _ _ (by omega) (by simp; omega)]
    exact getW_last _ _ _ (by omega) []
  rw [e1]
  obtain ⟨hk', ha, hb, hc⟩ := hn
  have gp : ∀ i : Int, 0 ≤ i → i < k → ∀ s, getW (treesL p ++ s) i = getW (treesL p) i := fun i h0 h1 s => getW_pre _ _ _ h0 (by omega)
  unfold mkW
  rcases kinds_cases (hks _ hk') with e | e | e | e | e | e | e | e | e | e | e | e <;>
    simp [e, leafK, oneK, twoK] at ha hb hc <;>
    simp [e, leafK, oneK] <;>
    (try rw [gp x.a (by omega) (by omega)]) <;> (try rw [gp x.b (by omega) (by omega)]) <;> (try exact ⟨rfl, rfl⟩)
theorem of_all {ks : Int → Bool} {m : Int} (hks : ∀ k, ks k = true → anyK k = true) (f : List Nd) (h : okF ks m f) (hfn : f.length ≤ 40) : ∀ k, k < f.length → OfOk f k := by
  intro k
  induction k using Nat.strongRecOn with
  | ind k ih =>
    intro hk fv pl l w hf hl h0 h1
    by_cases hz : l ≤ 0
    · exact of_stop f k hk _ fv pl l w hf hl h0 hz
    · have hn := h k hk
      have e : nd f k = f[k] := by simp [nd, hk]
      rw [← e] at hn
      obtain ⟨hk', ha, hb, hc⟩ := hn
      have ih' : ∀ j, j < k → OfOk f j := fun j hj => ih j hj (by omega)
      rw [getW_at hks f h k hk]
      rcases kinds_cases (hks _ hk') with e | e | e | e | e | e | e | e | e | e | e | e
      · have := of_leaf f k hk fv pl l w hf hl (by omega) h1 (by omega)
        simpa [mkW, e, leafK] using this
      · have := of_leaf f k hk fv pl l w hf hl (by omega) h1 (by omega)
        simpa [mkW, e, leafK] using this
      · have := of_leaf f k hk fv pl l w hf hl (by omega) h1 (by omega)
        simpa [mkW, e, leafK] using this
      · simp [e, oneK] at hb
        have := of_one f k hk ih' fv pl l w hf hl (by omega) h1 (by omega) hb.1 hb.2.1
        simpa [mkW, e, leafK, oneK] using this
      · simp [e, twoK] at hc
        have := of_two f k hk hfn ih' fv pl l w hf hl (by omega) h1 (by omega) hc.1 hc.2.1 hc.2.2.1 hc.2.2.2
        simpa [mkW, e, leafK, oneK] using this
      · simp [e, twoK] at hc
        have := of_two f k hk hfn ih' fv pl l w hf hl (by omega) h1 (by omega) hc.1 hc.2.1 hc.2.2.1 hc.2.2.2
        simpa [mkW, e, leafK, oneK] using this
      · simp [e, oneK] at hb
        have := of_one f k hk ih' fv pl l w hf hl (by omega) h1 (by omega) hb.1 hb.2.1
        simpa [mkW, e, leafK, oneK] using this
      · simp [e, oneK] at hb
        have := of_one f k hk ih' fv pl l w hf hl (by omega) h1 (by omega) hb.1 hb.2.1
        simpa [mkW, e, leafK, oneK] using this
      · simp [e, twoK] at hc
        have := of_two f k hk hfn ih' fv pl l w hf hl (by omega) h1 (by omega) hc.1 hc.2.1 hc.2.2.1 hc.2.2.2
        simpa [mkW, e, leafK, oneK] using this
      · simp [e, twoK] at hc
        have := of_two f k hk hfn ih' fv pl l w hf hl (by omega) h1 (by omega) hc.1 hc.2.1 hc.2.2.1 hc.2.2.2
        simpa [mkW, e, leafK, oneK] using this
      · simp [e, oneK] at hb
        have := of_one f k hk ih' fv pl l w hf hl (by omega) h1 (by omega) hb.1 hb.2.1
        simpa [mkW, e, leafK, oneK] using this
      · simp [e, twoK] at hc
        have := of_two f k hk hfn ih' fv pl l w hf hl (by omega) h1 (by omega) hc.1 hc.2.1 hc.2.2.1 hc.2.2.2
        simpa [mkW, e, leafK, oneK] using this
end Go.Proofs.YtccknopchddicaaGreatDoor
/- trees in memory with the places of their parts. -/
namespace Go.Proofs.YtccknopchddicaaGreatDoor
open Go.RowKit Stile
/-- a tree as it lies in memory: the block and the room of each list of parts -/
inductive Mt where
  | n0 (k s : Int)
  | n1 (k : Int) (g c : Nat) (x : Mt)
  | n2 (k : Int) (g c : Nat) (x y : Mt)
namespace Mt
def w : Mt → W
  | n0 k s => .n0 k s
  | n1 k _ _ x => .n1 k x.w
  | n2 k _ _ x y => .n2 k x.w y.w
def kk : Mt → Int
  | n0 k _ => k
  | n1 k _ _ _ => k
  | n2 k _ _ _ _ => k
def ks : Mt → Int
  | n0 _ s => s
  | n1 _ _ _ _ => 0
  | n2 _ _ _ _ _ => 0
def kA : Mt → Option Addr
  | n0 _ _ => none
  | n1 _ g _ _ => some ⟨g, 0, none⟩
  | n2 _ g _ _ _ => some ⟨g, 0, none⟩
def kc : Mt → Nat
  | n0 _ _ => 0
  | n1 _ _ c _ => c
  | n2 _ _ c _ _ => c
def kids : Mt → List Mt
  | n0 _ _ => []
  | n1 _ _ _ x => [x]
  | n2 _ _ _ x y => [x, y]
def val (m : Mt) : Value := .agg #[.int .i64 m.kk, .int .i64 m.ks, .slice m.kA m.kids.length m.kc]
def has (wd : World) : Mt → Prop
  | n0 _ _ => True
  | n1 _ g c x => 1 ≤ c ∧ KidAt wd g 0 x.val ∧ x.has wd
  | n2 _ g c x y => 2 ≤ c ∧ KidAt wd g 0 x.val ∧ KidAt wd g 1 y.val ∧ x.has wd ∧ y.has wd
def blks : Mt → List Nat
  | n0 _ _ => []
  | n1 _ g _ x => g :: x.blks
  | n2 _ g _ x y => g :: (x.blks ++ y.blks)
def get : Mt → List Bool → Mt
  | t, [] => t
  | n1 _ _ _ x, false :: p => x.get p
  | n2 _ _ _ x _, false :: p => x.get p
  | n2 _ _ _ _ y, true :: p => y.get p
  | t, _ :: _ => t
def put : Mt → List Bool → Mt → Mt
  | _, [], z => z
  | n1 k g c x, false :: p, z => n1 k g c (x.put p z)
  | n2 k g c x y, false :: p, z => n2 k g c (x.put p z) y
  | n2 k g c x y, true :: p, z => n2 k g c x (y.put p z)
  | t, _ :: _, _ => t
/-- the place of the part at a path, if the whole lies at place a (block, number) -/
def addr : Mt → Nat × Nat → List Bool → Nat × Nat
  | _, a, [] => a
  | n1 _ g _ x, _, false :: p => x.addr (g, 0) p
  | n2 _ g _ x _, _, false :: p => x.addr (g, 0) p
  | n2 _ g _ _ y, _, true :: p => y.addr (g, 1) p
  | _, a, _ :: _ => a
def addrs (m : Mt) (a : Nat × Nat) : List (Nat × Nat) := m.w.paths.map (m.addr a)
theorem addr_nil (m : Mt) (a) : m.addr a [] = a := by cases m <;> rfl
theorem addrs_n0 (k s : Int) (a) : (n0 k s).addrs a = [a] := rfl
theorem addrs_n1 (k : Int) (g c : Nat) (x : Mt) (a) : (n1 k g c x).addrs a = a :: x.addrs (g, 0) := by
  simp [addrs, w, W.paths, addr, List.map_map, Function.comp_def]
theorem addrs_n2 (k : Int) (g c : Nat) (x y : Mt) (a) : (n2 k g c x y).addrs a = a :: (x.addrs (g, 0) ++ y.addrs (g, 1)) := by
  simp [addrs, w, W.paths, addr, List.map_map, Function.comp_def]
theorem get_w : ∀ (m : Mt) (p : List Bool), (m.get p).w = m.w.get p := by
  intro m
  induction m with
  | n0 k s => intro p; rcases p with _ | ⟨_ | _, p⟩ <;> rfl
  | n1 k g c x ih => intro p; rcases p with _ | ⟨_ | _, p⟩ <;> first | rfl | exact ih p
  | n2 k g c x y ih1 ih2 => intro p; rcases p with _ | ⟨_ | _, p⟩ <;> first | rfl | exact ih1 p | exact ih2 p
theorem put_w (z : Mt) : ∀ (m : Mt) (p : List Bool), (m.put p z).w = m.w.put p z.w := by
  intro m
  induction m with
  | n0 k s => intro p; rcases p with _ | ⟨_ | _, p⟩ <;> rfl
  | n1 k g c x ih =>
    intro p
    rcases p with _ | ⟨_ | _, p⟩
    · rfl
    · simp [put, w, W.put, ih p]
    · rfl
  | n2 k g c x y ih1 ih2 =>
    intro p
    rcases p with _ | ⟨_ | _, p⟩
    · rfl
    · simp [put, w, W.put, ih1 p]
    · simp [put, w, W.put, ih2 p]
theorem paths_len : ∀ t : W, t.paths.length = t.size := by
  intro t
  induction t with
  | n0 k s => rfl
  | n1 k x ih => simp [W.paths, W.size, ih]
  | n2 k x y ih1 ih2 => simp [W.paths, W.size, ih1, ih2]
theorem addrs_len (m : Mt) (a) : (m.addrs a).length = m.w.size := by simp [addrs, paths_len]
theorem has.keep {w1 w2 : World} : ∀ {m : Mt}, m.has w1 → (∀ g ∈ m.blks, w2.heap[g]? = w1.heap[g]?) → m.has w2 := by
  intro m
  induction m with
  | n0 k s => intro h _; trivial
  | n1 k g c x ih =>
    rintro ⟨h1, h2, h3⟩ hk
    exact ⟨h1, h2.keep (hk g (by simp [blks])), ih h3 fun b hb => hk b (by simp [blks, hb])⟩
  | n2 k g c x y ih1 ih2 =>
    rintro ⟨h1, h2, h3, h4, h5⟩ hk
    exact ⟨h1, h2.keep (hk g (by simp [blks])), h3.keep (hk g (by simp [blks])), ih1 h4 fun b hb => hk b (by simp [blks, hb]), ih2 h5 fun b hb => hk b (by simp [blks, hb])⟩
theorem _root_.Go.Proofs.YtccknopchddicaaGreatDoor.KidAt.lt {w1 : World} {g j : Nat} {v : Value} (h : KidAt w1 g j v) : g < w1.heap.size := by
  obtain ⟨c0, c1, c2, cur, _, h1, _⟩ := h
  exact lt_blk h1
theorem has.lt {w1 : World} : ∀ {m : Mt}, m.has w1 → ∀ g ∈ m.blks, g < w1.heap.size := by
  intro m
  induction m with
  | n0 k s => intro _ g hg; simp [blks] at hg
  | n1 k g c x ih =>
    rintro ⟨h1, h2, h3⟩ b hb
    simp [blks] at hb
    rcases hb with rfl | hb
    · exact h2.lt
    · exact ih h3 b hb
  | n2 k g c x y ih1 ih2 =>
    rintro ⟨h1, h2, h3, h4, h5⟩ b hb
    simp [blks] at hb
    rcases hb with rfl | hb | hb
    · exact h2.lt
    · exact ih1 h4 b hb
    · exact ih2 h5 b hb
/-- each of its blocks is a row of nodes -/
theorem has.row {w1 : World} : ∀ {m : Mt}, m.has w1 → ∀ g ∈ m.blks, ∃ cur, w1.heap[g]? = some (.cells cur 29 (0, 0)) := by
  intro m
  induction m with
  | n0 k s => intro _ g hg; simp [blks] at hg
  | n1 k g c x ih =>
    rintro ⟨h1, h2, h3⟩ b hb
    simp [blks] at hb
    rcases hb with rfl | hb
    · obtain ⟨_, _, _, cur, _, h, _⟩ := h2; exact ⟨cur, h⟩
    · exact ih h3 b hb
  | n2 k g c x y ih1 ih2 =>
    rintro ⟨h1, h2, h3, h4, h5⟩ b hb
    simp [blks] at hb
    rcases hb with rfl | hb | hb
    · obtain ⟨_, _, _, cur, _, h, _⟩ := h2; exact ⟨cur, h⟩
    · exact ih1 h4 b hb
    · exact ih2 h5 b hb
theorem has.below {w1 w2 : World} {B : Nat} {m : Mt} (h : m.has w1) (hb : Below B w1 w2) (hB : ∀ g ∈ m.blks, g < B) : m.has w2 := h.keep fun g hg => hb.block g (hB g hg)
theorem has.made {w1 w2 : World} {m : Mt} (h : m.has w1) (hb : Below w1.heap.size w1 w2) : m.has w2 := h.below hb h.lt
theorem td {w1 : World} {lo hi : Nat} : ∀ {m : Mt}, m.has w1 → (∀ g ∈ m.blks, lo ≤ g ∧ g < hi) → Td w1 lo hi m.w m.val := by
  intro m
  induction m with
  | n0 k s => intro _ _; rfl
  | n1 k g c x ih =>
    rintro ⟨h1, h2, h3⟩ hb
    have hg := hb g (by simp [blks])
    exact ⟨g, c, x.val, rfl, h1, hg.1, hg.2, h2, ih h3 fun b h => hb b (by simp [blks, h])⟩
  | n2 k g c x y ih1 ih2 =>
    rintro ⟨h1, h2, h3, h4, h5⟩ hb
    have hg := hb g (by simp [blks])
    exact ⟨g, c, x.val, y.val, rfl, h1, hg.1, hg.2, h2, h3, ih1 h4 fun b h => hb b (by simp [blks, h]), ih2 h5 fun b h => hb b (by simp [blks, h])⟩
theorem of_tk {w1 : World} : ∀ (t : W) (lo hi : Nat) (v : Value), Tk w1 t lo hi v → ∃ m : Mt, m.w = t ∧ m.val = v ∧ m.has w1 ∧ (∀ g ∈ m.blks, lo ≤ g ∧ g < hi) ∧ m.blks.Nodup := by
  intro t
  induction t with
  | n0 k s =>
    intro lo hi v h
    exact ⟨.n0 k s, rfl, h.1.symm, trivial, by simp [blks], by simp [blks]⟩
  | n1 k x ih =>
    rintro lo hi v ⟨g, c, a, rfl, h1, h2, h3, h4, h5⟩
    obtain ⟨m, rfl, rfl, q1, q2, q3⟩ := ih lo g a h5
    refine ⟨.n1 k g c m, rfl, rfl, ⟨h1, h4, q1⟩, ?_, ?_⟩
    · intro b hb
      simp [blks] at hb
      rcases hb with rfl | hb
      · exact ⟨h2, h3⟩
      · have := q2 b hb; omega
    · simp only [blks, List.nodup_cons]
      exact ⟨fun hb => by have := q2 g hb; omega, q3⟩
  | n2 k x y ih1 ih2 =>
    rintro lo hi v ⟨g, c, mm, a, b, rfl, h1, h2, h3, h4, h5, h6, h7, h8⟩
    obtain ⟨m1, rfl, rfl, q1, q2, q3⟩ := ih1 lo mm a h7
    obtain ⟨m2, rfl, rfl, r1, r2, r3⟩ := ih2 mm g b h8
    refine ⟨.n2 k g c m1 m2, rfl, rfl, ⟨h1, h5, h6, q1, r1⟩, ?_, ?_⟩
    · intro b hb
      simp [blks] at hb
      rcases hb with rfl | hb | hb
      · omega
      · have := q2 b hb; omega
      · have := r2 b hb; omega
    · simp only [blks, List.nodup_cons, List.mem_append, List.nodup_append]
      refine ⟨fun hb => ?_, q3, r3, ?_⟩
      · rcases hb with hb | hb
        · have := q2 g hb; omega
        · have := r2 g hb; omega
      · intro p hp q hq e
        have := q2 p hp; have := r2 q hq; omega
theorem ind {P : Mt → Prop} (h : ∀ m, (∀ x ∈ m.kids, P x) → P m) : ∀ m, P m
  | n0 k s => h _ (by simp [kids])
  | n1 k g c x => h _ (by simp [kids]; exact ind h x)
  | n2 k g c x y => h _ (by simp [kids]; exact ⟨ind h x, ind h y⟩)
/-- its parts, one like the other -/
theorem has.kid {w1 : World} {m : Mt} (h : m.has w1) {j : Nat} (hj : j < m.kids.length) : ∃ g, m.kA = some ⟨g, 0, none⟩ ∧ g ∈ m.blks ∧ m.kids.length ≤ m.kc ∧ KidAt w1 g j (m.kids[j]).val ∧ (m.kids[j]).has w1 := by
  cases m with
  | n0 k s => simp [kids] at hj
  | n1 k g c x =>
    obtain ⟨h1, h2, h3⟩ := h
    obtain rfl : j = 0 := by simp [kids] at hj; exact hj
    exact ⟨g, rfl, by simp [blks], h1, h2, h3⟩
  | n2 k g c x y =>
    obtain ⟨h1, h2, h3, h4, h5⟩ := h
    have hj : j < 2 := hj
    match j, hj with
    | 0, _ => exact ⟨g, rfl, by simp [blks], h1, h2, h4⟩
    | 1, _ => exact ⟨g, rfl, by simp [blks], h1, h3, h5⟩
theorem kid_blks {m : Mt} {x : Mt} (hx : x ∈ m.kids) : ∀ g ∈ x.blks, g ∈ m.blks := by
  intro g hg
  cases m with
  | n0 k s => simp [kids] at hx
  | n1 k g' c y => simp [kids] at hx; subst hx; simp [blks, hg]
  | n2 k g' c y z => simp [kids] at hx; rcases hx with rfl | rfl <;> simp [blks, hg]
theorem kid_size {m : Mt} {x : Mt} (hx : x ∈ m.kids) : x.w.size < m.w.size := by
  cases m with
  | n0 k s => simp [kids] at hx
  | n1 k g' c y => simp [kids] at hx; subst hx; simp [w, W.size]
  | n2 k g' c y z => simp [kids] at hx; rcases hx with rfl | rfl <;> simp [w, W.size] <;> omega
theorem kids_le (m : Mt) : m.kids.length ≤ 2 := by cases m <;> simp [kids]
/-! ### the place of a part -/
theorem at_path {w1 : World} : ∀ (m : Mt) (a : Nat × Nat) (p : List Bool), p ∈ m.w.paths → KidAt w1 a.1 a.2 m.val → m.has w1 → KidAt w1 (m.addr a p).1 (m.addr a p).2 (m.get p).val ∧ (m.get p).has w1 ∧ (∀ g ∈ (m.get p).blks, g ∈ m.blks) ∧ (m.addr a p).1 ∈ a.1 :: m.blks := by
  intro m
  induction m with
  | n0 k s =>
    intro a p hp h1 h2
    simp [w, W.paths] at hp
    subst hp
    exact ⟨h1, h2, fun g h => h, by simp [addr]⟩
  | n1 k g c x ih =>
    intro a p hp h1 h2
    simp [w, W.paths] at hp
    rcases hp with rfl | ⟨q, hq, rfl⟩
    · exact ⟨h1, h2, fun g h => h, by simp [addr]⟩
    · obtain ⟨e1, e2, e3⟩ := h2
      obtain ⟨q1, q2, q3, q4⟩ := ih (g, 0) q hq e2 e3
      refine ⟨q1, q2, fun b hb => by simp [blks, q3 b hb], ?_⟩
      simp [addr, blks] at q4 ⊢
      rcases q4 with q4 | q4 <;> simp [q4]
  | n2 k g c x y ih1 ih2 =>
    intro a p hp h1 h2
    simp [w, W.paths] at hp
    obtain ⟨e1, e2, e3, e4, e5⟩ := id h2
    rcases hp with rfl | ⟨q, hq, rfl⟩ | ⟨q, hq, rfl⟩
    · exact ⟨h1, h2, fun g h => h, by simp [addr]⟩
    · obtain ⟨q1, q2, q3, q4⟩ := ih1 (g, 0) q hq e2 e4
      refine ⟨q1, q2, fun b hb => by simp [blks, q3 b hb], ?_⟩
      simp [addr, blks] at q4 ⊢
      rcases q4 with q4 | q4 <;> simp [q4]
    · obtain ⟨q1, q2, q3, q4⟩ := ih2 (g, 1) q hq e3 e5
      refine ⟨q1, q2, fun b hb => by simp [blks, q3 b hb], ?_⟩
      simp [addr, blks] at q4 ⊢
      rcases q4 with q4 | q4 <;> simp [q4]
/-- w2 is w1 with a node stored at place a -/
structure PutAt (w1 w2 : World) (a : Nat × Nat) (v : Value) : Prop where
  at_ : KidAt w2 a.1 a.2 v
  beside : ∀ j u, j ≠ a.2 → KidAt w1 a.1 j u → KidAt w2 a.1 j u
  other : ∀ b, b ≠ a.1 → w2.heap[b]? = w1.heap[b]?
theorem put_has {w1 w2 : World} {z : Mt} : ∀ (m : Mt) (a : Nat × Nat) (p : List Bool), p ∈ m.w.paths → KidAt w1 a.1 a.2 m.val → m.has w1 → a.1 ∉ m.blks → m.blks.Nodup →
    PutAt w1 w2 (m.addr a p) z.val → z.has w2 → KidAt w2 a.1 a.2 (m.put p z).val ∧ (m.put p z).has w2 := by
  intro m
  induction m with
  | n0 k s =>
    intro a p hp h1 h2 hna hnd hput hz
    simp [w, W.paths] at hp
    subst hp
    exact ⟨hput.at_, hz⟩
  | n1 k g c x ih =>
    intro a p hp h1 h2 hna hnd hput hz
    simp [w, W.paths] at hp
    rcases hp with rfl | ⟨q, hq, rfl⟩
    · exact ⟨hput.at_, hz⟩
    · obtain ⟨e1, e2, e3⟩ := h2
      simp only [blks, List.nodup_cons] at hnd
      simp only [blks, List.mem_cons, not_or] at hna
      have hput' : PutAt w1 w2 (x.addr (g, 0) q) z.val := hput
      obtain ⟨r1, r2⟩ := ih (g, 0) q hq e2 e3 hnd.1 hnd.2 hput' hz
      obtain ⟨_, _, _, q4⟩ := at_path x (g, 0) q hq e2 e3
      refine ⟨?_, e1, r1, r2⟩
      refine KidAt.keep (v := (n1 k g c x).val) h1 (hput'.other _ fun e => ?_)
      rw [← e] at q4
      simp at q4
      rcases q4 with q4 | q4
      · exact hna.1 q4
      · exact hna.2 q4
  | n2 k g c x y ih1 ih2 =>
    intro a p hp h1 h2 hna hnd hput hz
    simp [w, W.paths] at hp
    obtain ⟨e1, e2, e3, e4, e5⟩ := id h2
    simp only [blks, List.nodup_cons, List.mem_append, not_or, List.nodup_append] at hnd
    obtain ⟨⟨n1, n2⟩, n3, n4, n5⟩ := hnd
    simp only [blks, List.mem_cons, List.mem_append, not_or] at hna
    rcases hp with rfl | ⟨q, hq, rfl⟩ | ⟨q, hq, rfl⟩
    · exact ⟨hput.at_, hz⟩
    · have hput' : PutAt w1 w2 (x.addr (g, 0) q) z.val := hput
      obtain ⟨r1, r2⟩ := ih1 (g, 0) q hq e2 e4 n1 n3 hput' hz
      obtain ⟨_, _, _, q4⟩ := at_path x (g, 0) q hq e2 e4
      simp only [List.mem_cons] at q4
      refine ⟨KidAt.keep (v := (Mt.n2 k g c x y).val) h1 (hput'.other _ fun e => ?_), e1, r1, ?_, r2, ?_⟩
      · rw [← e] at q4
        rcases q4 with q4 | q4
        · exact hna.1 q4
        · exact hna.2.1 q4
      · by_cases hg : (x.addr (g, 0) q).1 = g
        · have : q = [] := by
            rcases q with _ | ⟨b, q⟩
            · rfl
            · exfalso
              cases x with
              | n0 k s => simp [w, W.paths] at hq
              | n1 k' g' c' x' =>
                simp [w, W.paths] at hq
                obtain ⟨hq, rfl⟩ := hq
                obtain ⟨f1, f2, f3⟩ := e4
                obtain ⟨_, _, _, s4⟩ := at_path x' (g', 0) q hq f2 f3
                rw [addr] at hg
                rw [hg] at s4
                simp only [blks, List.mem_cons, not_or] at n1 s4
                rcases s4 with s4 | s4
                · exact n1.1 s4
                · exact n1.2 s4
              | n2 k' g' c' x' y' =>
                simp [w, W.paths] at hq
                obtain ⟨f1, f2, f3, f4, f5⟩ := e4
                simp only [blks, List.mem_cons, List.mem_append, not_or] at n1
                rcases hq with ⟨hq, rfl⟩ | ⟨hq, rfl⟩
                · obtain ⟨_, _, _, s4⟩ := at_path x' (g', 0) q hq f2 f4
                  rw [addr] at hg
                  rw [hg] at s4
                  simp only [List.mem_cons] at s4
                  rcases s4 with s4 | s4
                  · exact n1.1 s4
                  · exact n1.2.1 s4
                · obtain ⟨_, _, _, s4⟩ := at_path y' (g', 1) q hq f3 f5
                  rw [addr] at hg
                  rw [hg] at s4
                  simp only [List.mem_cons] at s4
                  rcases s4 with s4 | s4
                  · exact n1.1 s4
                  · exact n1.2.2 s4
          subst this
          rw [addr_nil] at hput'
          exact hput'.beside 1 _ (by simp) e3
        · exact e3.keep (hput'.other _ fun e => hg e.symm)
      · refine e5.keep fun b hb => hput'.other _ fun e => ?_
        rw [← e] at q4
        rcases q4 with q4 | q4
        · exact n2 (q4 ▸ hb)
        · exact n5 b q4 b hb rfl
    · have hput' : PutAt w1 w2 (y.addr (g, 1) q) z.val := hput
      obtain ⟨r1, r2⟩ := ih2 (g, 1) q hq e3 e5 n2 n4 hput' hz
      obtain ⟨_, _, _, q4⟩ := at_path y (g, 1) q hq e3 e5
      simp only [List.mem_cons] at q4
      refine ⟨KidAt.keep (v := (Mt.n2 k g c x y).val) h1 (hput'.other _ fun e => ?_), e1, ?_, r1, ?_, r2⟩
      · rw [← e] at q4
        rcases q4 with q4 | q4
        · exact hna.1 q4
        · exact hna.2.2 q4
      · by_cases hg : (y.addr (g, 1) q).1 = g
        · have : q = [] := by
            rcases q with _ | ⟨b, q⟩
            · rfl
            · exfalso
              cases y with
              | n0 k s => simp [w, W.paths] at hq
              | n1 k' g' c' x' =>
                simp [w, W.paths] at hq
                obtain ⟨hq, rfl⟩ := hq
                obtain ⟨f1, f2, f3⟩ := e5
                obtain ⟨_, _, _, s4⟩ := at_path x' (g', 0) q hq f2 f3
                rw [addr] at hg
                rw [hg] at s4
                simp only [blks, List.mem_cons, not_or] at n2 s4
                rcases s4 with s4 | s4
                · exact n2.1 s4
                · exact n2.2 s4
              | n2 k' g' c' x' y' =>
                simp [w, W.paths] at hq
                obtain ⟨f1, f2, f3, f4, f5⟩ := e5
                simp only [blks, List.mem_cons, List.mem_append, not_or] at n2
                rcases hq with ⟨hq, rfl⟩ | ⟨hq, rfl⟩
                · obtain ⟨_, _, _, s4⟩ := at_path x' (g', 0) q hq f2 f4
                  rw [addr] at hg
                  rw [hg] at s4
                  simp only [List.mem_cons] at s4
                  rcases s4 with s4 | s4
                  · exact n2.1 s4
                  · exact n2.2.1 s4
                · obtain ⟨_, _, _, s4⟩ := at_path y' (g', 1) q hq f3 f5
                  rw [addr] at hg
                  rw [hg] at s4
                  simp only [List.mem_cons] at s4
                  rcases s4 with s4 | s4
                  · exact n2.1 s4
                  · exact n2.2.2 s4
          subst this
          rw [addr_nil] at hput'
          exact hput'.beside 0 _ (by simp) e2
        · exact e2.keep (hput'.other _ fun e => hg e.symm)
      · refine e4.keep fun b hb => hput'.other _ fun e => ?_
        rw [← e] at q4
        rcases q4 with q4 | q4
        · exact n1 (q4 ▸ hb)
        · exact n5 b hb b q4 rfl
end Mt
end Go.Proofs.YtccknopchddicaaGreatDoor
