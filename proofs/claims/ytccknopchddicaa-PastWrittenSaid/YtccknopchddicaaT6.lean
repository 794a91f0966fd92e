/- contract: wOf at a node of two parts (the walk). -/
import Derived.Test.YtccknopchddicaaT5
namespace Go.Proofs.Ytccknopchddicaa
open Go.RowKit Stile
set_option maxRecDepth 100000 in
set_option maxHeartbeats 3200000 in
theorem of_two (f : List Nd) (k : Nat) (hk : k < f.length) (hfn : f.length ≤ 40) (ih : ∀ j, j < k → OfOk f j) (fv : Value) (pl : Nat) (l : Int) (w : World) (hf : RdN w pl fv f) (hl : LeftAt w pl l) (h0 : 1 ≤ l) (h1 : l ≤ 100) (hkind : (nd f k).k = 4 ∨ (nd f k).k = 5 ∨ (nd f k).k = 8 ∨ (nd f k).k = 9 ∨ (nd f k).k = 11) (ha0 : 0 ≤ (nd f k).a) (hak : (nd f k).a < k) (hb0 : 0 ≤ (nd f k).b) (hbk : (nd f k).b < k) :
    Calls Try.prog 17 #[fv, .int .i64 (k : Int), .pointer (some ⟨pl, 0, none⟩)] w fun e w' => ∃ v, e = .returned v ∧ OfPost (.n2 (nd f k).k (getW (treesL f) (nd f k).a) (getW (treesL f) (nd f k).b)) k pl l w v w' := by
  obtain ⟨b, off, c, rfl, hlc, hb, hcell⟩ := hf.at_ (by omega)
  obtain ⟨c1, c2, c3⟩ := hcell k hk
  have hpl := lt_blk hl
  have hbl : b < w.heap.size := by omega
  have lc := fld_cell hl 0
  have lf := fld_frozen hl 0
  simp at lc
  have HL := Lib.hid hl
  have hneg : decide (l - 1 < 0) = false := by simp; omega
  obtain ⟨x, hx⟩ : ∃ x, nd f k = x := ⟨_, rfl⟩
  rw [hx] at c1 c2 c3
  rw [hx] at hkind ha0 hak hb0 hbk ⊢
  obtain ⟨xk, xa, xb⟩ := x
  dsimp only at c1 c2 c3 hkind ha0 hak hb0 hbk ⊢
  obtain ⟨xb, rfl⟩ := Int.eq_ofNat_of_zero_le hb0
  obtain ⟨xa, rfl⟩ := Int.eq_ofNat_of_zero_le ha0
  have hxk : xa < k := by omega
  have hxb : xb < k := by omega
  have ih1 := fun W (hb : Below pl w W) => ih xa (by omega) (.slice (some ⟨b, off, none⟩) f.length c) pl (l - 1) W (Rd.below hf hb)
  have ih2 := fun W (hb : Below pl w W) l1 => ih xb (by omega) (.slice (some ⟨b, off, none⟩) f.length c) pl l1 W (Rd.below hf hb)
  obtain ⟨T1, hT1⟩ : ∃ T1, getW (treesL f) (xa : Int) = T1 := ⟨_, rfl⟩
  rw [hT1] at ih1 ⊢
  obtain ⟨T2, hT2⟩ : ∃ T2, getW (treesL f) (xb : Int) = T2 := ⟨_, rfl⟩
  rw [hT2] at ih2 ⊢
  have HIH := Lib.hid ih1
  have HIH2 := Lib.hid ih2
  clear ih ih1 hT1 ih2 hT2
  have e1 : (l : Int) = l := rfl
  generalize f.length = n at *
  clear hcell hf hl hx
  go_enter Try.func17, Try.ntmps17
  go_upto_region 3 with fail
  obtain ⟨W3, hW3⟩ : ∃ W3, (((w.alloc (Obj.cells #[.int .i64 0, .int .i64 0, .slice none 0 0] 33)).alloc (Obj.cells #[.int .i64 xk, .int .i64 (xa : Int), .int .i64 (xb : Int)] 49)).alloc (Obj.cells #[.int .i64 xk, .int .i64 0, .slice none 0 0] 33)) = W3 := ⟨_, rfl⟩
  rw [hW3]
  have hb3 : Below w.heap.size w W3 := by rw [← hW3]; exact (((Below.refl _ _).alloc (Nat.le_refl _) _).alloc (by simp) _).alloc (by simp; omega) _
  have hl3 : LeftAt W3 pl l := (hb3.block _ hpl).trans HL.out
  have lc3 : W3.cell? ⟨pl, 0, none⟩ = some (.int .i64 l) := by have := fld_cell hl3 0; simpa using this
  have lf3 := fld_frozen hl3 0
  have hh := of_head HL.out hW3
  clear lc lf hb3 hl3 hW3
  go_upto_region 6 with fail
  obtain ⟨W4, hW4⟩ : ∃ W4, W3.setCell ⟨pl, 0, none⟩ (.int .i64 (l - 1)) = W4 := ⟨_, rfl⟩
  rw [hW4] at hh ⊢
  have ht := fun k => fld_cell hh.tree k
  have t0 := ht 0
  have t1 := ht 1
  have t2 := ht 2
  have hr := fun k => fld_cell hh.res k
  have r0 := hr 0
  have r1 := hr 1
  have r2 := hr 2
  have hf := fun k => fld_frozen hh.res k
  have f0 := hf 0
  have f1 := hf 1
  have f2 := hf 2
  have ft1 := fld_frozen hh.tree 1
  have hn := fun k => fld_cell hh.node k
  have n0 := hn 0
  have n1 := hn 1
  have n2 := hn 2
  have s1 := lt_blk hh.res
  have s2 := lt_blk hh.tree
  have s3 := lt_blk hh.node
  simp at t0 t1 t2 r0 r1 r2 n0 n1 n2
  have HH := Lib.hid hh
  clear ht hr hf hh hW4 lc3 lf3 hn
  have G1 : ∀ W, OfHead w W pl (l - 1) xk 0 xa xb (.slice none 0 0) → Calls Try.prog 17 #[.slice (some ⟨b, off, none⟩) n c, .int .i64 (xa : Int), .pointer (some ⟨pl, 0, none⟩)] W fun e w' => ∃ (k1 s1 : Int) (A1 : Option Addr) (m1 c1 : Nat), e = .returned (.agg #[.int .i64 k1, .int .i64 s1, .slice A1 m1 c1]) ∧
      OneOut w w' pl l k T1 xk xa xb (.agg #[.int .i64 k1, .int .i64 s1, .slice A1 m1 c1]) ∧ (w'.cell? ⟨w.heap.size + 1, 1, none⟩ = some (.int .i64 (xa : Int)) ∧ w'.cell? ⟨w.heap.size + 1, 2, none⟩ = some (.int .i64 (xb : Int))) := fun W h =>
    (HIH.out W h.op.below h.left (by omega) (by omega)).mono fun e w' ⟨v1, e1, e2⟩ => by
      obtain ⟨k1, s1, A1, m1, c1, rfl⟩ := e2.2.1
      have ho := one_out (xa' := xa) h hpl h0 hxk e2
      obtain ⟨l1, hh1, _⟩ := id ho
      have q1 := fld_cell hh1.node 1
      have q2 := fld_cell hh1.node 2
      simp at q1 q2
      exact ⟨k1, s1, A1, m1, c1, e1, ho, q1, q2⟩
  have G2 : ∀ W v1, OneOut w W pl l k T1 xk xa xb v1 → Calls Try.prog 17 #[.slice (some ⟨b, off, none⟩) n c, .int .i64 (xb : Int), .pointer (some ⟨pl, 0, none⟩)] W fun e w' => ∃ (k1 s1 : Int) (A1 : Option Addr) (m1 c1 : Nat), e = .returned (.agg #[.int .i64 k1, .int .i64 s1, .slice A1 m1 c1]) ∧
      TwoOut w w' pl l k T1 T2 xk xa xb v1 (.agg #[.int .i64 k1, .int .i64 s1, .slice A1 m1 c1]) ∧ (w'.cell? ⟨w.heap.size + 1, 1, none⟩ = some (.int .i64 (xa : Int)) ∧ w'.cell? ⟨w.heap.size + 1, 2, none⟩ = some (.int .i64 (xb : Int))) := fun W v1 h => by
    obtain ⟨l1, hh1, hd1⟩ := h
    refine (HIH2.out W hh1.op.below l1 hh1.left (by rcases hd1 with ⟨_, e, _⟩ | ⟨_, _, e⟩ <;> omega) (by rcases hd1 with ⟨_, e, _⟩ | ⟨_, _, e⟩ <;> omega)).mono fun e w' ⟨v2, e1, e2⟩ => ?_
    obtain ⟨k1, s1, A1, m1, c1, rfl⟩ := e2.2.1
    have ho := two_out (xb' := xb) hh1 hpl h0 hxb hd1 e2
    obtain ⟨l2, hh2, _⟩ := id ho
    have q1 := fld_cell hh2.node 1
    have q2 := fld_cell hh2.node 2
    simp at q1 q2
    exact ⟨k1, s1, A1, m1, c1, e1, ho, q1, q2⟩
  have hH0 := HH.out.drew
  have GG1 := Lib.hid G1
  have GG2 := Lib.hid G2
  clear G1 G2 HIH HIH2 t0 t1 t2 r0 r1 r2 f0 f1 f2 ft1
  rcases hkind with rfl | rfl | rfl | rfl | rfl
  all_goals
    go_upto_region 7 with fail
    have hS0 : (W4.drew.cell? ⟨w.heap.size + 1, 1, none⟩ = some (.int .i64 (xa : Int)) ∧ W4.drew.cell? ⟨w.heap.size + 1, 2, none⟩ = some (.int .i64 (xb : Int))) := ⟨n1, n2⟩
    go_region_held3 (fun w' => (w'.cell? ⟨w.heap.size + 1, 1, none⟩ = some (.int .i64 (xa : Int)) ∧ w'.cell? ⟨w.heap.size + 1, 2, none⟩ = some (.int .i64 (xb : Int)))) (first | assumption | exact ⟨hq1 _, hq2 _⟩ | (simp [go_sem, hS6.1, hS6.2, World.cell?_alloc_past, hl6, hl62]))
      (first
        | (go_at_call_of 17 (Value.int .i64 (xb : Int)); refine Calls.mono (GG2.out _ _ ho5) ?_; rintro en w6 ⟨k6, s6, A6, m6, c6, rfl, ho6, hS6⟩; have hl6 : w.heap.size + 1 < w6.heap.size := (let ⟨_, hh, _⟩ := ho6; lt_blk hh.node); have hq1 := fun o => (Below.cell ((Below.refl w6.heap.size w6).alloc (Nat.le_refl _) o) (p := ⟨w.heap.size + 1, 1, none⟩) hl6).trans hS6.1; have hq2 := fun o => (Below.cell ((Below.refl w6.heap.size w6).alloc (Nat.le_refl _) o) (p := ⟨w.heap.size + 1, 2, none⟩) hl6).trans hS6.2; have y2 : w6.cell? ⟨w.heap.size + 2, 2, none⟩ = some (.slice none 0 0) := (let ⟨_, hh, _⟩ := ho6; fld_cell hh.tree 2); have y2f : w6.frozen? ⟨w.heap.size + 2, 2, none⟩ = false := (let ⟨_, hh, _⟩ := ho6; fld_frozen hh.tree 2); have hl62 : w.heap.size + 2 < w6.heap.size := (let ⟨_, hh, _⟩ := ho6; lt_blk hh.tree))
        | (go_at_call_of 17 (Value.int .i64 (xa : Int)); refine Calls.mono (GG1.out _ ?_) ?_; assumption; rintro en w5 ⟨k5, s5, A5, m5, c5, rfl, ho5, hS5⟩))
    all_goals
      go_upto_region 17 with fail
      obtain ⟨W7, hW7⟩ : ∃ W7, (w6.setCell ⟨w.heap.size + 1 + 1, 2, none⟩ (.slice (some ⟨w6.heap.size, 0, none⟩) 2 2)).alloc (Obj.cells #[.int .i64 k5, .int .i64 s5, .slice A5 m5 c5, .int .i64 k6, .int .i64 s6, .slice A6 m6 c6] 33) = W7 := ⟨_, rfl⟩
      rw [hW7]
      obtain ⟨l6, ht6, hd6⟩ := id ho6
      obtain ⟨hh7, hg7, hsz7, hk7⟩ := of_kids #[.int .i64 k5, .int .i64 s5, .slice A5 m5 c5, .int .i64 k6, .int .i64 s6, .slice A6 m6 c6] ht6.op hpl ht6.left ht6.res ht6.node ht6.tree hW7
      have u0 := fld_cell hh7.tree 0
      have u1 := fld_cell hh7.tree 1
      have u2 := fld_cell hh7.tree 2
      have v0 := fld_cell hh7.res 0
      have v1 := fld_cell hh7.res 1
      have v2 := fld_cell hh7.res 2
      have w0 := fld_frozen hh7.res 0
      have w1 := fld_frozen hh7.res 1
      have w2 := fld_frozen hh7.res 2
      have x1 := lt_blk hh7.res
      have x2 := lt_blk hh7.tree
      simp at u0 u1 u2 v0 v1 v2
      have HH7 := Lib.hid hh7
      have HG7 := Lib.hid hg7
      have HSZ7 := Lib.hid hsz7
      have HK7 := Lib.hid hk7
      have HD6 := Lib.hid hd6
      clear hh7 hW7 hg7 hsz7 hk7 hd6 ht6 ho6 ho5 hS5 hS6 hq1 hq2 y2 y2f hS0 hH0
      go_wp2_with fail
      obtain ⟨g1, g2, g3, g4⟩ := HH7.out.fin hpl
      refine bodyPost_ret (v := .agg #[.int .i64 _, .int .i64 0, .slice (some ⟨w6.heap.size, 0, none⟩) 2 2]) (by simp [results, Try.results17, go_sem, v0, v1, v2]; rfl) rfl ⟨_, rfl, g1, ⟨_, _, _, _, _, rfl⟩, ?_⟩
      rcases HD6.out with ⟨d1, d2, m, d3, d4, d5, d6⟩ | ⟨d1, d2, d3⟩
      · left
        refine ⟨by simp [W.size]; omega, ?_, w6.heap.size, 2, m, .agg #[.int .i64 k5, .int .i64 s5, .slice A5 m5 c5], .agg #[.int .i64 k6, .int .i64 s6, .slice A6 m6 c6], rfl, by omega, by omega, d4, by rw [g3, HSZ7.out]; omega, ?_, ?_, ?_, ?_⟩
        · rw [d2] at g2
          have e : l - 1 - (T1.size : Int) - (T2.size : Int) = l - ((T1.size + T2.size + 1 : Nat) : Int) := by omega
          rw [e] at g2
          exact g2
        · exact ⟨_, _, _, _, rfl, (g4 _ (by omega)).trans HG7.out, by simp, by simp, by simp⟩
        · exact ⟨_, _, _, _, rfl, (g4 _ (by omega)).trans HG7.out, by simp, by simp, by simp⟩
        · exact Tk.mono _ _ _ _ _ _ (by omega) (Nat.le_refl _) (Tk.keep _ _ _ _ (fun b q1 q2 => (g4 b (by omega)).trans (HK7.out b (by omega) (by omega))) d5)
        · exact Tk.keep _ _ _ _ (fun b q1 q2 => (g4 b (by omega)).trans (HK7.out b q2 (by omega))) d6
      · right
        exact ⟨by simp [W.size]; omega, l6, g2, d2, fun h => by omega, fun _ => by omega⟩
end Go.Proofs.Ytccknopchddicaa
