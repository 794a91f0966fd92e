/- contract: the rule of PastWritten at Since. -/
import Derived.Test.YtccknopchddicaaT12
namespace Go.Proofs.Ytccknopchddicaa
open Go.RowKit Stile
def KidS (g o : Nat) (x : Mt) (W : World) : Prop := W.cell? ⟨g, o, none⟩ = some (.int .i64 x.kk) ∧ W.cell? ⟨g, o + 1, none⟩ = some (.int .i64 x.ks) ∧ W.cell? ⟨g, o + 2, none⟩ = some (.slice x.kA x.kids.length x.kc)
theorem KidS.up {X o : Nat} {x : Mt} {w1 w2 : World} (h : KidS X o x w1) (hb : Below w1.heap.size w1 w2) : KidS X o x w2 := ⟨cell_up h.1 hb, cell_up h.2.1 hb, cell_up h.2.2 hb⟩
theorem KidS.set3 {X b o : Nat} {x : Mt} {W : World} (u0 u1 u2 : Value) (h : KidS X o x W) (hb : X ≠ b) : KidS X o x (((W.setCell ⟨b, 0, none⟩ u0).setCell ⟨b, 1, none⟩ u1).setCell ⟨b, 2, none⟩ u2) := ⟨cell_set3 h.1 hb, cell_set3 h.2.1 hb, cell_set3 h.2.2 hb⟩
theorem kid_at {W : World} {g j : Nat} {x : Mt} (h : KidAt W g j x.val) : KidS g (3 * j) x W := by
  obtain ⟨a, b, c, _⟩ := KidAt.cells (k := x.kk) (s := x.ks) (A := x.kA) (n := x.kids.length) (c := x.kc) h
  exact ⟨a, b, c⟩
/-- all cells that the region reads -/
def SinS (A X g c : Nat) (any a b : Mt) (W : World) : Prop := BoxS A any W ∧ BoxS X (.n2 11 g c a b) W ∧ KidS g 0 a W ∧ KidS g 3 b W
theorem SinS.up {A X g c : Nat} {any a b : Mt} {w1 w2 : World} (h : SinS A X g c any a b w1) (hb : Below w1.heap.size w1 w2) : SinS A X g c any a b w2 := ⟨h.1.up hb, h.2.1.up hb, h.2.2.1.up hb, h.2.2.2.up hb⟩
theorem SinS.set3 {A X g c B : Nat} {any a b : Mt} {W : World} (u0 u1 u2 : Value) (h : SinS A X g c any a b W) (h1 : A ≠ B) (h2 : X ≠ B) (h3 : g ≠ B) : SinS A X g c any a b (((W.setCell ⟨B, 0, none⟩ u0).setCell ⟨B, 1, none⟩ u1).setCell ⟨B, 2, none⟩ u2) :=
  ⟨h.1.set3 _ _ _ h1, h.2.1.set3 _ _ _ h2, h.2.2.1.set3 _ _ _ h3, h.2.2.2.set3 _ _ _ h3⟩
theorem up_call {W w' : World} {o : Obj} (h : Below (W.alloc o).heap.size (W.alloc o) w') : Below W.heap.size W w' := (up_alloc W o).trans (h.mono (up_alloc W o).size)
theorem up_next {W w' : World} {o : Obj} (h : Below (W.alloc o).heap.size (W.alloc o) w') : Below (W.heap.size + 1) (W.alloc o) w' := h.mono (by simp)
theorem up_trans {w1 w2 w3 : World} (h : Below w1.heap.size w1 w2) (h2 : Below w2.heap.size w2 w3) : Below w1.heap.size w1 w3 := h.trans (h2.mono h.size)
set_option maxRecDepth 100000 in
set_option maxHeartbeats 3200000 in
theorem past_by0 (how : Int) (ph : Addr) (w0 w : World) (g c : Nat) (a b : Mt) (hx : (Mt.n2 11 g c a b).has w) (hc : w.cell? ph = some (.int .i64 how)) (h0 : -9223372036854775808 ≤ how) (h1 : how ≤ 9223372036854775807) (hk : pick how 5 = 0 ∨ pick how 5 = 1) :
    Calls Try.prog 7 #[.agg #[.int .i64 11, .int .i64 0, .slice (some ⟨g, 0, none⟩) 2 c], .pointer (some ph)] w (ByOut (pastRule how) (.n2 11 g c a b) w0 w) := by
  have hp := fun W => pick_any how 5 W h0 h1 (by omega) (by omega)
  have hr : pastRule how (Mt.n2 11 g c a b).w = some (.n2 5 (.n2 4 (.n1 10 (.n0 0 0)) b.w) (.n2 4 a.w (.n1 10 (.n2 11 a.w b.w)))) := by
    unfold pastRule
    rcases hk with e | e <;> rw [e] <;> rfl
  have hcl := lt_of_cell hc
  have hkey : ∃ (j : Int), pick how 5 = j ∧ decide (j < 2) = true := by rcases hk with e | e <;> exact ⟨_, e, by decide⟩
  obtain ⟨j, hj, hjb⟩ := hkey
  rw [hj] at hp
  have HP := Lib.hid hp
  have HX := Lib.hid hx
  have HR := Lib.hid hr
  clear hp hx hr hk hj
  go_enter Try.func7, Try.ntmps7
  go_wp2_with fail
  refine (HP.out _).mono ?_
  rintro e w1 ⟨rfl, rfl⟩
  go_upto_region 3 with fail
  have hh := by_head w (.n2 11 g c a b)
  rw [show (Mt.n2 11 g c a b).kk = 11 from rfl, show (Mt.n2 11 g c a b).ks = 0 from rfl, show (Mt.n2 11 g c a b).kA = some ⟨g, 0, none⟩ from rfl, show (Mt.n2 11 g c a b).kids.length = 2 from rfl, show (Mt.n2 11 g c a b).kc = c from rfl] at hh
  obtain ⟨W2, hW2⟩ : ∃ W2, (w.alloc (Obj.cells #[.int .i64 11, .int .i64 0, .slice (some ⟨g, 0, none⟩) 2 c] 33)).alloc (Obj.cells #[.int .i64 0, .int .i64 0, .slice none 0 0] 33) = W2 := ⟨_, rfl⟩
  rw [hW2] at hh ⊢
  clear hW2
  have hs2 : w.heap.size + 2 ≤ W2.heap.size := lt_blk hh.res
  have HH0 := Lib.hid hh
  clear hh
  have tok : True := trivial
  go_upto_region 4 with (first
      | (have _t := tok; go_at_call 9; refine Calls.mono (wmake_any _ _ _ _ _) ?_; rintro e w3 ⟨rfl, hb3⟩; have hl3 := hb3.size; have HB3 := Lib.hid hb3; clear hb3 tok)
      | (go_at_call 9; refine Calls.mono (wmake_any _ _ _ _ _) ?_; rintro e w4 ⟨rfl, hb4⟩; have hl4 := hb4.size; have HB4 := Lib.hid hb4; clear hb4))
  have hb3 := HB3.out
  have hb4 := up_call HB4.out
  have hany : (Mt.n1 10 w3.heap.size 1 (.n0 0 0)).has w4 := mk1_has (W := w3) (x := .n0 0 0) 10 trivial (up_next HB4.out)
  have hH5 := ((HH0.out.made (up_trans hb3 hb4)).made (up_alloc w4 (mtObj1 (.n1 10 w3.heap.size 1 (.n0 0 0))))).made ((Below.refl _ _).drew)
  have hanyb : (w4.alloc (mtObj1 (.n1 10 w3.heap.size 1 (.n0 0 0)))).drew.heap[w4.heap.size]? = some (mtObj1 (.n1 10 w3.heap.size 1 (.n0 0 0))) := heap_new _ _
  obtain ⟨W5, hW5⟩ : ∃ W5, w4.alloc (Obj.cells #[.int .i64 10, .int .i64 0, .slice (some ⟨w3.heap.size, 0, none⟩) 1 1] 33) = W5 := ⟨_, rfl⟩
  rw [show mtObj1 (.n1 10 w3.heap.size 1 (.n0 0 0)) = Obj.cells #[.int .i64 10, .int .i64 0, .slice (some ⟨w3.heap.size, 0, none⟩) 1 1] 33 from rfl] at hH5
  have hb5 : Below w4.heap.size w4 W5 := by rw [← hW5]; exact up_alloc _ _
  have hany5 : (Mt.n1 10 w3.heap.size 1 (.n0 0 0)).has W5.drew := hany.made hb5.drew
  rw [show (w4.alloc (mtObj1 (.n1 10 w3.heap.size 1 (.n0 0 0)))) = W5 from hW5] at hanyb
  rw [hW5] at hH5 ⊢
  clear hW5
  obtain ⟨hc2, hka, hkb, hah, hbh⟩ := HX.out
  have hupw : Below w.heap.size w W5.drew := hH5.below
  have hS0' : SinS w4.heap.size w.heap.size g c (.n1 10 w3.heap.size 1 (.n0 0 0)) a b W5.drew := ⟨box_at hanyb, box_at hH5.box, kid_at (hka.keep (hupw.block _ hka.lt)), kid_at (hkb.keep (hupw.block _ hkb.lt))⟩
  have hS0 : ((W5.drew.cell? ⟨w4.heap.size, 0, none⟩ = some (.int .i64 10) ∧ W5.drew.cell? ⟨w4.heap.size, 1, none⟩ = some (.int .i64 0) ∧ W5.drew.cell? ⟨w4.heap.size, 2, none⟩ = some (.slice (some ⟨w3.heap.size, 0, none⟩) 1 1)) ∧
    (W5.drew.cell? ⟨w.heap.size, 0, none⟩ = some (.int .i64 11) ∧ W5.drew.cell? ⟨w.heap.size, 1, none⟩ = some (.int .i64 0) ∧ W5.drew.cell? ⟨w.heap.size, 2, none⟩ = some (.slice (some ⟨g, 0, none⟩) 2 c)) ∧
    (W5.drew.cell? ⟨g, 0, none⟩ = some (.int .i64 a.kk) ∧ W5.drew.cell? ⟨g, 1, none⟩ = some (.int .i64 a.ks) ∧ W5.drew.cell? ⟨g, 2, none⟩ = some (.slice a.kA a.kids.length a.kc)) ∧
    (W5.drew.cell? ⟨g, 3, none⟩ = some (.int .i64 b.kk) ∧ W5.drew.cell? ⟨g, 4, none⟩ = some (.int .i64 b.ks) ∧ W5.drew.cell? ⟨g, 5, none⟩ = some (.slice b.kA b.kids.length b.kc))) := hS0'
  have hA5 : a.has W5.drew := hah.made hupw
  have hB5 : b.has W5.drew := hbh.made hupw
  have hX5 : (Mt.n2 11 g c a b).has W5.drew := HX.out.made hupw
  have hgl : g < w.heap.size := hka.lt
  have HH5 := Lib.hid hH5
  have HA5 := Lib.hid hA5
  have HBB5 := Lib.hid hB5
  have HX5 := Lib.hid hX5
  have HANY := Lib.hid hany5
  have HS0 := Lib.hid hS0'
  have hl5 := hb5.size
  have hsz1 := hb3.size
  have hsz2 := hb4.size
  have G3 : ∀ W, (Mt.n2 11 g c a b).has W → Calls Try.prog 10 #[.agg #[.int .i64 11, .int .i64 0, .slice (some ⟨g, 0, none⟩) 2 c]] W fun e w' => ∃ m9 : Mt, e = .returned (.agg #[.int .i64 m9.kk, .int .i64 m9.ks, .slice m9.kA m9.kids.length m9.kc]) ∧ CopyOut (.n2 11 g c a b) W m9 w' := fun W h => copy_out _ W h
  have GG3 := Lib.hid G3
  clear hb3 hb4 hany hH5 hanyb hb5 hany5 hka hkb hah hbh hupw hS0' hA5 hB5 hX5 G3
  have t1 : True := trivial
  have t2 : True := trivial
  have t4 : True := trivial
  have t5 : True := trivial
  go_region_held3 (fun w' => ((w'.cell? ⟨w4.heap.size, 0, none⟩ = some (.int .i64 10) ∧ w'.cell? ⟨w4.heap.size, 1, none⟩ = some (.int .i64 0) ∧ w'.cell? ⟨w4.heap.size, 2, none⟩ = some (.slice (some ⟨w3.heap.size, 0, none⟩) 1 1)) ∧
    (w'.cell? ⟨w.heap.size, 0, none⟩ = some (.int .i64 11) ∧ w'.cell? ⟨w.heap.size, 1, none⟩ = some (.int .i64 0) ∧ w'.cell? ⟨w.heap.size, 2, none⟩ = some (.slice (some ⟨g, 0, none⟩) 2 c)) ∧
    (w'.cell? ⟨g, 0, none⟩ = some (.int .i64 a.kk) ∧ w'.cell? ⟨g, 1, none⟩ = some (.int .i64 a.ks) ∧ w'.cell? ⟨g, 2, none⟩ = some (.slice a.kA a.kids.length a.kc)) ∧
    (w'.cell? ⟨g, 3, none⟩ = some (.int .i64 b.kk) ∧ w'.cell? ⟨g, 4, none⟩ = some (.int .i64 b.ks) ∧ w'.cell? ⟨g, 5, none⟩ = some (.slice b.kA b.kids.length b.kc))))
    (first | assumption | exact SinS.up HS0.out (up_alloc _ _) | exact HS1.out | exact HS2.out | exact HS3.out | exact SinS.up HS3.out (up_alloc _ _) | exact HS4.out | exact SinS.up HS4.out (up_alloc _ _) | exact HS5.out | exact SinS.up HS5.out (up_alloc _ _) | exact HS6.out | exact SinS.set3 _ _ _ HS6.out (by omega) (by omega) (by omega))
    (first
      | (have _t := t1; go_at_call 9; refine Calls.mono (wmake_any _ _ _ _ _) ?_; rintro e w11 ⟨rfl, hb11'⟩; have hb11 : Below (W5.drew.alloc (mtObj2 (.n1 10 w3.heap.size 1 (.n0 0 0)) b)).heap.size (W5.drew.alloc (mtObj2 (.n1 10 w3.heap.size 1 (.n0 0 0)) b)) w11 := hb11'; have HB11 := Lib.hid hb11; have HU11 := Lib.hid (up_call hb11); have HS1 := Lib.hid (HS0.out.up (up_call hb11)); clear hb11 hb11' t1)
      | (have _t := t2; go_at_call 10; refine Calls.mono (copy_out a _ (HA5.out.made HU11.out)) ?_; rintro e w12 ⟨ma, rfl, hca⟩; have HCA := Lib.hid hca; have HS2 := Lib.hid (HS1.out.up hca.2.2.2); clear hca t2)
      | (go_at_call 10; refine Calls.mono (GG3.out _ (HX5.out.made (up_trans HU11.out HCA.out.2.2.2))) ?_; rintro e w13 ⟨mx, rfl, hcx⟩; have HCX := Lib.hid hcx; have HS3 := Lib.hid (HS2.out.up hcx.2.2.2); clear hcx)
      | (have _t := t4; go_at_call 9; refine Calls.mono (wmake_any _ _ _ _ _) ?_; rintro e w14 ⟨rfl, hb14⟩; have HB14 := Lib.hid hb14; have HS4 := Lib.hid (HS3.out.up (up_call hb14)); clear hb14 t4)
      | (have _t := t5; go_at_call 9; refine Calls.mono (wmake_any _ _ _ _ _) ?_; rintro e w15 ⟨rfl, hb15⟩; have HB15 := Lib.hid hb15; have HS5 := Lib.hid (HS4.out.up (up_call hb15)); clear hb15 t5)
      | (go_at_call 9; refine Calls.mono (wmake_any _ _ _ _ _) ?_; rintro e w16 ⟨rfl, hb16⟩; have HB16 := Lib.hid hb16; have HS6 := Lib.hid (HS5.out.up (up_call hb16)); obtain ⟨⟨y0, y1, y2⟩, z0, z1, z2, zl⟩ := res_at (HH5.out.made (up_trans (up_trans (up_trans (up_trans HU11.out HCA.out.2.2.2) HCX.out.2.2.2) (up_trans (up_call HB14.out) (up_call HB15.out))) (up_call hb16))).res; clear hb16))
  all_goals
    clear hS0
    go_wp2_with fail
    have hx := HX.out
    obtain ⟨_, _, _, hax, hbx⟩ := id hx
    have hh5 := HH5.out
    have hs5 : w.heap.size + 2 ≤ W5.drew.heap.size := lt_blk hh5.res
    obtain ⟨a1, a2, a3, a4⟩ := HCA.out
    obtain ⟨x1, x2, x3, x4⟩ := HCX.out
    have u11 := HU11.out
    have u14 := up_call HB14.out
    have u15 := up_call HB15.out
    have u16 := up_call HB16.out
    have s11 := u11.size
    have s12 := a4.size
    have s13 := x4.size
    have s14 := u14.size
    have s15 := u15.size
    have s3 : w.heap.size + 2 ≤ w3.heap.size := by omega
    have m1 : (Mt.n2 4 W5.drew.heap.size 2 (.n1 10 w3.heap.size 1 (.n0 0 0)) b).has w11 := mk2_has (W := W5.drew) 4 HANY.out HBB5.out (up_next HB11.out)
    have m2 : (Mt.n1 10 w13.heap.size 1 mx).has w14 := mk1_has (W := w13) 10 x2 (up_next HB14.out)
    have m3 : (Mt.n2 4 w14.heap.size 2 ma (.n1 10 w13.heap.size 1 mx)).has w15 := mk2_has (W := w14) 4 (a2.made (up_trans x4 u14)) m2 (up_next HB15.out)
    have m4 : (Mt.n2 5 w15.heap.size 2 (.n2 4 W5.drew.heap.size 2 (.n1 10 w3.heap.size 1 (.n0 0 0)) b) (.n2 4 w14.heap.size 2 ma (.n1 10 w13.heap.size 1 mx))).has w16 :=
      mk2_has (W := w15) 5 (m1.made (up_trans a4 (up_trans x4 (up_trans u14 u15)))) m3 (up_next HB16.out)
    have ub : Below w.heap.size w w16 := hh5.below.trans ((up_trans u11 (up_trans a4 (up_trans x4 (up_trans u14 (up_trans u15 u16))))).mono (by omega))
    refine bodyPost_ret (v := .tuple #[(Mt.n2 5 w15.heap.size 2 (.n2 4 W5.drew.heap.size 2 (.n1 10 w3.heap.size 1 (.n0 0 0)) b) (.n2 4 w14.heap.size 2 ma (.n1 10 w13.heap.size 1 mx))).val, .bool true]) (by simp [results, Try.results7, go_sem, y0, y1, y2]; rfl) rfl (by_out HR.out hx m4 (by simp only [Mt.w, a1, x1]) ub ?_)
    intro q hq
    simp only [Mt.blks, List.mem_cons, List.mem_append, List.not_mem_nil, or_false, false_or] at hq
    rcases hq with rfl | (rfl | rfl | hq) | rfl | hq | rfl | hq
    · exact .inr (by omega)
    · exact .inr hs5
    · exact .inr s3
    · exact .inl (by simp [Mt.blks, hq])
    · exact .inr (by omega)
    · exact .inr (by have := a3 q hq; omega)
    · exact .inr (by omega)
    · exact .inr (by have := x3 q hq; omega)
/-- the rule of PastWritten, as a function value -/
theorem past_by_ok {mm : Int} (how : Int) (ph : Addr) (w0 : World) (hc : w0.cell? ph = some (.int .i64 how)) (h0 : -9223372036854775808 ≤ how) (h1 : how ≤ 9223372036854775807) : ByOk pastK mm w0 7 #[.pointer (some ph)] (pastRule how) := by
  intro m w hb hm hok hsz
  have hcw : w.cell? ph = some (.int .i64 how) := (hb.cell (lt_of_cell hc)).trans hc
  have hp := pick_range (x := how) (n := 5) (by omega)
  show Calls _ _ #[m.val, .pointer (some ph)] w (ByOut (pastRule how) m w0 w)
  by_cases h3 : pick how 5 = 3
  · exact past_by3 how ph w0 w m hm hcw h0 h1 h3
  · by_cases h4 : pick how 5 = 4
    · exact past_by4 how ph w0 w m hm hcw h0 h1 h4
    · by_cases h2 : pick how 5 = 2
      · exact past_by2 how ph w0 w m hm hcw h0 h1 (.inl h2)
      · have h01 : pick how 5 = 0 ∨ pick how 5 = 1 := by omega
        by_cases hk : m.kk = 11
        · cases m with
          | n0 k s =>
            obtain rfl : k = 11 := hk
            exact absurd hok.2.1 (by decide)
          | n1 k g c x =>
            obtain rfl : k = 11 := hk
            exact absurd hok.2.1 (by decide)
          | n2 k g c x y =>
            obtain rfl : k = 11 := hk
            exact past_by0 how ph w0 w g c x y hm hcw h0 h1 h01
        · exact past_by2 how ph w0 w m hm hcw h0 h1 (.inr ⟨h01, hk⟩)
end Go.Proofs.Ytccknopchddicaa
