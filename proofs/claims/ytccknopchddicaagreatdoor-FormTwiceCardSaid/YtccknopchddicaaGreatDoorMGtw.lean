/- contract: the rule of FormTwice. -/
import Derived.Test.YtccknopchddicaaGreatDoorMGa
import Derived.Test.YtccknopchddicaaGreatDoorMGl
set_option linter.unusedSimpArgs false
set_option linter.unusedVariables false
set_option linter.unnecessarySimpa false
namespace Go.Proofs.YtccknopchddicaaGreatDoor
open Go.RowKit Stile
set_option maxRecDepth 100000 in
set_option maxHeartbeats 1600000 in
theorem tw_no (ahead : Bool) (pa : Addr) (w0 w : World) (x : Mt) (hx : x.has w) (h8 : x.kk ≠ 8) (h9 : x.kk ≠ 9) (hr : twRule ahead x.w = none) :
    Calls Tryz.prog 33 #[.agg #[.int .i64 x.kk, .int .i64 x.ks, .slice x.kA x.kids.length x.kc], .pointer (some pa)] w (ByOut (twRule ahead) x w0 w) := by
  have e8 : (x.kk == 8) = false := beq_eq_false_iff_ne.2 h8
  have e9 : (x.kk == 9) = false := beq_eq_false_iff_ne.2 h9
  have HX := Lib.hid hx
  have HR := Lib.hid hr
  clear hx hr
  go_enter Tryz.func33, Tryz.ntmps33
  go_wp2_with fail
  refine bodyPost_ret (v := .tuple #[x.val, .bool false]) (by simp [results, Tryz.results33, go_sem]; rfl) rfl ⟨((Below.refl _ _).alloc (Nat.le_refl _) _).alloc (by simp) _, x, by rw [HR.out]; rfl, fun u hu => by rw [HR.out] at hu; cases hu⟩
def TwS (X g : Nat) (k : Int) (c : Nat) (a : Mt) (w' : World) : Prop := (w'.cell? ⟨X, 0, none⟩ = some (.int .i64 k) ∧ w'.cell? ⟨X, 1, none⟩ = some (.int .i64 0) ∧ w'.cell? ⟨X, 2, none⟩ = some (.slice (some ⟨g, 0, none⟩) 2 c)) ∧ (w'.cell? ⟨g, 0, none⟩ = some (.int .i64 a.kk) ∧ w'.cell? ⟨g, 1, none⟩ = some (.int .i64 a.ks) ∧ w'.cell? ⟨g, 2, none⟩ = some (.slice a.kA a.kids.length a.kc))
theorem TwS.up {X g : Nat} {k : Int} {c : Nat} {a : Mt} {w1 w2 : World} (h : TwS X g k c a w1) (hb : Below w1.heap.size w1 w2) : TwS X g k c a w2 :=
  ⟨⟨cell_up h.1.1 hb, cell_up h.1.2.1 hb, cell_up h.1.2.2 hb⟩, cell_up h.2.1 hb, cell_up h.2.2.1 hb, cell_up h.2.2.2 hb⟩
theorem TwS.set3 {X g b : Nat} {k : Int} {c : Nat} {a : Mt} {W : World} (u0 u1 u2 : Value) (h : TwS X g k c a W) (h1 : X ≠ b) (h2 : g ≠ b) : TwS X g k c a (((W.setCell ⟨b, 0, none⟩ u0).setCell ⟨b, 1, none⟩ u1).setCell ⟨b, 2, none⟩ u2) :=
  ⟨⟨cell_set3 h.1.1 h1, cell_set3 h.1.2.1 h1, cell_set3 h.1.2.2 h1⟩, cell_set3 h.2.1 h2, cell_set3 h.2.2.1 h2, cell_set3 h.2.2.2 h2⟩
end Go.Proofs.YtccknopchddicaaGreatDoor
/- contract: the rule of FormTwice, the later part twice. -/
namespace Go.Proofs.YtccknopchddicaaGreatDoor
open Go.RowKit Stile
set_option maxRecDepth 100000 in
set_option maxHeartbeats 1600000 in
theorem tw_later (ahead : Bool) (pa : Addr) (w0 w : World) (k : Int) (g c : Nat) (a b : Mt) (hx : (Mt.n2 k g c a b).has w) (hc : w.cell? pa = some (.bool ahead)) (hk : (k = 8 ∧ ahead = false) ∨ k = 9) :
    Calls Tryz.prog 33 #[.agg #[.int .i64 k, .int .i64 0, .slice (some ⟨g, 0, none⟩) 2 c], .pointer (some pa)] w (ByOut (twRule ahead) (.n2 k g c a b) w0 w) := by
  have hr : twRule ahead (Mt.n2 k g c a b).w = some (.n2 k a.w (.n2 k a.w b.w)) := by
    rcases hk with ⟨rfl, rfl⟩ | rfl <;> rfl
  have hcl := lt_of_cell hc
  have HX := Lib.hid hx
  have HR := Lib.hid hr
  have hkk : ((k == 8) = true ∧ ahead = false) ∨ ((k == 8) = false ∧ (k == 9) = true) := by rcases hk with ⟨rfl, h⟩ | rfl; exact .inl ⟨rfl, h⟩; exact .inr ⟨rfl, rfl⟩
  clear hx hr
  go_enter Tryz.func33, Tryz.ntmps33
  clear hk
  rcases hkk with ⟨e8, rfl⟩ | ⟨e8, e9⟩
  all_goals
    go_upto_region 4 with fail
    have hh := by_head w (.n2 k g c a b)
    rw [show (Mt.n2 k g c a b).kk = k from rfl, show (Mt.n2 k g c a b).ks = 0 from rfl, show (Mt.n2 k g c a b).kA = some ⟨g, 0, none⟩ from rfl, show (Mt.n2 k g c a b).kids.length = 2 from rfl, show (Mt.n2 k g c a b).kc = c from rfl] at hh
    obtain ⟨W2, hW2⟩ : ∃ W2, (w.alloc (Obj.cells #[.int .i64 k, .int .i64 0, .slice (some ⟨g, 0, none⟩) 2 c] 29)).alloc (Obj.cells #[.int .i64 0, .int .i64 0, .slice none 0 0] 29) = W2 := ⟨_, rfl⟩
    rw [hW2] at hh ⊢
    clear hW2
    have hH0 : ByHead w W2.drew (.n2 k g c a b) := hh.made (Below.refl _ _).drew
    have hX0 : (Mt.n2 k g c a b).has W2.drew := HX.out.below hH0.below (fun g hg => HX.out.lt g hg)
    obtain ⟨hc2, hka, hkb, hah, hbh⟩ := hX0
    have hgl : g < w.heap.size := HX.out.lt g (by simp [Mt.blks])
    have hS0 : TwS w.heap.size g k c a W2.drew := ⟨box_at hH0.box, kid_at hka⟩
    unfold TwS at hS0
    have HH0 := Lib.hid hH0
    have HA := Lib.hid hah
    have HB := Lib.hid hbh
    clear hh hH0 hka hkb hah hbh
    go_region_held3 (fun w' => ((w'.cell? ⟨w.heap.size, 0, none⟩ = some (.int .i64 k) ∧ w'.cell? ⟨w.heap.size, 1, none⟩ = some (.int .i64 0) ∧ w'.cell? ⟨w.heap.size, 2, none⟩ = some (.slice (some ⟨g, 0, none⟩) 2 c)) ∧ (w'.cell? ⟨g, 0, none⟩ = some (.int .i64 a.kk) ∧ w'.cell? ⟨g, 1, none⟩ = some (.int .i64 a.ks) ∧ w'.cell? ⟨g, 2, none⟩ = some (.slice a.kA a.kids.length a.kc)))) (first | assumption | exact hS0 | exact hS9 | exact hS9a | exact hS10 | exact TwS.set3 _ _ _ hS10 (by omega) (by omega))
      (first
        | (go_at_call 17; refine Calls.mono (copy_out a _ HA.out) ?_; rintro e w9 ⟨m9, rfl, hc9⟩; have hS9 := TwS.up hS0 hc9.2.2.2; have hS9a := hS9.up (up_alloc w9 (mtObj2 m9 (.n2 k g c a b))); have HC9 := Lib.hid hc9; clear hc9)
        | (go_at_call 16; refine Calls.mono (wmake_any _ _ _ _ _) ?_; rintro e w10 ⟨rfl, hb10⟩; have hS10 := hS9a.up hb10; obtain ⟨⟨y0, y1, y2⟩, z0, z1, z2, zl⟩ := res_at ((HH0.out.made HC9.out.2.2.2).made (up_alloc w9 (mtObj2 m9 (.n2 k g c a b))) |>.made hb10).res; have HB10 := Lib.hid hb10; clear hb10))
    clear hS9 hS9a hS10 hS0
    go_wp2_with fail
    obtain ⟨hb10, hc9, hh0⟩ : _ ∧ _ ∧ _ := ⟨HB10.out, HC9.out, HH0.out⟩
    obtain ⟨e1, e2, e3, e4⟩ := hc9
    have hs2 : w.heap.size + 2 ≤ W2.drew.heap.size := lt_blk hh0.res
    have hs9 := e4.size
    have hw9 := hh0.below.trans (e4.mono hh0.below.size)
    have hx9 : (Mt.n2 k g c a b).has w9 := HX.out.below hw9 (fun g hg => HX.out.lt g hg)
    refine bodyPost_ret (v := .tuple #[(Mt.n2 k w9.heap.size 2 m9 (.n2 k g c a b)).val, .bool true]) (by simp [results, Tryz.results33, go_sem, y0, y1, y2]; rfl) rfl (by_out HR.out HX.out (mk2_has (W := w9) k e2 hx9 (by have h := hb10; simp only [World.size_alloc] at h; exact h)) (by simp [Mt.w, e1]) ?_ ?_)
    · exact (hw9.trans ((up_alloc w9 _).mono hw9.size)).trans (hb10.mono (by simp; omega))
    · intro g' hg
      simp [Mt.blks] at hg
      rcases hg with rfl | hg | hg
      · exact .inr (by omega)
      · exact .inr (by have := e3 g' hg; omega)
      · exact .inl (by simp [Mt.blks]; exact hg)
end Go.Proofs.YtccknopchddicaaGreatDoor
/- contract: the rule of FormTwice, the part ahead twice. -/
namespace Go.Proofs.YtccknopchddicaaGreatDoor
open Go.RowKit Stile
def TwT (X g : Nat) (c : Nat) (a : Mt) (w' : World) : Prop := (w'.cell? ⟨X, 0, none⟩ = some (.int .i64 8) ∧ w'.cell? ⟨X, 1, none⟩ = some (.int .i64 0) ∧ w'.cell? ⟨X, 2, none⟩ = some (.slice (some ⟨g, 0, none⟩) 2 c)) ∧ (w'.cell? ⟨g, 3, none⟩ = some (.int .i64 a.kk) ∧ w'.cell? ⟨g, 4, none⟩ = some (.int .i64 a.ks) ∧ w'.cell? ⟨g, 5, none⟩ = some (.slice a.kA a.kids.length a.kc))
theorem TwT.up {X g : Nat} {c : Nat} {a : Mt} {w1 w2 : World} (h : TwT X g c a w1) (hb : Below w1.heap.size w1 w2) : TwT X g c a w2 :=
  ⟨⟨cell_up h.1.1 hb, cell_up h.1.2.1 hb, cell_up h.1.2.2 hb⟩, cell_up h.2.1 hb, cell_up h.2.2.1 hb, cell_up h.2.2.2 hb⟩
theorem TwT.set3 {X g b : Nat} {c : Nat} {a : Mt} {W : World} (u0 u1 u2 : Value) (h : TwT X g c a W) (h1 : X ≠ b) (h2 : g ≠ b) : TwT X g c a (((W.setCell ⟨b, 0, none⟩ u0).setCell ⟨b, 1, none⟩ u1).setCell ⟨b, 2, none⟩ u2) :=
  ⟨⟨cell_set3 h.1.1 h1, cell_set3 h.1.2.1 h1, cell_set3 h.1.2.2 h1⟩, cell_set3 h.2.1 h2, cell_set3 h.2.2.1 h2, cell_set3 h.2.2.2 h2⟩
set_option maxRecDepth 100000 in
set_option maxHeartbeats 1600000 in
theorem tw_ahead (pa : Addr) (w0 w : World) (g c : Nat) (a b : Mt) (hx : (Mt.n2 8 g c a b).has w) (hc : w.cell? pa = some (.bool true)) :
    Calls Tryz.prog 33 #[.agg #[.int .i64 8, .int .i64 0, .slice (some ⟨g, 0, none⟩) 2 c], .pointer (some pa)] w (ByOut (twRule true) (.n2 8 g c a b) w0 w) := by
  have hr : twRule true (Mt.n2 8 g c a b).w = some (.n2 8 (.n2 8 a.w b.w) b.w) := rfl
  have hcl := lt_of_cell hc
  have HX := Lib.hid hx
  have HR := Lib.hid hr
  clear hx hr
  go_enter Tryz.func33, Tryz.ntmps33
  go_upto_region 2 with fail
  have hh := by_head w (.n2 8 g c a b)
  rw [show (Mt.n2 8 g c a b).kk = 8 from rfl, show (Mt.n2 8 g c a b).ks = 0 from rfl, show (Mt.n2 8 g c a b).kA = some ⟨g, 0, none⟩ from rfl, show (Mt.n2 8 g c a b).kids.length = 2 from rfl, show (Mt.n2 8 g c a b).kc = c from rfl] at hh
  obtain ⟨W2, hW2⟩ : ∃ W2, (w.alloc (Obj.cells #[.int .i64 8, .int .i64 0, .slice (some ⟨g, 0, none⟩) 2 c] 29)).alloc (Obj.cells #[.int .i64 0, .int .i64 0, .slice none 0 0] 29) = W2 := ⟨_, rfl⟩
  rw [hW2] at hh ⊢
  clear hW2
  have hH0 : ByHead w W2.drew (.n2 8 g c a b) := hh.made (Below.refl _ _).drew
  have hX0 : (Mt.n2 8 g c a b).has W2.drew := HX.out.below hH0.below (fun g hg => HX.out.lt g hg)
  obtain ⟨hc2, hka, hkb, hah, hbh⟩ := hX0
  have hgl : g < w.heap.size := HX.out.lt g (by simp [Mt.blks])
  have hS0 : TwT w.heap.size g c b W2.drew := ⟨box_at hH0.box, kid_at hkb⟩
  unfold TwT at hS0
  have HH0 := Lib.hid hH0
  have HA := Lib.hid hah
  have HB := Lib.hid hbh
  clear hh hH0 hka hkb hah hbh
  go_region_held3 (fun w' => ((w'.cell? ⟨w.heap.size, 0, none⟩ = some (.int .i64 8) ∧ w'.cell? ⟨w.heap.size, 1, none⟩ = some (.int .i64 0) ∧ w'.cell? ⟨w.heap.size, 2, none⟩ = some (.slice (some ⟨g, 0, none⟩) 2 c)) ∧ (w'.cell? ⟨g, 3, none⟩ = some (.int .i64 b.kk) ∧ w'.cell? ⟨g, 4, none⟩ = some (.int .i64 b.ks) ∧ w'.cell? ⟨g, 5, none⟩ = some (.slice b.kA b.kids.length b.kc)))) (first | assumption | exact hS0 | exact hS9 | exact hS9a | exact hS10 | exact TwT.set3 _ _ _ hS10 (by omega) (by omega))
    (first
      | (go_at_call 17; refine Calls.mono (copy_out b _ HB.out) ?_; rintro e w9 ⟨m9, rfl, hc9⟩; have hS9 := TwT.up hS0 hc9.2.2.2; have hS9a := hS9.up (up_alloc w9 (mtObj2 (.n2 8 g c a b) m9)); have HC9 := Lib.hid hc9; clear hc9)
      | (go_at_call 16; refine Calls.mono (wmake_any _ _ _ _ _) ?_; rintro e w10 ⟨rfl, hb10⟩; have hS10 := hS9a.up hb10; obtain ⟨⟨y0, y1, y2⟩, z0, z1, z2, zl⟩ := res_at ((HH0.out.made HC9.out.2.2.2).made (up_alloc w9 (mtObj2 (.n2 8 g c a b) m9)) |>.made hb10).res; have HB10 := Lib.hid hb10; clear hb10))
  clear hS9 hS9a hS10 hS0
  go_wp2_with fail
  obtain ⟨hb10, hc9, hh0⟩ : _ ∧ _ ∧ _ := ⟨HB10.out, HC9.out, HH0.out⟩
  obtain ⟨e1, e2, e3, e4⟩ := hc9
  have hs2 : w.heap.size + 2 ≤ W2.drew.heap.size := lt_blk hh0.res
  have hs9 := e4.size
  have hw9 := hh0.below.trans (e4.mono hh0.below.size)
  have hx9 : (Mt.n2 8 g c a b).has w9 := HX.out.below hw9 (fun g hg => HX.out.lt g hg)
  refine bodyPost_ret (v := .tuple #[(Mt.n2 8 w9.heap.size 2 (.n2 8 g c a b) m9).val, .bool true]) (by simp [results, Tryz.results33, go_sem, y0, y1, y2]; rfl) rfl (by_out HR.out HX.out (mk2_has (W := w9) 8 hx9 e2 (by have h := hb10; simp only [World.size_alloc] at h; exact h)) (by simp [Mt.w, e1]) ?_ ?_)
  · exact (hw9.trans ((up_alloc w9 _).mono hw9.size)).trans (hb10.mono (by simp; omega))
  · intro g' hg
    simp [Mt.blks] at hg
    rcases hg with rfl | hg | hg | hg | hg
    · exact .inr (by omega)
    · exact .inl (by simp [Mt.blks]; exact .inl hg)
    · exact .inl (by simp [Mt.blks]; exact .inr (.inl hg))
    · exact .inl (by simp [Mt.blks]; exact .inr (.inr hg))
    · exact .inr (by have := e3 g' hg; omega)
end Go.Proofs.YtccknopchddicaaGreatDoor
/- contract: the rule of FormTwice, whole. -/
namespace Go.Proofs.YtccknopchddicaaGreatDoor
open Go.RowKit Stile
theorem tw_by_ok {mm : Int} (ahead : Bool) (pa : Addr) (w0 : World) (hc : w0.cell? pa = some (.bool ahead)) : ByOk futK mm w0 33 #[.pointer (some pa)] (twRule ahead) := by
  intro m w hb hm hok hsz
  have hcw : w.cell? pa = some (.bool ahead) := (hb.cell (lt_of_cell hc)).trans hc
  show Calls _ _ #[m.val, .pointer (some pa)] w (ByOut (twRule ahead) m w0 w)
  cases m with
  | n0 k s =>
    have h := hok.2.1
    exact tw_no ahead pa w0 w (.n0 k s) hm (by intro e; have e : k = 8 := e; subst e; exact absurd h (by decide)) (by intro e; have e : k = 9 := e; subst e; exact absurd h (by decide)) rfl
  | n1 k g c x =>
    have h := hok.2.1
    exact tw_no ahead pa w0 w (.n1 k g c x) hm (by intro e; have e : k = 8 := e; subst e; exact absurd h (by decide)) (by intro e; have e : k = 9 := e; subst e; exact absurd h (by decide)) rfl
  | n2 k g c x y =>
    by_cases h8 : k = 8
    · subst h8
      cases ahead
      · exact tw_later false pa w0 w 8 g c x y hm hcw (.inl ⟨rfl, rfl⟩)
      · exact tw_ahead pa w0 w g c x y hm hcw
    · by_cases h9 : k = 9
      · subst h9
        exact tw_later ahead pa w0 w 9 g c x y hm hcw (.inr rfl)
      · refine tw_no ahead pa w0 w (.n2 k g c x y) hm h8 h9 ?_
        show (if k = 8 ∧ ahead = true then _ else if k = 8 ∨ k = 9 then _ else none) = none
        rw [if_neg (by intro h; exact h8 h.1), if_neg (by intro h; rcases h with h | h; exact h8 h; exact h9 h)]
end Go.Proofs.YtccknopchddicaaGreatDoor
/- contract: the change of FormTwice. -/
namespace Go.Proofs.YtccknopchddicaaGreatDoor
open Go.RowKit Stile
set_option maxRecDepth 100000 in
set_option maxHeartbeats 800000 in
theorem tw_change {mm : Int} (ahead : Bool) (which : Int) (fv : Value) (f : List Nd) (pf pw pa : Addr) (w : World) (hf : RdN w w.heap.size fv f) (hok : okF futK mm f) (hn0 : 0 < f.length) (hn : f.length ≤ 40) (hw0 : -9223372036854775808 ≤ which) (hw1 : which ≤ 9223372036854775807)
    (h1 : w.cell? pf = some fv) (h2 : w.cell? pw = some (.int .i64 which)) (h3 : w.cell? pa = some (.bool ahead)) :
    Calls Tryz.prog 32 #[.pointer (some pf), .pointer (some pw), .pointer (some pa)] w (SwapOut (swapR f which (twRule ahead)) w) := by
  have hmf : ∀ (fn : Fn) (first cap : Array Value) (w : World), (Instr.makeFunc fn first cap).run Tryz.prog w = .ok (.func fn first cap) w := fun _ _ _ _ => rfl
  have hs := swap_any futK_any f fv which 33 #[.pointer (some pa)] (twRule ahead) w hf hok hn0 hn hw0 hw1 (fun _ _ => rfl) (tw_by_ok ahead pa w h3) (tw_size ahead)
  obtain ⟨fA, fc, rfl, _, _⟩ := id hf
  have l1 := lt_of_cell h1
  have l2 := lt_of_cell h2
  have HS := Lib.hid hs
  clear hs hf hok
  go_enter Tryz.func32, Tryz.ntmps32
  go_wp2_with fail
  refine HS.out.mono ?_
  rintro e w2 ⟨hb, gv, b, rfl, hx, hy⟩
  have HB := Lib.hid hb
  have HX := Lib.hid hx
  have HY := Lib.hid hy
  clear hb hx hy
  go_wp2_with fail
  go_ret2
  exact ⟨HB.out, _, _, rfl, HX.out, HY.out⟩
end Go.Proofs.YtccknopchddicaaGreatDoor
/- contract: FormTwice answers true. -/
namespace Go.Proofs.YtccknopchddicaaGreatDoor
open Go.RowKit Stile
set_option maxRecDepth 100000 in
set_option maxHeartbeats 800000 in
theorem form_twice (L which : Int) (ahead : Bool) (fv lv : Value) (f : List Nd) (l : List Int) (w : World) (hf : RdN w w.heap.size fv f) (hl : RdI w w.heap.size lv l) (hg : ErrVar w) (hw0 : -9223372036854775808 ≤ which) (hw1 : which ≤ 9223372036854775807) :
    Calls Tryz.prog 9 #[.int .i64 L, fv, lv, .int .i64 which, .bool ahead] w (TrueB w) := by
  have hmf : ∀ (fn : Fn) (first cap : Array Value) (w : World), (Instr.makeFunc fn first cap).run Tryz.prog w = .ok (.func fn first cap) w := fun _ _ _ _ => rfl
  obtain ⟨fA, fc, rfl, _, _⟩ := id hf
  have H : ∀ W, Below w.heap.size w W → W.cell? ⟨w.heap.size, 0, none⟩ = some (.slice fA f.length fc) → W.cell? ⟨w.heap.size + 1, 0, none⟩ = some (.int .i64 which) → W.cell? ⟨w.heap.size + 2, 0, none⟩ = some (.bool ahead) →
      Calls Tryz.prog 12 #[.int .i64 L, .slice fA f.length fc, lv, .func (.func 32) #[] #[.pointer (some ⟨w.heap.size, 0, none⟩), .pointer (some ⟨w.heap.size + 1, 0, none⟩), .pointer (some ⟨w.heap.size + 2, 0, none⟩)]] W (TrueB W) := fun W hb c0 c1 c2 => by
    have hfW := Rd.mono (Rd.below hf hb) hb.size
    have hlW := Rd.mono (Rd.below hl hb) hb.size
    by_cases hbad : checkP L (setsOf L) f ≠ 0 ∨ wcheckP L l ≠ 0
    · exact wform_bad L _ lv f l W _ _ hfW hlW hbad
    · have hc : checkP L (setsOf L) f = 0 := by omega
      have hw : wcheckP L l = 0 := by omega
      obtain ⟨hL, hn0, hn, hok⟩ := checkP_ok.1 hc
      obtain ⟨n, rfl⟩ := Int.eq_ofNat_of_zero_le (show 0 ≤ L by omega)
      refine wform_ok n _ lv f l W _ _ (swapR f which (twRule ahead)) hfW hlW (ErrVar.below hg hb) hc hw (fun _ _ => rfl) (fun W2 hb2 => ?_) (fun u hu => ?_)
      · exact tw_change ahead which _ f _ _ _ W2 (Rd.mono (Rd.below hfW hb2) hb2.size) hok hn0 hn hw0 hw1 ((hb2.cell (lt_of_cell c0)).trans c0) ((hb2.cell (lt_of_cell c1)).trans c1) ((hb2.cell (lt_of_cell c2)).trans c2)
      · obtain ⟨a1, a2⟩ := swapR_spec (D := fun _ => True) futK_any hok hn0 (fun t u h1 h2 => tw_spec ahead t u h1 h2) hu
        refine ⟨a1, fun x _ => ?_⟩
        rw [holds_eq _ f (fun i hi => ⟨futK_any _ (hok i hi).1, (hok i hi).2⟩) (by intro e; rw [e] at hn0; simp at hn0)]
        exact a2 x (fun _ _ => trivial)
  have HH := Lib.hid H
  obtain ⟨lA, lc, rfl, _, _⟩ := id hl
  clear H hf hl hg
  go_enter Tryz.func9, Tryz.ntmps9
  go_wp2_with fail
  obtain ⟨t0, t1, t2⟩ := three_new w (Obj.cells #[.slice fA f.length fc] 22) (Obj.cells #[.int .i64 which] 3) (Obj.cells #[.bool ahead] 4)
  have hb : Below w.heap.size w (((w.alloc (Obj.cells #[.slice fA f.length fc] 22)).alloc (Obj.cells #[.int .i64 which] 3)).alloc (Obj.cells #[.bool ahead] 4)) := (((Below.refl _ _).alloc (Nat.le_refl _) _).alloc (by simp) _).alloc (by simp; omega) _
  refine (HH.out _ hb (by rw [fld_cell t0]; rfl) (by rw [fld_cell t1]; rfl) (by rw [fld_cell t2]; rfl)).mono ?_
  rintro e w2 ⟨rfl, hb2⟩
  have HB := Lib.hid (hb.trans (hb2.mono hb.size))
  clear hb hb2 t0 t1 t2
  go_wp2_with fail
  go_ret
  exact ⟨rfl, HB.out⟩
end Go.Proofs.YtccknopchddicaaGreatDoor
