/- contract: the map of the other kinds, in memory. -/
import Derived.Test.YtccknopchddicaaGreatDoorMGc
import Derived.Test.YtccknopchddicaaGreatDoorMGx
import Derived.Deep.AppendLies
set_option linter.unusedSimpArgs false
set_option linter.unusedVariables false
set_option linter.unnecessarySimpa false
namespace Go.Proofs.YtccknopchddicaaGreatDoor
open Go.RowKit Stile
theorem law_int : Maps.Keyed Tryz.prog 3 := Maps.int_keyed Tryz.underlying3
/-- block mb is the map of the other kinds -/
def OthAt (mb : Nat) (W : World) : Prop := ∃ D : DataW Unit, W.ownsMap Tryz.prog 3 (plainElem Tryz.prog 3) mb 6 D ∧ ∀ k : Int, D.atKey (.int .i64 k) (.lit (.int .i64 0)) = .lit (.int .i64 (othK k))
theorem OthAt.lt {mb : Nat} {W : World} (h : OthAt mb W) : mb < W.heap.size := by
  obtain ⟨D, ho, _⟩ := h
  exact ho.lt
theorem OthAt.below {mb B : Nat} {W W' : World} (h : OthAt mb W) (hb : Below B W W') (hB : mb < B) : OthAt mb W' := by
  obtain ⟨D, ⟨es, clock, e1, e2, e3, e4⟩, hD⟩ := h
  exact ⟨D, ⟨es, clock, (hb.block mb hB).trans e1, e2, e3, e4⟩, hD⟩
theorem OthAt.look {mb : Nat} {W : World} (h : OthAt mb W) (k : Int) (hk0 : 0 ≤ k) (hk9 : k ≤ 9) : (Instr.lookup 36 (.map (some mb)) (.int .i64 k) false).run Tryz.prog W = .ok (.int .i64 (othK k)) W := by
  obtain ⟨D, ho, hD⟩ := h
  obtain ⟨c, h1, h2, _⟩ := ho.lookup_int law_int Tryz.underlying36 Tryz.underlying3 (zero_int W) (Maps.keyOf_int_mk (P := Tryz.prog) Tryz.underlying3 (a := k) (q := .i64) (WalkArith.wf_i64 (by omega)))
  rw [hD k] at h2
  have e : othK k = c := by
    generalize othK k = j at h2
    cases h2
    rfl
  rw [h1, e]
theorem othD (k : Int) : ((((((((DataW.map [] : DataW Unit).put (.int .i64 4) (.lit (.int .i64 5))).put (.int .i64 5) (.lit (.int .i64 4))).put (.int .i64 6) (.lit (.int .i64 7))).put (.int .i64 7) (.lit (.int .i64 6))).put (.int .i64 8) (.lit (.int .i64 9))).put (.int .i64 9) (.lit (.int .i64 8))).atKey (.int .i64 k) (.lit (.int .i64 0))) = .lit (.int .i64 (othK k)) := by
  have hk : ∀ j : Int, 0 ≤ j → j ≤ 9 → WideAt.IsKeyLit (.int .i64 j) := fun j _ _ => by simp [WideAt.IsKeyLit]
  have ne : ∀ i j : Int, i ≠ j → Lit.int .i64 i ≠ Lit.int .i64 j := fun i j h e => by injection e with _ e; exact h e
  have m0 : Maps.IsMap (DataW.map [] : DataW Unit) := ⟨[], rfl⟩
  have m1 := m0.put (.int .i64 4) (.lit (.int .i64 5))
  have m2 := m1.put (.int .i64 5) (.lit (.int .i64 4))
  have m3 := m2.put (.int .i64 6) (.lit (.int .i64 7))
  have m4 := m3.put (.int .i64 7) (.lit (.int .i64 6))
  have m5 := m4.put (.int .i64 8) (.lit (.int .i64 9))
  unfold othK
  by_cases h9 : k = 9
  · subst h9; rw [Maps.atKey_put_same m5 (hk 9 (by omega) (by omega))]; rfl
  rw [Maps.atKey_put_other (ne k 9 h9)]
  by_cases h8 : k = 8
  · subst h8; rw [Maps.atKey_put_same m4 (hk 8 (by omega) (by omega))]; rfl
  rw [Maps.atKey_put_other (ne k 8 h8)]
  by_cases h7 : k = 7
  · subst h7; rw [Maps.atKey_put_same m3 (hk 7 (by omega) (by omega))]; rfl
  rw [Maps.atKey_put_other (ne k 7 h7)]
  by_cases h6 : k = 6
  · subst h6; rw [Maps.atKey_put_same m2 (hk 6 (by omega) (by omega))]; rfl
  rw [Maps.atKey_put_other (ne k 6 h6)]
  by_cases h5 : k = 5
  · subst h5; rw [Maps.atKey_put_same m1 (hk 5 (by omega) (by omega))]; rfl
  rw [Maps.atKey_put_other (ne k 5 h5)]
  by_cases h4 : k = 4
  · subst h4; rw [Maps.atKey_put_same m0 (hk 4 (by omega) (by omega))]; rfl
  rw [Maps.atKey_put_other (ne k 4 h4), if_neg h4, if_neg h5, if_neg h6, if_neg h7, if_neg h8, if_neg h9]
  rfl
/-- a store into a map that is being made, at the operation -/
theorem wpList_insert_own {H : Type} {P : Program} (w : World) {ops : Array Oper} {rest : List Oper} {o : Oper} {a : Act} {Q : Exit → Act → World → Prop}
    (hg : o.guard = none) (m x v : Operand) (t : TypeId) (hop : o.op = Op.insert t m x v)
    (k e : TypeId) (K : Maps.Keyed P k) (ht : P.underlying t = some (.map k e)) (R : Value → Option (DataW H × List MemPlace)) (b n : Nat) (D : DataW H)
    (hm : a.eval m = .map (some b)) (hown : w.ownsMap P k R b n D) (hn : n < maxLen) (key val : Value) (kl : Lit) (hx : a.eval x = key) (hv : a.eval v = val) (hkey : keyOf P k key = some kl)
    (d : DataW H) (ps : List MemPlace) (hval : R val = some (d, ps))
    (hK : ∀ w', w'.ownsMap P k R b (n + 1) (D.put kl d) → w.grownBy w' (some b) → wpList P ops Q rest (a.put o.dst undef) w') :
    wpList P ops Q (o :: rest) a w := by
  refine wpList_plain hg fun K' hK' => ?_
  obtain ⟨w', hrun, r1, r2⟩ := hown.update K ht hn hkey hval
  unfold Oper.wp
  simp [execOp, hop, hm, hx, hv, hrun, Result.andThen]
  exact hK' _ _ (hK w' r1 r2)
end Go.Proofs.YtccknopchddicaaGreatDoor
/- contract: the rule of FormSides, where the kind has another. -/
namespace Go.Proofs.YtccknopchddicaaGreatDoor
open Go.RowKit Stile
/-- the parts that have been denied so far -/
structure Neg (wr : World) (B : Nat) (lv : Value) (l src : List Mt) (x : Mt) : Prop where
  w : l.map Mt.w = src.map (fun y => W.n1 3 y.w)
  has : ∀ y ∈ l, y.has wr
  blks : ∀ y ∈ l, ∀ g ∈ y.blks, (g ∈ x.blks ∨ B ≤ g) ∧ lv.ownBlock ≠ some g
  own : wr.ownsRow B 29 3 lv l.length (mtCells l)
theorem Neg.made {wr w2 : World} {B : Nat} {lv : Value} {l src : List Mt} {x : Mt} (h : Neg wr B lv l src x) (hb : Below wr.heap.size wr w2) : Neg w2 B lv l src x :=
  ⟨h.w, fun y hy => (h.has y hy).made hb, h.blks, own_below h.own hb⟩
theorem Neg.kid {wr : World} {B : Nat} {lv : Value} {l src : List Mt} {x : Mt} (h : Neg wr B lv l src x) (hl : 0 < l.length) : ∃ g c, lv = .slice (some ⟨g, 0, none⟩) l.length c ∧ l.length ≤ c ∧ B ≤ g ∧ ∀ j (hj : j < l.length), KidAt wr g j l[j].val := by
  obtain ⟨a1, a2⟩ := h.own
  rcases a2 with ⟨_, e⟩ | ⟨g, cap, cur, e, hbs, hh, hn, _, hsz, ht⟩
  · omega
  · refine ⟨g, cap, e, hn, hbs, fun j hj => ⟨_, _, _, cur, rfl, hh, ?_, ?_, ?_⟩⟩
    all_goals
      obtain ⟨q0, q1, q2⟩ := mtCells_at l j hj
      first
        | (rw [← ht, List.getElem?_take, if_pos (by omega)] at q0; simpa using q0)
        | (rw [← ht, List.getElem?_take, if_pos (by omega)] at q1; simpa using q1)
        | (rw [← ht, List.getElem?_take, if_pos (by omega)] at q2; simpa using q2)
theorem Neg.step {wr w5 w6 : World} {B g' cap' n : Nat} {lv : Value} {l src : List Mt} {m' y x : Mt} {o : Obj} (h : Neg wr B lv l src x) (hn : l.length = n) (hb : Below wr.heap.size wr w5) (hB : B ≤ wr.heap.size) (hxB : ∀ g ∈ x.blks, g < B) (hm : m'.has w5) (hmb : ∀ g ∈ m'.blks, g ∈ x.blks ∨ wr.heap.size ≤ g) (hw : m'.w = .n1 3 y.w)
    (hgrow : (w5.alloc o).grownBy w6 lv.ownBlock) (hown : w6.ownsRow B 29 3 (.slice (some ⟨g', 0, none⟩) (n + 1) cap') (n + 1) (mtCells l ++ [.int .i64 m'.kk, .int .i64 m'.ks, .slice m'.kA m'.kids.length m'.kc])) (hat : lv.ownBlock = some g' ∨ g' = w5.heap.size + 1) :
    Neg w6 B (.slice (some ⟨g', 0, none⟩) (n + 1) cap') (l ++ [m']) (src ++ [y]) x := by
  subst hn
  have hsz := hb.size
  have hal : (w5.alloc o).heap.size = w5.heap.size + 1 := by simp
  have hl5 : ∀ g, g < w5.heap.size → lv.ownBlock ≠ some g → w6.heap[g]? = w5.heap[g]? := fun g hg hne =>
    (hgrow.block g (by omega) (fun e => hne e.symm)).trans (Below.heap_alloc w5 o g hg)
  have hlv : ∀ g, lv.ownBlock = some g → g < wr.heap.size := fun g e => (h.own.lt g e).2
  have hlb : ∀ g, lv.ownBlock = some g → B ≤ g := fun g e => (h.own.lt g e).1
  have hg' : B ≤ g' := by
    rcases hat with e | e
    · exact hlb g' e
    · omega
  refine ⟨by simp [h.w, hw], ?_, ?_, ?_⟩
  · intro z hz
    rcases List.mem_append.1 hz with hz | hz
    · have h5 := (h.has z hz).made hb
      exact h5.keep fun g hg => hl5 g (h5.lt g hg) (h.blks z hz g hg).2
    · obtain rfl : z = m' := by simpa using hz
      refine hm.keep fun g hg => hl5 g (hm.lt g hg) fun e => ?_
      have := hlv g e; have := hlb g e
      rcases hmb g hg with h1 | h1
      · have := hxB g h1; omega
      · omega
  · intro z hz g hg
    have hne : ∀ g'', (g'' = g' → False) → (Value.slice (some ⟨g', 0, none⟩) (l.length + 1) cap').ownBlock ≠ some g'' := fun g'' hh e => by
      simp [Value.ownBlock] at e; exact hh e.symm
    rcases List.mem_append.1 hz with hz | hz
    · have h5 := ((h.has z hz).made hb).lt g hg
      refine ⟨(h.blks z hz g hg).1, hne g fun e => ?_⟩
      rcases hat with e2 | e2
      · exact (h.blks z hz g hg).2 (e ▸ e2)
      · omega
    · obtain rfl : z = m' := by simpa using hz
      have h5 := hm.lt g hg
      refine ⟨?_, hne g fun e => ?_⟩
      · rcases hmb g hg with h1 | h1
        · exact .inl h1
        · exact .inr (by omega)
      · subst e
        rcases hmb g hg with h1 | h1
        · have := hxB g h1; omega
        · rcases hat with e2 | e2
          · have := hlv g e2; omega
          · omega
  · rw [mtCells_append, List.length_append]; exact hown
/-- what the rule makes of the list of denied parts -/
theorem Neg.fin {wr : World} {B : Nat} {lv : Value} {l : List Mt} {x : Mt} (h : Neg wr B lv l x.kids x) (hne : othK x.kk ≠ 0) (h0 : 0 < x.kids.length) : ∃ m' : Mt, sdRule x.w = some (.n1 3 m'.w) ∧ m'.val = .agg #[.int .i64 (othK x.kk), .int .i64 0, lv] ∧ m'.has wr ∧ ∀ g ∈ m'.blks, g ∈ x.blks ∨ B ≤ g := by
  have hlen : l.length = x.kids.length := by have := congrArg List.length h.w; simpa using this
  cases x with
  | n0 k s => simp [Mt.kids] at h0
  | n1 k g c a =>
    obtain ⟨y, rfl⟩ : ∃ y, l = [y] := by
      match l, hlen with
      | [y], _ => exact ⟨y, rfl⟩
    obtain ⟨g', c', e, hc, hB, hk⟩ := h.kid (by simp)
    have hw := h.w
    simp [Mt.kids] at hw
    refine ⟨.n1 (othK k) g' c' y, ?_, by rw [e]; rfl, ⟨hc, hk 0 (by simp), h.has y (by simp)⟩, ?_⟩
    · show (if othK k = 0 then none else some (W.n1 3 (.n1 (othK k) (.n1 3 a.w)))) = _
      rw [if_neg (show othK k ≠ 0 from hne)]; simp [Mt.w, hw]
    · intro b hb
      simp [Mt.blks] at hb
      rcases hb with rfl | hb
      · exact .inr hB
      · exact (h.blks y (by simp) b hb).1
  | n2 k g c a a' =>
    obtain ⟨y, z, rfl⟩ : ∃ y z, l = [y, z] := by
      match l, hlen with
      | [y, z], _ => exact ⟨y, z, rfl⟩
    obtain ⟨g', c', e, hc, hB, hk⟩ := h.kid (by simp)
    have hw := h.w
    simp [Mt.kids] at hw
    refine ⟨.n2 (othK k) g' c' y z, ?_, by rw [e]; rfl, ⟨hc, hk 0 (by simp), hk 1 (by simp), h.has y (by simp), h.has z (by simp)⟩, ?_⟩
    · show (if othK k = 0 then none else some (W.n1 3 (.n2 (othK k) (.n1 3 a.w) (.n1 3 a'.w)))) = _
      rw [if_neg (show othK k ≠ 0 from hne)]; simp [Mt.w, hw]
    · intro b hb
      simp [Mt.blks] at hb
      rcases hb with rfl | hb | hb
      · exact .inr hB
      · exact (h.blks y (by simp) b hb).1
      · exact (h.blks z (by simp) b hb).1
theorem n1_in {W : World} {g : Nat} {k : Int} {x : Mt} (h : W.heap[g]? = some (mtObj1 x)) (hx : x.has W) : (Mt.n1 k g 1 x).has W :=
  ⟨Nat.le_refl _, ⟨_, _, _, _, rfl, h, by simp, by simp, by simp⟩, hx⟩
set_option maxRecDepth 100000 in
set_option maxHeartbeats 3200000 in
theorem sd_some (po : Addr) (mb : Nat) (w0 w : World) (x : Mt) (hx : x.has w) (h0 : w0.heap.size ≤ w.heap.size) (hc : w.cell? po = some (.map (some mb))) (ho : OthAt mb w) (hk0 : 0 ≤ x.kk) (hk9 : x.kk ≤ 9) (hne : othK x.kk ≠ 0) (hkids : 0 < x.kids.length) :
    Calls Tryz.prog 20 #[.agg #[.int .i64 x.kk, .int .i64 x.ks, .slice x.kA x.kids.length x.kc], .pointer (some po)] w (ByOut sdRule x w0 w) := by
  have hcl := lt_of_cell hc
  obtain ⟨n, hn⟩ : ∃ n, x.kids.length = n := ⟨_, rfl⟩
  have hn2 : n ≤ 2 := by rw [← hn]; exact x.kids_le
  have hxlt := hx.lt
  obtain ⟨mk, hmk⟩ : ∃ k, x.kk = k := ⟨_, rfl⟩
  obtain ⟨ms, hms⟩ : ∃ k, x.ks = k := ⟨_, rfl⟩
  obtain ⟨mA, hmA⟩ : ∃ k, x.kA = k := ⟨_, rfl⟩
  obtain ⟨mc, hmc⟩ : ∃ k, x.kc = k := ⟨_, rfl⟩
  obtain ⟨ok, hok⟩ : ∃ k, othK mk = k := ⟨_, rfl⟩
  have hnc : n ≤ mc := by
    obtain ⟨_, _, _, h3, _⟩ := hx.kid (j := 0) (by omega)
    omega
  rw [hn] at hkids
  rw [hmk] at hk0 hk9
  have hokb : (ok == 0) = false := by rw [← hok, ← hmk]; exact beq_eq_false_iff_ne.2 hne
  rw [hmk, hms, hmA, hmc, hn]
  have HX := Lib.hid hx
  have HN := Lib.hid hn
  have HMK := Lib.hid hmk
  have HMS := Lib.hid hms
  have HMA := Lib.hid hmA
  have HMC := Lib.hid hmc
  have HZ := Lib.hid h0
  have HO := Lib.hid ho
  have HNE := Lib.hid hne
  have HXL := Lib.hid hxlt
  have HOK := Lib.hid hok
  clear hx hn hmk hms hmA hmc h0 ho hne hxlt hok
  obtain ⟨i0, hi0, hz0, hz1, hz2⟩ := info_parts info_w
  go_enter Tryz.func20, Tryz.ntmps20
  go_upto_region 1 with fail
  have hh : ByHead w ((w.alloc (Obj.cells #[.int .i64 x.kk, .int .i64 x.ks, .slice x.kA x.kids.length x.kc] 29)).alloc (Obj.cells #[.int .i64 0, .int .i64 0, .slice none 0 0] 29)) x := by_head w x
  rw [HMK.out, HMS.out, HMA.out, HN.out, HMC.out] at hh
  obtain ⟨W2, hW2⟩ : ∃ W2, (w.alloc (Obj.cells #[.int .i64 mk, .int .i64 ms, .slice mA n mc] 29)).alloc (Obj.cells #[.int .i64 0, .int .i64 0, .slice none 0 0] 29) = W2 := ⟨_, rfl⟩
  have hs2 : W2.heap.size = w.heap.size + 2 := by rw [← hW2]; simp
  rw [hW2] at hh ⊢
  clear hW2
  have hcw : W2.cell? po = some (.map (some mb)) := (hh.below.cell hcl).trans hc
  have hbk := box_kid hh.box
  unfold KidS at hbk
  rw [HMK.out, HMS.out, HMA.out, HN.out, HMC.out] at hbk
  obtain ⟨xf0, xf1, xf2⟩ := hbk
  have hOW : OthAt mb W2 := HO.out.below hh.below HO.out.lt
  have hlk := hOW.look mk hk0 hk9
  rw [HOK.out] at hlk
  have hmbl := HO.out.lt
  have HHD := Lib.hid hh
  have HOW := Lib.hid hOW
  have HS2 := Lib.hid hs2
  clear hh hOW hs2
  go_wp2_with fail
  clear hlk xf0 xf1 xf2 hcw
  go_loopw [5, 17] (fun lv i wr => ∃ (k : Nat) (l : List Mt), k ≤ n ∧ i = .int .i64 (k : Int) ∧ l.length = k ∧ Neg wr (w.heap.size + 2) lv l (x.kids.take k) x ∧ Below (w.heap.size + 2) W2 wr) (fun _ i _ => n - (intOf i).toNat)
  case atStart => exact ⟨0, [], by omega, rfl, rfl, ⟨by simp, by simp, by simp, World.ownsRow_nil _ _ _ _⟩, Below.refl _ _⟩
  case round =>
    obtain ⟨k, l, hk, rfl, hlen, hcop, hbr⟩ := hrel
    obtain ⟨wo, rfl⟩ : ∃ wo : World, wo = wr := ⟨_, rfl⟩
    have hwsz := hbr.size
    have hwsz2 : w.heap.size + 2 ≤ wo.heap.size := by have := HS2.out; omega
    clear hwsz
    by_cases hlt : k < n
    · have hkn : k < x.kids.length := by rw [HN.out]; exact hlt
      obtain ⟨g, hgA, hgb, hgc, hkid, hkh⟩ := HX.out.kid hkn
      have e := HMA.out.symm.trans hgA
      subst e
      have hglt := hkid.lt
      have hgk : wo.heap[g]? = w.heap[g]? := (hbr.block g (by omega)).trans (HHD.out.below.block g hglt)
      have hkid' := hkid.keep hgk
      have hyh : (x.kids[k]).has wo := (hkh.made HHD.out.below).below hbr (fun b hb => by have := hkh.lt b hb; omega)
      have hyb : ∀ b ∈ (x.kids[k]).blks, b ∈ x.blks := Mt.kid_blks (List.getElem_mem hkn)
      obtain ⟨y, hy⟩ : ∃ y, x.kids[k] = y := ⟨_, rfl⟩
      rw [hy] at hkid' hyh hyb
      obtain ⟨q0, q1, q2, hgl⟩ := hkid'.cells
      rw [Nat.mul_comm 3 k] at q0 q1 q2
      obtain ⟨lA, lc, rfl⟩ : ∃ A c, u5 = .slice A k c := by rw [← hlen]; exact own_shape hcop.own
      have HYH := Lib.hid hyh
      have HYB := Lib.hid hyb
      have HCOP := Lib.hid hcop
      have HBR := Lib.hid hbr
      have HY := Lib.hid hy
      have HLEN := Lib.hid hlen
      have hki0 : (0 : Int) ≤ (k : Int) := by omega
      have hki1 : (k : Int) < (n : Int) := by omega
      clear hkid hkid' hkh hyh hyb hcop hbr hgk hgA hgb hgc hy hlen
      go_wp2_with fail
      refine (wmake_any _ _ _ _ _).mono ?_
      rintro e w5 ⟨rfl, hp5⟩
      have hq5 : Below ((wo.alloc (mtObj1 y)).alloc (mtObj1 y)).heap.size ((wo.alloc (mtObj1 y)).alloc (mtObj1 y)) w5 := hp5
      have hb5 : Below wo.heap.size wo w5 := (up_alloc wo (mtObj1 y)).trans (((up_alloc _ _).trans (hq5.mono (by simp))).mono (by simp))
      have hk5 : w5.heap[wo.heap.size + 1]? = some (mtObj1 y) := (hq5.block _ (by simp)).trans (heap_new2 _ _ _)
      have hl5 := lt_blk hk5
      have hown := (HCOP.out.made hb5).own
      rw [HLEN.out] at hown
      have HB5 := Lib.hid hb5
      have HK5 := Lib.hid hk5
      have HOWN := Lib.hid hown
      clear hp5 hq5 hb5 hk5 hown
      go_wp2_with (at_builtin; refine wpList_append_lies _ rfl _ _ 27 rfl (w.heap.size + 2) 29 i0 _ 3 40 Tryz.underlying27 hi0 hz0 hz1 hz2 rfl (by decide) (.slice lA k lc) k _ rfl (HOWN.out.alloc _) ⟨w5.heap.size, 0, none⟩ 1 1 [.int .i64 3, .int .i64 0, .slice (some ⟨wo.heap.size + 1, 0, none⟩) 1 1] rfl rfl (cell_three_new _ _ _ _ _) (by simp [Value.oneCell']) (by decide) (by unfold maxLen; omega) (by omega) (by simp; omega) _ rfl ?_; intro g' cap' w6 hown6 hgrow6 hat6 hlt6)
      have hm' : (Mt.n1 3 (wo.heap.size + 1) 1 y).has w5 := n1_in HK5.out (HYH.out.made HB5.out)
      have hstep : Neg w6 (w.heap.size + 2) (.slice (some ⟨g', 0, none⟩) (k + 1) cap') (l ++ [Mt.n1 3 (wo.heap.size + 1) 1 y]) (x.kids.take (k + 1)) x := by
        rw [List.take_succ_eq_append_getElem hkn, HY.out]
        refine Neg.step HCOP.out HLEN.out HB5.out (by omega) (fun b hb => by have := HXL.out b hb; omega) hm' (fun b hb => ?_) rfl hgrow6 hown6 (by rcases hat6 with e | e; exact .inl e; exact .inr (by rw [e]; simp))
        simp [Mt.blks] at hb
        rcases hb with rfl | hb
        · exact .inr (by omega)
        · exact .inl (HYB.out b hb)
      have hbel : Below (w.heap.size + 2) W2 w6 := by
        have h1 := HBR.out.trans (HB5.out.mono (by omega))
        have h2 := h1.alloc (by have := HB5.out.size; omega) (Obj.cells #[.int .i64 3, .int .i64 0, .slice (some ⟨wo.heap.size + 1, 0, none⟩) 1 1] 29)
        exact h2.grown hgrow6 (by simp; omega) (fun b hb => (HOWN.out.lt b hb).1)
      have HST := Lib.hid hstep
      have HBL := Lib.hid hbel
      clear hown6 hgrow6 hat6 hstep hbel hm'
      go_roundw
      case rel => exact ⟨k + 1, l ++ [Mt.n1 3 (wo.heap.size + 1) 1 y], by omega, by go_num, by simp [HLEN.out], HST.out, HBL.out⟩
      case measure => simp [intOf]; omega
    · have hkn : k = n := by omega
      obtain ⟨lA, lc, rfl⟩ : ∃ A c, u5 = .slice A k c := by rw [← hlen]; exact own_shape hcop.own
      have hh : ByHead w wo x := ⟨HHD.out.below.trans (hbr.mono (by omega)), (hbr.block _ (by omega)).trans HHD.out.box, (hbr.block _ (by omega)).trans HHD.out.res⟩
      have hcw : wo.cell? po = some (.map (some mb)) := (hh.below.cell hcl).trans hc
      have hbk := box_kid hh.box
      unfold KidS at hbk
      rw [HMK.out, HMS.out, HMA.out, HN.out, HMC.out] at hbk
      obtain ⟨xf0, xf1, xf2⟩ := hbk
      have hlk := (HO.out.below hh.below HO.out.lt).look mk hk0 hk9
      rw [HOK.out] at hlk
      have HCOP := Lib.hid hcop
      have HH := Lib.hid hh
      have HKN := Lib.hid hkn
      have t1 : True := trivial
      clear hcop hh hlen hbr hkn
      go_wp2_with (first
        | (have _t := t1; go_at_call 16; refine Calls.mono (wmake_any _ _ _ _ _) ?_; rintro e e1 ⟨rfl, hp1⟩; have hb1 : Below wo.heap.size wo e1 := hp1; have HB1 := Lib.hid hb1; clear hp1 hb1 t1)
        | (go_at_call 16; refine Calls.mono (wmake_any _ _ _ _ _) ?_; rintro e e2 ⟨rfl, hp2⟩; have HP2 := Lib.hid hp2; obtain ⟨⟨y0, y1, y2⟩, z0, z1, z2, zl⟩ := res_at (((HH.out.made HB1.out).made (up_alloc e1 (Obj.cells #[.int .i64 ok, .int .i64 0, .slice lA k lc] 29))).made hp2).res; clear hp2))
      have hc9 := HCOP.out
      rw [show x.kids.take k = x.kids by rw [HKN.out, ← HN.out, List.take_length]] at hc9
      obtain ⟨m', e1', e2', e3', e4'⟩ := hc9.fin HNE.out (by rw [HN.out]; exact hkids)
      rw [HMK.out, HOK.out] at e2'
      have hobj : mtObj1 m' = Obj.cells #[.int .i64 ok, .int .i64 0, .slice lA k lc] 29 := by
        unfold Mt.val at e2'
        injection e2' with e2'
        unfold mtObj1
        rw [e2']
      have hb2 : Below (e1.alloc (mtObj1 m')).heap.size (e1.alloc (mtObj1 m')) e2 := by rw [hobj]; exact HP2.out
      have hm2 : (Mt.n1 3 e1.heap.size 1 m').has e2 := mk1_has (W := e1) 3 (e3'.made HB1.out) (up_next hb2)
      have hs1 := HB1.out.size
      have ub : Below w.heap.size w e2 := HH.out.below.trans ((up_trans HB1.out (up_call hb2)).mono (by have := HH.out.below.size; omega))
      exact bodyPost_ret (v := .tuple #[(Mt.n1 3 e1.heap.size 1 m').val, .bool true]) (by simp [results, Tryz.results20, go_sem, y0, y1, y2]; rfl) rfl (by_fr e1' HX.out HZ.out hm2 rfl ub (Fr.n1 (by omega) (fun b hb => by rcases e4' b hb with h | h; exact .inl h; exact .inr (.inl h))))
end Go.Proofs.YtccknopchddicaaGreatDoor
/- contract: FormSides answers true. -/
namespace Go.Proofs.YtccknopchddicaaGreatDoor
open Go.RowKit Stile
set_option maxRecDepth 100000 in
set_option maxHeartbeats 3200000 in
theorem sd_no (po : Addr) (mb : Nat) (w0 w : World) (x : Mt) (hx : x.has w) (h0 : w0.heap.size ≤ w.heap.size) (hc : w.cell? po = some (.map (some mb))) (ho : OthAt mb w) (hk0 : 0 ≤ x.kk) (hk9 : x.kk ≤ 9) (hz : othK x.kk = 0) (hr : sdRule x.w = none) :
    Calls Tryz.prog 20 #[.agg #[.int .i64 x.kk, .int .i64 x.ks, .slice x.kA x.kids.length x.kc], .pointer (some po)] w (ByOut sdRule x w0 w) := by
  have hcl := lt_of_cell hc
  have HO := Lib.hid ho
  have HR := Lib.hid hr
  have HZ := Lib.hid hz
  clear hx h0 ho hr hz
  go_enter Tryz.func20, Tryz.ntmps20
  go_upto_region 1 with fail
  have hh : ByHead w ((w.alloc (Obj.cells #[.int .i64 x.kk, .int .i64 x.ks, .slice x.kA x.kids.length x.kc] 29)).alloc (Obj.cells #[.int .i64 0, .int .i64 0, .slice none 0 0] 29)) x := by_head w x
  obtain ⟨W2, hW2⟩ : ∃ W2, (w.alloc (Obj.cells #[.int .i64 x.kk, .int .i64 x.ks, .slice x.kA x.kids.length x.kc] 29)).alloc (Obj.cells #[.int .i64 0, .int .i64 0, .slice none 0 0] 29) = W2 := ⟨_, rfl⟩
  rw [hW2] at hh ⊢
  clear hW2
  have hcw : W2.cell? po = some (.map (some mb)) := (hh.below.cell hcl).trans hc
  obtain ⟨xf0, xf1, xf2⟩ : BoxS w.heap.size x W2 := box_kid hh.box
  have hlk := (HO.out.below hh.below HO.out.lt).look x.kk hk0 hk9
  rw [HZ.out] at hlk
  obtain ⟨⟨y0, y1, y2⟩, z0, z1, z2, zl⟩ := res_at hh.res
  have HHD := Lib.hid hh
  clear hh
  go_wp2_with fail
  refine bodyPost_ret (v := .tuple #[x.val, .bool false]) (by simp [results, Tryz.results20, go_sem, y0, y1, y2]; rfl) rfl (by_none HR.out ?_)
  exact ((HHD.out.below.setCell (by simp) _).setCell (by simp) _).setCell (by simp) _
theorem sd_by_ok {mm : Int} (po : Addr) (mb : Nat) (w0 : World) (hc : w0.cell? po = some (.map (some mb))) (ho : OthAt mb w0) : ByOk futK mm w0 20 #[.pointer (some po)] sdRule := by
  intro m w hb hm hok hsz
  have hcw : w.cell? po = some (.map (some mb)) := (hb.cell (lt_of_cell hc)).trans hc
  have how : OthAt mb w := ho.below hb ho.lt
  have h0 : w0.heap.size ≤ w.heap.size := hb.size
  show Calls _ _ #[m.val, .pointer (some po)] w (ByOut sdRule m w0 w)
  cases m with
  | n0 k s =>
    have hk := leaf_kk hok
    exact sd_no po mb w0 w (.n0 k s) hm h0 hcw how (show 0 ≤ k by omega) (show k ≤ 9 by omega) (show othK k = 0 by rcases hk with rfl | rfl | rfl <;> rfl) rfl
  | n1 k g c x =>
    have hk := one_kk hok
    by_cases hz : othK k = 0
    · exact sd_no po mb w0 w (.n1 k g c x) hm h0 hcw how (show 0 ≤ k by omega) (show k ≤ 9 by omega) hz (by show (if othK k = 0 then none else _) = none; rw [if_pos hz])
    · exact sd_some po mb w0 w (.n1 k g c x) hm h0 hcw how (show 0 ≤ k by omega) (show k ≤ 9 by omega) hz (by simp [Mt.kids])
  | n2 k g c x y =>
    have hk := two_kk hok
    by_cases hz : othK k = 0
    · exact sd_no po mb w0 w (.n2 k g c x y) hm h0 hcw how (show 0 ≤ k by omega) (show k ≤ 9 by omega) hz (by show (if othK k = 0 then none else _) = none; rw [if_pos hz])
    · exact sd_some po mb w0 w (.n2 k g c x y) hm h0 hcw how (show 0 ≤ k by omega) (show k ≤ 9 by omega) hz (by simp [Mt.kids])
set_option maxRecDepth 100000 in
set_option maxHeartbeats 800000 in
theorem sd_change {mm : Int} (mb : Nat) (which : Int) (fv : Value) (f : List Nd) (pf pw po : Addr) (w : World) (hf : RdN w w.heap.size fv f) (hok : okF futK mm f) (hn0 : 0 < f.length) (hn : f.length ≤ 40) (hw0 : -9223372036854775808 ≤ which) (hw1 : which ≤ 9223372036854775807)
    (h1 : w.cell? pf = some fv) (h2 : w.cell? pw = some (.int .i64 which)) (h3 : w.cell? po = some (.map (some mb))) (ho : OthAt mb w) :
    Calls Tryz.prog 19 #[.pointer (some pf), .pointer (some pw), .pointer (some po)] w (SwapOut (swapR f which sdRule) w) := by
  have hmf : ∀ (fn : Fn) (first cap : Array Value) (w : World), (Instr.makeFunc fn first cap).run Tryz.prog w = .ok (.func fn first cap) w := fun _ _ _ _ => rfl
  have hs := swap_any futK_any f fv which 20 #[.pointer (some po)] sdRule w hf hok hn0 hn hw0 hw1 (fun _ _ => rfl) (sd_by_ok po mb w h3 ho) (fun t u => sd_size t u)
  obtain ⟨fA, fc, rfl, _, _⟩ := id hf
  have l1 := lt_of_cell h1
  have l2 := lt_of_cell h2
  have HS := Lib.hid hs
  clear hs hf hok h3 ho
  go_enter Tryz.func19, Tryz.ntmps19
  go_wp2_with fail
  refine HS.out.mono ?_
  rintro e w2 ⟨hb, gv, b, rfl, hx, hy⟩
  have HB := Lib.hid hb
  have HX := Lib.hid hx
  have HY := Lib.hid hy
  clear hb hx hy
  go_wp2_with fail
  go_ret2
  exact ⟨HB.out, _, _, rfl, HX.out, HY.out⟩
theorem grown' {B mb : Nat} {W w w' : World} (h : Below B W w) (hg : w.grownBy w' (some mb)) (hB : B ≤ mb) (hW : B ≤ W.heap.size) : Below B W w' :=
  h.grown hg (by have := h.size; omega) (fun b hb => by injection hb with hb; omega)
set_option maxRecDepth 100000 in
set_option maxHeartbeats 1600000 in
theorem sd_law (L which : Int) (fv lv : Value) (f : List Nd) (l : List Int) (w : World) (hf : RdN w w.heap.size fv f) (hl : RdI w w.heap.size lv l) (hg : ErrVar w) (hw0 : -9223372036854775808 ≤ which) (hw1 : which ≤ 9223372036854775807) :
    Calls Tryz.prog 4 #[.int .i64 L, fv, lv, .int .i64 which] w (TrueB w) := by
  have hmf : ∀ (fn : Fn) (first cap : Array Value) (w : World), (Instr.makeFunc fn first cap).run Tryz.prog w = .ok (.func fn first cap) w := fun _ _ _ _ => rfl
  have hmm := @run_makeMap Tryz.prog
  obtain ⟨fA, fc, rfl, _, _⟩ := id hf
  have H : ∀ W mb ob, Below w.heap.size w W → W.cell? ⟨w.heap.size, 0, none⟩ = some (.slice fA f.length fc) → W.cell? ⟨w.heap.size + 1, 0, none⟩ = some (.int .i64 which) → W.cell? ⟨ob, 0, none⟩ = some (.map (some mb)) → OthAt mb W →
      Calls Tryz.prog 12 #[.int .i64 L, .slice fA f.length fc, lv, .func (.func 19) #[] #[.pointer (some ⟨w.heap.size, 0, none⟩), .pointer (some ⟨w.heap.size + 1, 0, none⟩), .pointer (some ⟨ob, 0, none⟩)]] W (TrueB W) := fun W mb ob hb c0 c1 c2 ho => by
    have hfW := Rd.mono (Rd.below hf hb) hb.size
    have hlW := Rd.mono (Rd.below hl hb) hb.size
    by_cases hbad : checkP L (setsOf L) f ≠ 0 ∨ wcheckP L l ≠ 0
    · exact wform_bad L _ lv f l W _ _ hfW hlW hbad
    · have hc : checkP L (setsOf L) f = 0 := by omega
      have hw : wcheckP L l = 0 := by omega
      obtain ⟨hL, hn0, hn, hok⟩ := checkP_ok.1 hc
      obtain ⟨n, rfl⟩ := Int.eq_ofNat_of_zero_le (show 0 ≤ L by omega)
      refine wform_ok n _ lv f l W _ _ (swapR f which sdRule) hfW hlW (ErrVar.below hg hb) hc hw (fun _ _ => rfl) (fun W2 hb2 => ?_) (fun u hu => ?_)
      · exact sd_change _ which _ f _ _ _ W2 (Rd.mono (Rd.below hfW hb2) hb2.size) hok hn0 hn hw0 hw1 ((hb2.cell (lt_of_cell c0)).trans c0) ((hb2.cell (lt_of_cell c1)).trans c1) ((hb2.cell (lt_of_cell c2)).trans c2) (ho.below hb2 ho.lt)
      · obtain ⟨a1, a2⟩ := swapR_spec (D := fun _ => True) futK_any hok hn0 (fun t u h1 h2 => sd_spec t u h1 h2) hu
        refine ⟨a1, fun x _ => ?_⟩
        rw [holds_eq _ f (fun i hi => ⟨futK_any _ (hok i hi).1, (hok i hi).2⟩) (by intro e; rw [e] at hn0; simp at hn0)]
        exact a2 x (fun _ _ => trivial)
  have HH := Lib.hid H
  obtain ⟨lA, lc, rfl, _, _⟩ := id hl
  have hkey : ∀ j : Int, 0 ≤ j → j ≤ 9 → keyOf Tryz.prog 3 (.int .i64 j) = some (.int .i64 j) := fun j h0 h9 => Maps.keyOf_int_mk (P := Tryz.prog) Tryz.underlying3 (a := j) (q := .i64) (WalkArith.wf_i64 (by omega))
  have hval : ∀ j : Int, 0 ≤ j → j ≤ 9 → plainElem (H := Unit) Tryz.prog 3 (.int .i64 j) = some (.lit (.int .i64 j), []) := fun j h0 h9 => plainElem_int Tryz.underlying3 (WalkArith.wf_i64 (by omega))
  have HKEY := Lib.hid hkey
  have HVAL := Lib.hid hval
  clear H hf hl hg hkey hval
  go_enter Tryz.func4, Tryz.ntmps4
  go_upto_region 1 with fail
  obtain ⟨t0', t1'⟩ := two_new w (Obj.cells #[.slice fA f.length fc] 22) (Obj.cells #[.int .i64 which] 3)
  have hb2 : Below w.heap.size w ((w.alloc (Obj.cells #[.slice fA f.length fc] 22)).alloc (Obj.cells #[.int .i64 which] 3)) := ((Below.refl _ _).alloc (Nat.le_refl _) _).alloc (by simp) _
  obtain ⟨W2, hW2⟩ : ∃ W2, (w.alloc (Obj.cells #[.slice fA f.length fc] 22)).alloc (Obj.cells #[.int .i64 which] 3) = W2 := ⟨_, rfl⟩
  have hsz : W2.heap.size = w.heap.size + 2 := by rw [← hW2]; simp
  rw [hW2] at t0' t1' hb2 ⊢
  clear hW2
  have HT0 := Lib.hid t0'
  have HT1 := Lib.hid t1'
  have HB2 := Lib.hid hb2
  have HSZ := Lib.hid hsz
  clear t0' t1' hb2
  have HW0 := Lib.hid (World.ownsMap_made W2 Tryz.prog 3 (plainElem (H := Unit) Tryz.prog 3))
  have HG0 := Lib.hid (up_alloc W2 (.map #[] 0))
  have t0 : True := trivial
  have t1 : True := trivial
  have t2 : True := trivial
  have t3 : True := trivial
  have t4 : True := trivial
  have t5 : True := trivial
  clear hsz
  go_upto_region 2 with (first
      | (have _t := t0; refine wpList_insert_own _ rfl _ _ _ 36 rfl 3 3 law_int Tryz.underlying36 (plainElem Tryz.prog 3) W2.heap.size 0 (DataW.map [] : DataW Unit) rfl HW0.out (by unfold maxLen; omega) (.int .i64 4) (.int .i64 5) (.int .i64 4) rfl rfl (HKEY.out 4 (by omega) (by omega)) (.lit (.int .i64 5)) [] (HVAL.out 5 (by omega) (by omega)) ?_; intro m1 hown1 hgrow1; have HW1 := Lib.hid hown1; have HG1 := Lib.hid (grown' HG0.out hgrow1 (Nat.le_refl _) (Nat.le_refl _)); clear hown1 hgrow1 t0)
      | (have _t := t1; refine wpList_insert_own _ rfl _ _ _ 36 rfl 3 3 law_int Tryz.underlying36 (plainElem Tryz.prog 3) W2.heap.size 1 ((DataW.map [] : DataW Unit).put (.int .i64 4) (.lit (.int .i64 5))) rfl HW1.out (by unfold maxLen; omega) (.int .i64 5) (.int .i64 4) (.int .i64 5) rfl rfl (HKEY.out 5 (by omega) (by omega)) (.lit (.int .i64 4)) [] (HVAL.out 4 (by omega) (by omega)) ?_; intro m2 hown2 hgrow2; have HW2 := Lib.hid hown2; have HG2 := Lib.hid (grown' HG1.out hgrow2 (Nat.le_refl _) (Nat.le_refl _)); clear hown2 hgrow2 t1)
      | (have _t := t2; refine wpList_insert_own _ rfl _ _ _ 36 rfl 3 3 law_int Tryz.underlying36 (plainElem Tryz.prog 3) W2.heap.size 2 (((DataW.map [] : DataW Unit).put (.int .i64 4) (.lit (.int .i64 5))).put (.int .i64 5) (.lit (.int .i64 4))) rfl HW2.out (by unfold maxLen; omega) (.int .i64 6) (.int .i64 7) (.int .i64 6) rfl rfl (HKEY.out 6 (by omega) (by omega)) (.lit (.int .i64 7)) [] (HVAL.out 7 (by omega) (by omega)) ?_; intro m3 hown3 hgrow3; have HW3 := Lib.hid hown3; have HG3 := Lib.hid (grown' HG2.out hgrow3 (Nat.le_refl _) (Nat.le_refl _)); clear hown3 hgrow3 t2)
      | (have _t := t3; refine wpList_insert_own _ rfl _ _ _ 36 rfl 3 3 law_int Tryz.underlying36 (plainElem Tryz.prog 3) W2.heap.size 3 ((((DataW.map [] : DataW Unit).put (.int .i64 4) (.lit (.int .i64 5))).put (.int .i64 5) (.lit (.int .i64 4))).put (.int .i64 6) (.lit (.int .i64 7))) rfl HW3.out (by unfold maxLen; omega) (.int .i64 7) (.int .i64 6) (.int .i64 7) rfl rfl (HKEY.out 7 (by omega) (by omega)) (.lit (.int .i64 6)) [] (HVAL.out 6 (by omega) (by omega)) ?_; intro m4 hown4 hgrow4; have HW4 := Lib.hid hown4; have HG4 := Lib.hid (grown' HG3.out hgrow4 (Nat.le_refl _) (Nat.le_refl _)); clear hown4 hgrow4 t3)
      | (have _t := t4; refine wpList_insert_own _ rfl _ _ _ 36 rfl 3 3 law_int Tryz.underlying36 (plainElem Tryz.prog 3) W2.heap.size 4 (((((DataW.map [] : DataW Unit).put (.int .i64 4) (.lit (.int .i64 5))).put (.int .i64 5) (.lit (.int .i64 4))).put (.int .i64 6) (.lit (.int .i64 7))).put (.int .i64 7) (.lit (.int .i64 6))) rfl HW4.out (by unfold maxLen; omega) (.int .i64 8) (.int .i64 9) (.int .i64 8) rfl rfl (HKEY.out 8 (by omega) (by omega)) (.lit (.int .i64 9)) [] (HVAL.out 9 (by omega) (by omega)) ?_; intro m5 hown5 hgrow5; have HW5 := Lib.hid hown5; have HG5 := Lib.hid (grown' HG4.out hgrow5 (Nat.le_refl _) (Nat.le_refl _)); clear hown5 hgrow5 t4)
      | (have _t := t5; refine wpList_insert_own _ rfl _ _ _ 36 rfl 3 3 law_int Tryz.underlying36 (plainElem Tryz.prog 3) W2.heap.size 5 ((((((DataW.map [] : DataW Unit).put (.int .i64 4) (.lit (.int .i64 5))).put (.int .i64 5) (.lit (.int .i64 4))).put (.int .i64 6) (.lit (.int .i64 7))).put (.int .i64 7) (.lit (.int .i64 6))).put (.int .i64 8) (.lit (.int .i64 9))) rfl HW5.out (by unfold maxLen; omega) (.int .i64 9) (.int .i64 8) (.int .i64 9) rfl rfl (HKEY.out 9 (by omega) (by omega)) (.lit (.int .i64 8)) [] (HVAL.out 8 (by omega) (by omega)) ?_; intro m6 hown6 hgrow6; have HW6 := Lib.hid hown6; have HG6 := Lib.hid (grown' HG5.out hgrow6 (Nat.le_refl _) (Nat.le_refl _)); clear hown6 hgrow6 t5))
  obtain ⟨W4, hW4⟩ : ∃ W4, m6.alloc (Obj.cells #[.map (some W2.heap.size)] 36) = W4 := ⟨_, rfl⟩
  have hg6 := HG6.out
  have hb4 : Below W2.heap.size W2 W4 := by rw [← hW4]; exact hg6.alloc hg6.size _
  have hbx : W4.heap[m6.heap.size]? = some (Obj.cells #[.map (some W2.heap.size)] 36) := by rw [← hW4]; exact heap_new _ _
  have how : OthAt W2.heap.size W4 := ⟨_, by rw [← hW4]; exact HW6.out.alloc _, othD⟩
  rw [hW4]
  clear hW4 hg6
  have hbw : Below w.heap.size w W4 := HB2.out.trans (hb4.mono HB2.out.size)
  have c0 : W4.cell? ⟨w.heap.size, 0, none⟩ = some (.slice fA f.length fc) := by rw [fld_cell ((hb4.block _ (lt_blk HT0.out)).trans HT0.out)]; rfl
  have c1 : W4.cell? ⟨w.heap.size + 1, 0, none⟩ = some (.int .i64 which) := by rw [fld_cell ((hb4.block _ (lt_blk HT1.out)).trans HT1.out)]; rfl
  have c2 : W4.cell? ⟨m6.heap.size, 0, none⟩ = some (.map (some W2.heap.size)) := by rw [fld_cell hbx]; rfl
  have hcall := HH.out W4 W2.heap.size m6.heap.size hbw c0 c1 c2 how
  have HC := Lib.hid hcall
  have HBW := Lib.hid hbw
  clear hcall hbw hb4 hbx how c1 c2 HW6 HG6
  go_wp2_with fail
  refine HC.out.mono ?_
  rintro e w2 ⟨rfl, hb2⟩
  have HB := Lib.hid (HBW.out.trans (hb2.mono HBW.out.size))
  clear hb2 c0
  go_wp2_with fail
  go_ret
  exact ⟨rfl, HB.out⟩
end Go.Proofs.YtccknopchddicaaGreatDoor
