/- contract: wCopy. -/
import Derived.Test.YtccknopchddicaaGreatDoorMD7
import Derived.Test.YtccknopchddicaaGreatDoorMGf
import Derived.Deep.AppendLies
set_option linter.unusedSimpArgs false
set_option linter.unusedVariables false
set_option linter.unnecessarySimpa false
namespace Go.Proofs.YtccknopchddicaaGreatDoor
open Go.RowKit Stile
theorem info_w : (Tryz.prog.info? 29).map (fun i => (i.zero, i.size, i.bytes)) = some (some (.agg #[.int .i64 0, .int .i64 0, .slice none 0 0]), 3, 40) := by kernel_rfl
def mtCells : List Mt → List Value
  | [] => []
  | m :: l => .int .i64 m.kk :: .int .i64 m.ks :: .slice m.kA m.kids.length m.kc :: mtCells l
theorem mtCells_append : ∀ a b : List Mt, mtCells (a ++ b) = mtCells a ++ mtCells b
  | [], b => rfl
  | x :: a, b => by simp [mtCells, mtCells_append a b]
theorem mtCells_len : ∀ l : List Mt, (mtCells l).length = l.length * 3
  | [] => rfl
  | x :: l => by simp [mtCells, mtCells_len l]; omega
theorem mtCells_at : ∀ (l : List Mt) (j : Nat) (h : j < l.length), (mtCells l)[3 * j]? = some (.int .i64 l[j].kk) ∧ (mtCells l)[3 * j + 1]? = some (.int .i64 l[j].ks) ∧ (mtCells l)[3 * j + 2]? = some (.slice l[j].kA l[j].kids.length l[j].kc)
  | x :: l, 0, h => by simp [mtCells]
  | x :: l, j + 1, h => by
    have := mtCells_at l j (by simpa using h)
    simpa [mtCells, Nat.mul_add, Nat.add_assoc] using this
/-- the parts that have been copied so far -/
structure Cop (wr : World) (B : Nat) (lv : Value) (l src : List Mt) : Prop where
  w : l.map Mt.w = src.map Mt.w
  has : ∀ x ∈ l, x.has wr
  blks : ∀ x ∈ l, ∀ g ∈ x.blks, B ≤ g ∧ lv.ownBlock ≠ some g
  own : wr.ownsRow B 29 3 lv l.length (mtCells l)
  nil : l = [] → lv = .slice none 0 0
theorem Cop.kid {wr : World} {B : Nat} {lv : Value} {l src : List Mt} (h : Cop wr B lv l src) (hl : 0 < l.length) : ∃ g c, lv = .slice (some ⟨g, 0, none⟩) l.length c ∧ l.length ≤ c ∧ B ≤ g ∧ ∀ j (hj : j < l.length), KidAt wr g j l[j].val := by
  obtain ⟨a1, a2⟩ := h.own
  rcases a2 with ⟨_, e⟩ | ⟨g, cap, cur, e, hbs, hh, hn, _, hsz, ht⟩
  · omega
  · refine ⟨g, cap, e, hn, hbs, fun j hj => ⟨_, _, _, cur, rfl, hh, ?_, ?_, ?_⟩⟩
    all_goals
      obtain ⟨q0, q1, q2⟩ := mtCells_at l j hj
      first
        | (rw [← ht, List.getElem?_take, if_pos (by omega)] at q0; simpa using q0)
        | (rw [← ht, List.getElem?_take, if_pos (by omega)] at q1; simpa using q1)
        | (rw [← ht, List.getElem?_take, if_pos (by omega)] at q2; simpa using q2)
/-- what the list of copies makes of a node -/
theorem Cop.fin {wr : World} {B : Nat} {lv : Value} {l : List Mt} {m : Mt} (h : Cop wr B lv l m.kids) : ∃ m' : Mt, m'.w = m.w ∧ m'.val = .agg #[.int .i64 m.kk, .int .i64 m.ks, lv] ∧ m'.has wr ∧ ∀ g ∈ m'.blks, B ≤ g := by
  have hlen : l.length = m.kids.length := by have := congrArg List.length h.w; simpa using this
  cases m with
  | n0 k s =>
    obtain rfl : l = [] := by simpa [Mt.kids] using hlen
    exact ⟨.n0 k s, rfl, by rw [h.nil rfl]; rfl, trivial, by simp [Mt.blks]⟩
  | n1 k g c x =>
    obtain ⟨y, rfl⟩ : ∃ y, l = [y] := by
      match l, hlen with
      | [y], _ => exact ⟨y, rfl⟩
    obtain ⟨g', c', e, hc, hB, hk⟩ := h.kid (by simp)
    have hw := h.w
    simp [Mt.kids] at hw
    refine ⟨.n1 k g' c' y, by simp [Mt.w, hw], by rw [e]; rfl, ⟨hc, hk 0 (by simp), h.has y (by simp)⟩, ?_⟩
    intro b hb
    simp [Mt.blks] at hb
    rcases hb with rfl | hb
    · exact hB
    · exact (h.blks y (by simp) b hb).1
  | n2 k g c x x' =>
    obtain ⟨y, z, rfl⟩ : ∃ y z, l = [y, z] := by
      match l, hlen with
      | [y, z], _ => exact ⟨y, z, rfl⟩
    obtain ⟨g', c', e, hc, hB, hk⟩ := h.kid (by simp)
    have hw := h.w
    simp [Mt.kids] at hw
    refine ⟨.n2 k g' c' y z, by simp [Mt.w, hw], by rw [e]; rfl, ⟨hc, hk 0 (by simp), hk 1 (by simp), h.has y (by simp), h.has z (by simp)⟩, ?_⟩
    intro b hb
    simp [Mt.blks] at hb
    rcases hb with rfl | hb | hb
    · exact hB
    · exact (h.blks y (by simp) b hb).1
    · exact (h.blks z (by simp) b hb).1
def CopyOk (m : Mt) : Prop := ∀ w : World, m.has w → Calls Tryz.prog 17 #[m.val] w fun e w' => Below w.heap.size w w' ∧ ∃ m' : Mt, e = .returned m'.val ∧ m'.w = m.w ∧ m'.has w' ∧ ∀ g ∈ m'.blks, w.heap.size ≤ g
theorem Cop.made {wr w2 : World} {B : Nat} {lv : Value} {l src : List Mt} (h : Cop wr B lv l src) (hb : Below wr.heap.size wr w2) : Cop w2 B lv l src :=
  ⟨h.w, fun x hx => (h.has x hx).made hb, h.blks, own_below h.own hb, h.nil⟩
theorem Mt.has.set {w1 : World} {m : Mt} {b k : Nat} {u : Value} (h : m.has w1) (hb : ∀ g ∈ m.blks, g ≠ b) : m.has (w1.setCell ⟨b, k, none⟩ u) :=
  h.keep fun g hg => Below.heap_setCell w1 _ _ _ (hb g hg)
theorem Cop.step {wr w5 w6 : World} {B g' cap' n : Nat} {lv : Value} {l src : List Mt} {m' x : Mt} {o : Obj} (h : Cop wr B lv l src) (hn : l.length = n) (hb : Below wr.heap.size wr w5) (hB : B ≤ wr.heap.size) (hm : m'.has w5) (hmb : ∀ g ∈ m'.blks, wr.heap.size ≤ g) (hw : m'.w = x.w)
    (hgrow : (w5.alloc o).grownBy w6 lv.ownBlock) (hown : w6.ownsRow B 29 3 (.slice (some ⟨g', 0, none⟩) (n + 1) cap') (n + 1) (mtCells l ++ [.int .i64 m'.kk, .int .i64 m'.ks, .slice m'.kA m'.kids.length m'.kc])) (hat : lv.ownBlock = some g' ∨ g' = w5.heap.size + 1) :
    Cop w6 B (.slice (some ⟨g', 0, none⟩) (n + 1) cap') (l ++ [m']) (src ++ [x]) := by
  subst hn
  have hsz := hb.size
  have hal : (w5.alloc o).heap.size = w5.heap.size + 1 := by simp
  have hl5 : ∀ g, g < w5.heap.size → lv.ownBlock ≠ some g → w6.heap[g]? = w5.heap[g]? := fun g hg hne =>
    (hgrow.block g (by omega) (fun e => hne e.symm)).trans (Below.heap_alloc w5 o g hg)
  have hlv : ∀ g, lv.ownBlock = some g → g < wr.heap.size := fun g e => (h.own.lt g e).2
  refine ⟨by simp [h.w, hw], ?_, ?_, ?_, by simp⟩
  · intro y hy
    rcases List.mem_append.1 hy with hy | hy
    · have h5 := (h.has y hy).made hb
      exact h5.keep fun g hg => hl5 g (h5.lt g hg) (h.blks y hy g hg).2
    · obtain rfl : y = m' := by simpa using hy
      refine hm.keep fun g hg => hl5 g (hm.lt g hg) fun e => ?_
      have := hlv g e; have := hmb g hg; omega
  · intro y hy g hg
    have hne : ∀ g'', (g'' = g' → False) → (Value.slice (some ⟨g', 0, none⟩) (l.length + 1) cap').ownBlock ≠ some g'' := fun g'' hh e => by
      simp [Value.ownBlock] at e; exact hh e.symm
    rcases List.mem_append.1 hy with hy | hy
    · have h5 := ((h.has y hy).made hb).lt g hg
      refine ⟨(h.blks y hy g hg).1, hne g fun e => ?_⟩
      rcases hat with e2 | e2
      · exact (h.blks y hy g hg).2 (e ▸ e2)
      · omega
    · obtain rfl : y = m' := by simpa using hy
      have h5 := hm.lt g hg
      have h6 := hmb g hg
      refine ⟨by omega, hne g fun e => ?_⟩
      rcases hat with e2 | e2
      · have := hlv g' e2; omega
      · omega
  · rw [mtCells_append, List.length_append]; exact hown
set_option maxRecDepth 100000 in
set_option maxHeartbeats 1600000 in
theorem copy_step (m : Mt) (ih : ∀ x ∈ m.kids, CopyOk x) : CopyOk m := by
  intro w hm
  obtain ⟨n, hn⟩ : ∃ n, m.kids.length = n := ⟨_, rfl⟩
  have hn2 : n ≤ 2 := by rw [← hn]; exact m.kids_le
  have hv : m.val = .agg #[.int .i64 m.kk, .int .i64 m.ks, .slice m.kA n m.kc] := by rw [Mt.val, hn]
  rw [hv]
  obtain ⟨mk, hmk⟩ : ∃ k, m.kk = k := ⟨_, rfl⟩
  obtain ⟨ms, hms⟩ : ∃ k, m.ks = k := ⟨_, rfl⟩
  obtain ⟨mA, hmA⟩ : ∃ k, m.kA = k := ⟨_, rfl⟩
  obtain ⟨mc, hmc⟩ : ∃ k, m.kc = k := ⟨_, rfl⟩
  have hnc : n ≤ mc ∨ n = 0 := by
    rcases Nat.eq_zero_or_pos n with h | h
    · exact .inr h
    · obtain ⟨_, _, _, h3, _⟩ := hm.kid (j := 0) (by omega)
      exact .inl (by omega)
  rw [hmk, hms, hmA, hmc]
  have HM := Lib.hid hm
  have HIH := Lib.hid ih
  have HN := Lib.hid hn
  have HMK := Lib.hid hmk
  have HMS := Lib.hid hms
  have HMA := Lib.hid hmA
  have HMC := Lib.hid hmc
  clear hm ih hv hmk hms hmA hmc hn
  obtain ⟨i0, hi0, hz0, hz1, hz2⟩ := info_parts info_w
  go_enter Tryz.func17, Tryz.ntmps17
  go_wp2_with fail
  obtain ⟨W2, hW2⟩ : ∃ W2, (w.alloc (Obj.cells #[.int .i64 mk, .int .i64 ms, .slice mA n mc] 29)).alloc (Obj.cells #[.int .i64 0, .int .i64 0, .slice none 0 0] 29) = W2 := ⟨_, rfl⟩
  have hb2 : Below w.heap.size w W2 := by rw [← hW2]; exact ((Below.refl _ _).alloc (Nat.le_refl _) _).alloc (by simp) _
  have hbx : W2.heap[w.heap.size]? = some (Obj.cells #[.int .i64 mk, .int .i64 ms, .slice mA n mc] 29) := by rw [← hW2]; exact heap_old2 _ _ _
  have hrs : W2.heap[w.heap.size + 1]? = some (Obj.cells #[.int .i64 0, .int .i64 0, .slice none 0 0] 29) := by rw [← hW2]; exact heap_new2 _ _ _
  have hs2 : W2.heap.size = w.heap.size + 2 := by rw [← hW2]; simp
  rw [hW2]
  have HB2 := Lib.hid hb2
  have HBX := Lib.hid hbx
  have HRS := Lib.hid hrs
  have HS2 := Lib.hid hs2
  clear hb2 hbx hrs hs2 hW2
  go_loopw [3, 9] (fun lv i wr => ∃ (k : Nat) (l : List Mt), k ≤ n ∧ i = .int .i64 (k : Int) ∧ l.length = k ∧ Cop wr (w.heap.size + 2) lv l (m.kids.take k) ∧ Below (w.heap.size + 2) W2 wr) (fun _ i _ => n - (intOf i).toNat)
  case atStart => exact ⟨0, [], by omega, rfl, rfl, ⟨by simp, by simp, by simp, World.ownsRow_nil _ _ _ _, fun _ => rfl⟩, Below.refl _ _⟩
  case round =>
    obtain ⟨k, l, hk, rfl, hlen, hcop, hbr⟩ := hrel
    obtain ⟨wo, rfl⟩ : ∃ wo : World, wo = wr := ⟨_, rfl⟩
    have hwsz := hbr.size
    have hwsz2 : w.heap.size + 2 ≤ wo.heap.size := by have := HS2.out; omega
    clear hwsz
    by_cases hlt : k < n
    · have hkn : k < m.kids.length := by rw [HN.out]; exact hlt
      obtain ⟨g, hgA, hgb, hgc, hkid, hkh⟩ := HM.out.kid hkn
      have e := HMA.out.symm.trans hgA
      subst e
      have hglt := hkid.lt
      have hgk : wo.heap[g]? = w.heap[g]? := (hbr.block g (by omega)).trans (HB2.out.block g hglt)
      have hkid' := hkid.keep hgk
      have hxh : (m.kids[k]).has wo := (hkh.made HB2.out).below hbr (fun b hb => by have := hkh.lt b hb; omega)
      have hih := HIH.out m.kids[k] (List.getElem_mem hkn)
      obtain ⟨x, hx⟩ : ∃ x, m.kids[k] = x := ⟨_, rfl⟩
      rw [hx] at hkid' hxh hih
      obtain ⟨q0, q1, q2, hgl⟩ := hkid'.cells
      rw [Nat.mul_comm 3 k] at q0 q1 q2
      unfold CopyOk at hih
      rw [Mt.val] at hih
      obtain ⟨xn, hxn⟩ : ∃ xn, x.kids.length = xn := ⟨_, rfl⟩
      obtain ⟨xk, hxk⟩ : ∃ k, x.kk = k := ⟨_, rfl⟩
      obtain ⟨xs, hxs⟩ : ∃ k, x.ks = k := ⟨_, rfl⟩
      obtain ⟨xA, hxA⟩ : ∃ k, x.kA = k := ⟨_, rfl⟩
      obtain ⟨xc, hxc⟩ : ∃ k, x.kc = k := ⟨_, rfl⟩
      rw [hxn, hxk, hxs, hxA, hxc] at hih
      rw [hxn, hxA, hxc] at q2
      rw [hxk] at q0
      rw [hxs] at q1
      obtain ⟨lA, lc, rfl⟩ : ∃ A c, u3 = .slice A k c := by rw [← hlen]; exact own_shape hcop.own
      have HIH2 := Lib.hid hih
      have HXH := Lib.hid hxh
      have HCOP := Lib.hid hcop
      have HBR := Lib.hid hbr
      have HX := Lib.hid hx
      have HLEN := Lib.hid hlen
      clear hkid hkid' hkh hih hxh hcop hbr hgk hgA hgb hgc hx hxn hxk hxs hxA hxc hlen
      go_wp2_with fail
      refine (HIH2.out _ (HXH.out.made ((Below.refl _ _).alloc (Nat.le_refl _) _))).mono ?_
      rintro e w5 ⟨hb5, m', he, hmw, hmh, hmb⟩
      have hal : Below wo.heap.size wo (wo.alloc (Obj.cells #[.int .i64 xk, .int .i64 xs, .slice xA xn xc] 29)) := (Below.refl _ _).alloc (Nat.le_refl _) _
      have hb5' : Below wo.heap.size wo w5 := hal.trans (hb5.mono hal.size)
      have hmb' : ∀ g ∈ m'.blks, wo.heap.size ≤ g := fun g hg => by have := hmb g hg; have := hal.size; omega
      have hcop5 := HCOP.out.made hb5'
      rw [Mt.val] at he
      have hst : mtCells l ++ [.int .i64 m'.kk, .int .i64 m'.ks, .slice m'.kA m'.kids.length m'.kc] = mtCells l ++ [.int .i64 m'.kk, .int .i64 m'.ks, .slice m'.kA m'.kids.length m'.kc] := rfl
      obtain ⟨yn, hyn⟩ : ∃ yn, m'.kids.length = yn := ⟨_, rfl⟩
      obtain ⟨yk, hyk⟩ : ∃ k, m'.kk = k := ⟨_, rfl⟩
      obtain ⟨ys, hys⟩ : ∃ k, m'.ks = k := ⟨_, rfl⟩
      obtain ⟨yA, hyA⟩ : ∃ k, m'.kA = k := ⟨_, rfl⟩
      obtain ⟨yc, hyc⟩ : ∃ k, m'.kc = k := ⟨_, rfl⟩
      rw [hyn, hyk, hys, hyA, hyc] at he
      subst he
      have hown := hcop5.own
      rw [HLEN.out] at hown
      have hsz5 : w.heap.size + 2 ≤ w5.heap.size := by have := hb5'.size; omega
      have HOWN := Lib.hid hown
      have HB5 := Lib.hid hb5'
      have HMB := Lib.hid hmb'
      have HMH := Lib.hid hmh
      have HMW := Lib.hid hmw
      have HY : Hid ((Value.int .i64 m'.kk = .int .i64 yk ∧ Value.int .i64 m'.ks = .int .i64 ys) ∧ Value.slice m'.kA m'.kids.length m'.kc = .slice yA yn yc) := Lib.hid ⟨⟨by rw [hyk], by rw [hys]⟩, by rw [hyn, hyA, hyc]⟩
      clear hown hb5 hb5' hmb hmb' hmh hmw hal hcop5 hst hyn hyk hys hyA hyc
      go_wp2_with (at_builtin; refine wpList_append_lies _ rfl _ _ 27 rfl (w.heap.size + 2) 29 i0 _ 3 40 Tryz.underlying27 hi0 hz0 hz1 hz2 rfl (by decide) (.slice lA k lc) k _ rfl (HOWN.out.alloc _) ⟨w5.heap.size, 0, none⟩ 1 1 [.int .i64 yk, .int .i64 ys, .slice yA yn yc] rfl rfl (cell_three_new _ _ _ _ _) (by simp [Value.oneCell']) (by decide) (by unfold maxLen; omega) (by omega) (by simp; omega) _ rfl ?_; intro g' cap' w6 hown6 hgrow6 hat6 hlt6)
      have hstep : Cop w6 (w.heap.size + 2) (.slice (some ⟨g', 0, none⟩) (k + 1) cap') (l ++ [m']) (m.kids.take (k + 1)) := by
        rw [List.take_succ_eq_append_getElem hkn, HX.out]
        refine Cop.step HCOP.out HLEN.out HB5.out (by omega) HMH.out HMB.out HMW.out hgrow6 ?_ (by rcases hat6 with e | e; exact .inl e; exact .inr (by rw [e]; simp))
        obtain ⟨⟨e1, e2⟩, e3⟩ := HY.out
        rw [e1, e2, e3]
        exact hown6
      have hbel : Below (w.heap.size + 2) W2 w6 := by
        have h1 := HBR.out.trans (HB5.out.mono (by omega))
        have h2 := h1.alloc (by have := HB5.out.size; omega) (Obj.cells #[.int .i64 yk, .int .i64 ys, .slice yA yn yc] 29)
        exact h2.grown hgrow6 (by simp; omega) (fun b hb => (HOWN.out.lt b hb).1)
      have HST := Lib.hid hstep
      have HBL := Lib.hid hbel
      clear hown6 hgrow6 hat6 hstep hbel
      go_roundw
      case rel => exact ⟨k + 1, l ++ [m'], by omega, by go_num, by simp [HLEN.out], HST.out, HBL.out⟩
      case measure => simp [intOf]; omega
    · have hkn : k = n := by omega
      have hr := fun j => fld_cell ((hbr.block _ (by omega)).trans HRS.out) j
      have hrf := fun j => fld_frozen ((hbr.block _ (by omega)).trans HRS.out) j
      have hx := fun j => fld_cell ((hbr.block _ (by omega)).trans HBX.out) j
      have hxf := fun j => fld_frozen ((hbr.block _ (by omega)).trans HBX.out) j
      have r0 := hr 0
      have r1 := hr 1
      have r2 := hr 2
      have f0 := hrf 0
      have f1 := hrf 1
      have f2 := hrf 2
      have x0 := hx 0
      have x1 := hx 1
      have x2 := hx 2
      have xf2 := hxf 2
      simp at r0 r1 r2 x0 x1 x2
      obtain ⟨lA, lc, rfl⟩ : ∃ A c, u3 = .slice A k c := by rw [← hlen]; exact own_shape hcop.own
      have hsl1 : w.heap.size < wo.heap.size := by omega
      have hsl2 : w.heap.size + 1 < wo.heap.size := by omega
      have HCOP := Lib.hid hcop
      have HBR := Lib.hid hbr
      have HKN := Lib.hid hkn
      clear hcop hbr hlen hr hrf hx hxf hkn
      go_wp2_with fail
      have hc := HCOP.out
      rw [show m.kids.take k = m.kids by rw [HKN.out, ← HN.out, List.take_length]] at hc
      obtain ⟨m', e1, e2, e3, e4⟩ := hc.fin
      rw [HMK.out, HMS.out] at e2
      refine bodyPost_ret (v := .agg #[.int .i64 mk, .int .i64 ms, .slice lA k lc]) (by simp [results, Tryz.results17, go_sem, r0, r1, r2]) rfl ⟨?_, m', by rw [e2], e1, ?_, fun g hg => by have := e4 g hg; omega⟩
      · exact ((((HB2.out.trans (HBR.out.mono (by omega))).setCell (by simp) _).setCell (by simp) _).setCell (by simp) _).setCell (by simp) _
      · exact (((e3.set (fun g hg => by have := e4 g hg; omega)).set (fun g hg => by have := e4 g hg; omega)).set (fun g hg => by have := e4 g hg; omega)).set (fun g hg => by have := e4 g hg; omega)
theorem copy_any : ∀ m : Mt, CopyOk m := Mt.ind copy_step
end Go.Proofs.YtccknopchddicaaGreatDoor
