/- contract: wParts. -/
import Derived.Test.YtccknopchddicaaGreatDoorMT9
set_option linter.unusedSimpArgs false
set_option linter.unusedVariables false
set_option linter.unnecessarySimpa false
namespace Go.Proofs.YtccknopchddicaaGreatDoor
open Go.RowKit Stile
theorem info_ptr : (Tryz.prog.info? 43).map (fun i => (i.zero, i.size, i.bytes)) = some (some (.pointer none), 1, 8) := by kernel_rfl
def ptrV (a : Nat × Nat) : Value := .pointer (some ⟨a.1, a.2 * 3, none⟩)
/-- a variable in block po holds the list of places -/
structure PtrAt (w : World) (po : Nat) (sv : Value) (l : List (Nat × Nat)) : Prop where
  blk : w.heap[po]? = some (Obj.cells #[sv] 41)
  own : w.ownsRow po 43 1 sv l.length (l.map ptrV)
theorem Fl.row {po : Nat} {w w' : World} {sv sv' : Value} {l : List (Nat × Nat)} (h : Fl po w w' sv sv') (ho : PtrAt w po sv l) {g : Nat} {cur : Array Value} (hc : w.heap[g]? = some (.cells cur 29 (0, 0))) : w'.heap[g]? = w.heap[g]? :=
  h.other g (lt_blk hc) (fun e => by subst e; exact blk_type ho.blk hc (by decide) rfl) (fun e => by
    obtain ⟨cur', hc'⟩ := own_blk ho.own e.symm
    exact blk_type hc hc' (by decide) rfl)
theorem Fl.kid {po : Nat} {w w' : World} {sv sv' : Value} {l : List (Nat × Nat)} (h : Fl po w w' sv sv') (ho : PtrAt w po sv l) {g j : Nat} {v : Value} (hk : KidAt w g j v) : KidAt w' g j v := by
  obtain ⟨_, _, _, cur, _, hc, _⟩ := id hk
  exact hk.keep (h.row ho hc)
theorem Fl.mt {po : Nat} {w w' : World} {sv sv' : Value} {l : List (Nat × Nat)} (h : Fl po w w' sv sv') (ho : PtrAt w po sv l) {m : Mt} (hm : m.has w) : m.has w' :=
  hm.keep fun g hg => by obtain ⟨cur, hc⟩ := hm.row g hg; exact h.row ho hc
theorem ptr_append {w w5 : World} {po g n : Nat} {sv : Value} {l : List (Nat × Nat)} {a : Nat × Nat} {cap : Nat} {o : Obj} (hn : l.length = n) (ho : PtrAt w po sv l) (hgrow : (w.alloc o).grownBy w5 sv.ownBlock)
    (hown : w5.ownsRow po 43 1 (.slice (some ⟨g, 0, none⟩) (n + 1) cap) (n + 1) (l.map ptrV ++ [ptrV a])) (hg : sv.ownBlock = some g ∨ g = w.heap.size + 1) :
    PtrAt (w5.setCell ⟨po, 0, none⟩ (.slice (some ⟨g, 0, none⟩) (n + 1) cap)) po (.slice (some ⟨g, 0, none⟩) (n + 1) cap) (l ++ [a]) ∧
    Fl po w (w5.setCell ⟨po, 0, none⟩ (.slice (some ⟨g, 0, none⟩) (n + 1) cap)) sv (.slice (some ⟨g, 0, none⟩) (n + 1) cap) := by
  subst hn
  obtain ⟨h1, h2⟩ := fld_grew (k := 0) (u := .slice (some ⟨g, 0, none⟩) (l.length + 1) cap) ho.blk ho.own hgrow hown (by decide)
  have hk := fld_keep ho.blk ho.own hgrow (by decide)
  refine ⟨⟨?_, ?_⟩, h2.below, fun b hb hne hs => ?_, ?_⟩
  · have := fld_set hk 0 (.slice (some ⟨g, 0, none⟩) (l.length + 1) cap)
    simpa using this
  · rw [List.map_append, List.length_append]; exact h1
  · exact (Below.heap_setCell w5 _ _ _ hne).trans ((hgrow.block b (by simp; omega) hs).trans (Below.heap_alloc w o b hb))
  · rcases hg with e | e
    · exact .inl e.symm
    · refine .inr fun g' hg' => ?_
      have : g = g' := by simpa [Value.ownBlock] using hg'
      omega
/-- the places of the parts from the j-th on -/
def kidsAddrs (g : Nat) : Nat → List Mt → List (Nat × Nat)
  | _, [] => []
  | j, x :: l => x.addrs (g, j) ++ kidsAddrs g (j + 1) l
theorem kidsAddrs_snoc (g : Nat) (x : Mt) : ∀ (l : List Mt) (j : Nat), kidsAddrs g j (l ++ [x]) = kidsAddrs g j l ++ x.addrs (g, j + l.length)
  | [], j => by simp [kidsAddrs]
  | y :: l, j => by
    have := kidsAddrs_snoc g x l (j + 1)
    simp only [List.cons_append, kidsAddrs, this, List.append_assoc, List.length_cons]
    rw [show j + 1 + l.length = j + (l.length + 1) by omega]
theorem kidsAddrs_nil (g j : Nat) : kidsAddrs g j [] = [] := rfl
def kidG (m : Mt) : Nat := (m.kA.map (·.block)).getD 0
theorem addrs_kids (m : Mt) (a) : m.addrs a = a :: kidsAddrs (kidG m) 0 m.kids := by
  cases m with
  | n0 k s => rfl
  | n1 k g c x => rw [Mt.addrs_n1]; simp [kidsAddrs, Mt.kids, kidG, Mt.kA]
  | n2 k g c x y => rw [Mt.addrs_n2]; simp [kidsAddrs, Mt.kids, kidG, Mt.kA]
theorem kidG_eq {m : Mt} {g : Nat} (h : m.kA = some ⟨g, 0, none⟩) : kidG m = g := by simp [kidG, h]
def PartsOk (m : Mt) : Prop := ∀ (a : Nat × Nat) (l : List (Nat × Nat)) (po : Nat) (sv : Value) (w : World), KidAt w a.1 a.2 m.val → m.has w → PtrAt w po sv l → l.length + m.w.size ≤ 100000 →
  Calls Tryz.prog 30 #[ptrV a, .pointer (some ⟨po, 0, none⟩)] w fun e w' => (∃ v, e = .returned v) ∧ ∃ sv', PtrAt w' po sv' (l ++ m.addrs a) ∧ Fl po w w' sv sv'
set_option maxRecDepth 100000 in
set_option maxHeartbeats 1600000 in
theorem parts_step (m : Mt) (ih : ∀ x ∈ m.kids, PartsOk x) : PartsOk m := by
  intro a l po sv w hk hm hp hlen
  obtain ⟨n, hn⟩ : ∃ n, m.kids.length = n := ⟨_, rfl⟩
  have hn2 : n ≤ 2 := by rw [← hn]; exact m.kids_le
  obtain ⟨q0, q1, q2, hgl⟩ := KidAt.cells (k := m.kk) (s := m.ks) (A := m.kA) (n := m.kids.length) (c := m.kc) hk
  rw [hn] at q2
  obtain ⟨mA, hmA⟩ : ∃ k, m.kA = k := ⟨_, rfl⟩
  obtain ⟨mc, hmc⟩ : ∃ k, m.kc = k := ⟨_, rfl⟩
  have hnc : n ≤ mc ∨ n = 0 := by
    rcases Nat.eq_zero_or_pos n with h | h
    · exact .inr h
    · obtain ⟨_, _, _, h3, _⟩ := hm.kid (j := 0) (by omega)
      exact .inl (by omega)
  rw [hmA, hmc] at q2
  obtain ⟨ab, aj⟩ := a
  dsimp only at q0 q1 q2 hgl hk
  rw [Nat.mul_comm 3 aj] at q0 q1 q2
  obtain ⟨ln, hln⟩ : ∃ n, l.length = n := ⟨_, rfl⟩
  obtain ⟨sA, sc, rfl⟩ : ∃ A c, sv = .slice A ln c := by rw [← hln]; exact own_shape hp.own
  have hlen' : ln + n + 1 ≤ 100000 := by
    have hs : m.kids.length + 1 ≤ m.w.size := by
      cases m with
      | n0 k s => simp [Mt.kids, Mt.w, W.size]
      | n1 k g c x => have := x.w.size_pos; simp [Mt.kids, Mt.w, W.size]; omega
      | n2 k g c x y => have := x.w.size_pos; have := y.w.size_pos; simp [Mt.kids, Mt.w, W.size]; omega
    omega
  have hcp := fld_cell hp.blk 0
  simp at hcp
  have hcf := fld_frozen hp.blk 0
  have hpl := lt_blk hp.blk
  have hown := hp.own
  rw [hln] at hown
  have HM := Lib.hid hm
  have HK := Lib.hid hk
  have HIH := Lib.hid ih
  have HN := Lib.hid hn
  have HMA := Lib.hid hmA
  have HMC := Lib.hid hmc
  have HP := Lib.hid hp
  have HLN := Lib.hid hln
  have HLEN := Lib.hid hlen
  have HOWN := Lib.hid hown
  clear hm hk ih hn hmA hmc hp hln hlen hown q0 q1
  obtain ⟨i0, hi0, hz0, hz1, hz2⟩ := info_parts info_ptr
  unfold ptrV
  dsimp only
  go_enter Tryz.func30, Tryz.ntmps30
  go_upto_region 1 with (at_builtin; refine wpList_append_lies _ rfl _ _ 41 rfl po 43 i0 _ 1 8 Tryz.underlying41 hi0 hz0 hz1 hz2 rfl (by decide) (.slice sA ln sc) ln _ rfl (HOWN.out.alloc _) ⟨w.heap.size, 0, none⟩ 1 1 [.pointer (some ⟨ab, aj * 3, none⟩)] rfl rfl (cell_one_new _ _ _) (by simp [Value.oneCell']) (by decide) (by unfold maxLen; omega) (by omega) (by simp; omega) _ rfl ?_; intro g' cap' w5 hown5 hgrow5 hat5 hlt5; have hk5 := fld_keep HP.out.blk HOWN.out hgrow5 (by decide); have hc5 := fld_cell hk5 0; simp at hc5; have hf5 := fld_frozen hk5 0; have hl5 := lt_blk hk5; clear hk5)
  obtain ⟨hp1, hf1⟩ := ptr_append (a := (ab, aj)) HLN.out HP.out hgrow5 hown5 (by rcases hat5 with e | e; exact .inl e; exact .inr (by rw [e]; simp))
  obtain ⟨W1, hW1⟩ : ∃ W1, w5.setCell ⟨po, 0, none⟩ (.slice (some ⟨g', 0, none⟩) (ln + 1) cap') = W1 := ⟨_, rfl⟩
  rw [hW1] at hp1 hf1 ⊢
  have hk1 := hf1.kid HP.out HK.out
  have hm1 := hf1.mt HP.out HM.out
  have hp1l := lt_blk hp1.blk
  obtain ⟨sv1, hsv1⟩ : ∃ sv1, Value.slice (some ⟨g', 0, none⟩) (ln + 1) cap' = sv1 := ⟨_, rfl⟩
  rw [hsv1] at hp1 hf1
  obtain ⟨q0, q1, q2', hgl1⟩ := KidAt.cells (k := m.kk) (s := m.ks) (A := m.kA) (n := m.kids.length) (c := m.kc) hk1
  rw [HN.out, HMA.out, HMC.out, Nat.mul_comm 3 aj] at q2'
  have HK1 := Lib.hid hk1
  have HM1 := Lib.hid hm1
  have HP1 := Lib.hid hp1
  have HF1 := Lib.hid hf1
  clear hk1 hm1 hp1 hf1 hsv1 q0 q1 hW1 hown5 hgrow5 hat5 hc5 hf5 hl5 q2 hlt5
  go_wp2_with fail
  go_loopw [18] (fun i wr => ∃ (k : Nat) (sv' : Value), k ≤ n ∧ i = .int .i64 (k : Int) ∧ PtrAt wr po sv' (l ++ [(ab, aj)] ++ kidsAddrs (kidG m) 0 (m.kids.take k)) ∧ Fl po W1 wr sv1 sv') (fun i _ => n - (intOf i).toNat)
  case atStart => exact ⟨0, sv1, by omega, rfl, by simpa [kidsAddrs] using HP1.out, Fl.refl _ _ _⟩
  case round =>
    obtain ⟨k, sv', hk, rfl, hpr, hfr⟩ := hrel
    obtain ⟨wo, rfl⟩ : ∃ wo : World, wo = wr := ⟨_, rfl⟩
    have hkr := hfr.kid HP1.out HK1.out
    have hmr := hfr.mt HP1.out HM1.out
    obtain ⟨q0, q1, q2, hglr⟩ := KidAt.cells (k := m.kk) (s := m.ks) (A := m.kA) (n := m.kids.length) (c := m.kc) hkr
    rw [HN.out, HMA.out, HMC.out, Nat.mul_comm 3 aj] at q2
    by_cases hlt : k < n
    · have hkn : k < m.kids.length := by rw [HN.out]; exact hlt
      obtain ⟨g, hgA, hgb, hgc, hkid, hkh⟩ := hmr.kid hkn
      have e := HMA.out.symm.trans hgA
      subst e
      have hG := kidG_eq hgA
      have hls : (l ++ [(ab, aj)] ++ kidsAddrs (kidG m) 0 (m.kids.take k)).length + (m.kids[k]).w.size ≤ 100000 := by
        have h1 : (kidsAddrs (kidG m) 0 (m.kids.take (k + 1))).length + 1 ≤ m.w.size := by
          have h2 := m.addrs_len (0, 0)
          rw [addrs_kids] at h2
          have h3 : (kidsAddrs (kidG m) 0 (m.kids.take (k + 1))).length ≤ (kidsAddrs (kidG m) 0 m.kids).length := by
            have : ∀ (l1 l2 : List Mt) (j : Nat), (kidsAddrs (kidG m) j l1).length ≤ (kidsAddrs (kidG m) j (l1 ++ l2)).length := by
              intro l1 l2
              induction l1 with
              | nil => intro j; simp [kidsAddrs]
              | cons x l1 ih => intro j; have := ih (j + 1); simp [kidsAddrs]; exact this
            have h4 := this (m.kids.take (k + 1)) (m.kids.drop (k + 1)) 0
            rwa [List.take_append_drop] at h4
          simp at h2; omega
        rw [List.take_succ_eq_append_getElem hkn, kidsAddrs_snoc, List.length_append, Mt.addrs_len] at h1
        have := HLEN.out
        simp at h1 ⊢; omega
      have hcall := HIH.out m.kids[k] (List.getElem_mem hkn) (g, k) _ po sv' wo hkid hkh hpr hls
      unfold ptrV at hcall
      dsimp only at hcall
      have hfin : l ++ [(ab, aj)] ++ kidsAddrs (kidG m) 0 (m.kids.take k) ++ (m.kids[k]).addrs (g, k) = l ++ [(ab, aj)] ++ kidsAddrs (kidG m) 0 (m.kids.take (k + 1)) := by
        rw [List.take_succ_eq_append_getElem hkn, kidsAddrs_snoc, hG, List.length_take, Nat.min_eq_left (by omega)]; simp
      rw [hfin] at hcall
      have hgl2 := hkid.lt
      have HC := Lib.hid hcall
      have HFR := Lib.hid hfr
      have HPR := Lib.hid hpr
      clear hcall hfr hpr hkr hmr hkid hkh hG hls hfin hgA hgb hgc q0 q1
      go_wp2_with fail
      refine HC.out.mono ?_
      rintro e w7 ⟨⟨v7, rfl⟩, sv7, hp7, hf7⟩
      have HP7 := Lib.hid hp7
      have HF7 := Lib.hid (HFR.out.trans hf7)
      clear hp7 hf7
      go_wp2_with fail
      go_roundw
      case rel => exact ⟨k + 1, sv7, by omega, by go_num, HP7.out, HF7.out⟩
      case measure => simp [intOf]; omega
    · have hkn : k = n := by omega
      have HPR := Lib.hid hpr
      have HFR := Lib.hid hfr
      have HKN := Lib.hid hkn
      clear hpr hfr hkr hmr hkn q0 q1
      go_wp2_with fail
      go_end0
      refine ⟨⟨_, rfl⟩, sv', ?_, HF1.out.trans HFR.out⟩
      have e : m.addrs (ab, aj) = (ab, aj) :: kidsAddrs (kidG m) 0 (m.kids.take k) := by
        rw [addrs_kids, HKN.out, ← HN.out, List.take_length]
      rw [e]
      have := HPR.out
      simpa using this
theorem wparts_any : ∀ m : Mt, PartsOk m := Mt.ind parts_step
end Go.Proofs.YtccknopchddicaaGreatDoor
/- contract: wSwap, over whatever rule. -/
namespace Go.Proofs.YtccknopchddicaaGreatDoor
open Go.RowKit Stile
/-- a function value that answers as the rule does, in every world above w0 -/
def ByOk (ks : Int → Bool) (mm : Int) (w0 : World) (sf : Nat) (caps : Array Value) (byT : W → Option W) : Prop :=
  ∀ (m : Mt) (w : World), Below w0.heap.size w0 w → m.has w → m.w.ok ks mm → m.w.size ≤ 100 →
    Calls Tryz.prog sf (#[m.val] ++ caps) w fun e w' => Below w.heap.size w w' ∧ ∃ m' : Mt, e = .returned (.tuple #[m'.val, .bool (byT m.w).isSome]) ∧
      ∀ u, byT m.w = some u → m'.w = u ∧ m'.has w' ∧ ∀ g ∈ m'.blks, g ∈ m.blks ∨ w.heap.size ≤ g ∨ g < w0.heap.size
/-- what wSwap answers -/
def swapR (f : List Nd) (which : Int) (byT : W → Option W) : Option W := if 100 < (tree f).size then none else swapT (tree f) which byT
def SwapOut (R : Option W) (w : World) (e : Ending) (w' : World) : Prop := Below w.heap.size w w' ∧ ∃ gv b, e = .returned (.tuple #[gv, .bool b]) ∧
      (R = none → b = false) ∧ ∀ u, R = some u → b = decide ((u.flat 0).length ≤ 40) ∧ RdN w' w'.heap.size gv (u.flat 0)
theorem get_size : ∀ (t : W) (p : List Bool), (t.get p).size ≤ t.size := by
  intro t
  induction t with
  | n0 k s => intro p; rcases p with _ | ⟨_ | _, p⟩ <;> exact Nat.le_refl _
  | n1 k x ih =>
    intro p
    rcases p with _ | ⟨_ | _, p⟩
    · exact Nat.le_refl _
    · have := ih p; simp only [W.get, W.size]; omega
    · exact Nat.le_refl _
  | n2 k x y ih1 ih2 =>
    intro p
    rcases p with _ | ⟨_ | _, p⟩
    · exact Nat.le_refl _
    · have := ih1 p; simp only [W.get, W.size]; omega
    · have := ih2 p; simp only [W.get, W.size]; omega
theorem put_size (z : W) : ∀ (t : W) (p : List Bool), (t.put p z).size ≤ t.size + z.size := by
  intro t
  induction t with
  | n0 k s => intro p; rcases p with _ | ⟨_ | _, p⟩ <;> simp [W.put, W.size] <;> omega
  | n1 k x ih =>
    intro p
    rcases p with _ | ⟨_ | _, p⟩
    · simp [W.put]
    · have := ih p; simp only [W.put, W.size]; omega
    · simp [W.put]
  | n2 k x y ih1 ih2 =>
    intro p
    rcases p with _ | ⟨_ | _, p⟩
    · simp [W.put]
    · have := ih1 p; simp only [W.put, W.size]; omega
    · have := ih2 p; simp only [W.put, W.size]; omega
theorem own_ptr {w : World} {base n : Nat} {v : Value} {l : List (Nat × Nat)} (h : w.ownsRow base 43 1 v n (l.map ptrV)) (hn : l.length = n) {j : Nat} (hj : j < n) : ∃ g c, v = .slice (some ⟨g, 0, none⟩) n c ∧ n ≤ c ∧ g < w.heap.size ∧ w.cell? ⟨g, j, none⟩ = some (ptrV (l.getD j (0, 0))) := by
  rcases h.2 with ⟨_, e⟩ | ⟨g, cap, cur, e, hbs, hh, hnc, _, hsz, ht⟩
  · omega
  · refine ⟨g, cap, e, hnc, lt_blk hh, ?_⟩
    rw [fld_cell hh]
    have q : (l.map ptrV)[j]? = some (ptrV (l.getD j (0, 0))) := by
      simp [List.getD, show j < l.length by omega]
    rw [← ht, List.getElem?_take, if_pos (by omega)] at q
    simpa using q
theorem put_at3 {W : World} {ab aj : Nat} {cur : Array Value} {v0 c0 c1 c2 : Value} (h : W.heap[ab]? = some (.cells cur 29 (0, 0))) (hk : KidAt W ab aj v0) :
    Mt.PutAt W (((W.setCell ⟨ab, aj * 3, none⟩ c0).setCell ⟨ab, aj * 3 + 1, none⟩ c1).setCell ⟨ab, aj * 3 + 2, none⟩ c2) (ab, aj) (.agg #[c0, c1, c2]) := by
  have hb := fld_set (fld_set (fld_set h (aj * 3) c0) (aj * 3 + 1) c1) (aj * 3 + 2) c2
  obtain ⟨d0, d1, d2, cur', _, h', e0, e1, e2⟩ := hk
  rw [h] at h'
  injection h' with h'
  injection h' with h'
  subst h'
  have s0 := (Array.getElem?_eq_some_iff.1 e0).1
  have s1 := (Array.getElem?_eq_some_iff.1 e1).1
  have s2 := (Array.getElem?_eq_some_iff.1 e2).1
  refine ⟨⟨c0, c1, c2, _, rfl, hb, ?_, ?_, ?_⟩, ?_, ?_⟩
  · simp [Array.getElem?_setIfInBounds, Nat.mul_comm 3 aj]; omega
  · simp [Array.getElem?_setIfInBounds, Nat.mul_comm 3 aj]; omega
  · simp [Array.getElem?_setIfInBounds, Nat.mul_comm 3 aj]; omega
  · rintro j u hj ⟨f0, f1, f2, cur2, rfl, g0, g1, g2, g3⟩
    dsimp only at hj g0
    rw [h] at g0
    injection g0 with g0
    injection g0 with g0
    subst g0
    refine ⟨f0, f1, f2, _, rfl, hb, ?_, ?_, ?_⟩
    · rw [← g1]; simp only [Array.set!_eq_setIfInBounds, Array.getElem?_setIfInBounds]; rw [if_neg (by omega), if_neg (by omega), if_neg (by omega)]
    · rw [← g2]; simp only [Array.set!_eq_setIfInBounds, Array.getElem?_setIfInBounds]; rw [if_neg (by omega), if_neg (by omega), if_neg (by omega)]
    · rw [← g3]; simp only [Array.set!_eq_setIfInBounds, Array.getElem?_setIfInBounds]; rw [if_neg (by omega), if_neg (by omega), if_neg (by omega)]
  · intro b hb'
    have e : ∀ (w1 : World) k u, (w1.setCell ⟨ab, k, none⟩ u).heap[b]? = w1.heap[b]? := fun w1 k u => Below.heap_setCell w1 _ _ _ hb'
    rw [e, e, e]
set_option maxRecDepth 100000 in
set_option maxHeartbeats 3200000 in
theorem swap_any {ks : Int → Bool} {mm : Int} (hks : ∀ k, ks k = true → anyK k = true) (f : List Nd) (fv : Value) (which : Int) (sf : Nat) (caps : Array Value) (byT : W → Option W) (w : World) (hf : RdN w w.heap.size fv f) (hok : okF ks mm f) (hn0 : 0 < f.length) (hn : f.length ≤ 40)
    (hw0 : -9223372036854775808 ≤ which) (hw1 : which ≤ 9223372036854775807) (hsf : ∀ args W, (callFunc sf args).run Tryz.prog W = .ok (.enter sf args) W) (hby : ByOk ks mm w sf caps byT) (hbs : ∀ t u, byT t = some u → t.size ≤ 100 → u.size ≤ 1000) :
    Calls Tryz.prog 14 #[fv, .int .i64 which, .func (.func sf) #[] caps] w (SwapOut (swapR f which byT) w) := by
  have hof := of_all hks f hok hn (f.length - 1) (by omega)
  have htw : getW (treesL f) ((f.length - 1 : Nat) : Int) = tree f := by unfold tree; congr 1; omega
  unfold OfOk at hof
  rw [htw] at hof
  have htok := tree_ok hks f hok (by intro e; rw [e] at hn0; simp at hn0)
  obtain ⟨R, hR⟩ : ∃ R, swapR f which byT = R := ⟨_, rfl⟩
  rw [hR]
  obtain ⟨T, hT⟩ : ∃ T, tree f = T := ⟨_, rfl⟩
  rw [hT] at hof htok
  have hof1 := hof fv w.heap.size 100 (w.alloc (Obj.cells #[.int .i64 100] 3)) (Rd.below hf ((Below.refl _ _).alloc (Nat.le_refl _) _)) (heap_new _ _) (by omega) (by omega)
  obtain ⟨fA, fc, rfl, hfc, hfrest⟩ := id hf
  clear hfrest
  obtain ⟨n, hnl⟩ : ∃ n, f.length = n := ⟨_, rfl⟩
  rw [hnl] at hof1 hfc hn0 hn ⊢
  have HOF := Lib.hid hof1
  have HTOK := Lib.hid htok
  have HR := Lib.hid hR
  have HT := Lib.hid hT
  have HBY := Lib.hid hby
  have HBS := Lib.hid hbs
  have hcast : ((n - 1 : Nat) : Int) = (n : Int) - 1 := by omega
  rw [hcast] at HOF
  clear hof htw hof1 htok hR hT hby hbs hf hok hcast hnl
  go_enter Tryz.func14, Tryz.ntmps14
  go_wp2_with fail
  refine HOF.out.mono ?_
  rintro e w2 ⟨v2, rfl, hop, ⟨vk, vs, vA, vn, vc, rfl⟩, hd⟩
  have HOP := Lib.hid hop
  have HD := Lib.hid hd
  clear hop hd
  go_upto_region 3 with fail
  obtain ⟨W3, hW3⟩ : ∃ W3, w2.alloc (Obj.cells #[.int .i64 vk, .int .i64 vs, .slice vA vn vc] 29) = W3 := ⟨_, rfl⟩
  have hb3 : Below w2.heap.size w2 W3 := by rw [← hW3]; exact (Below.refl _ _).alloc (Nat.le_refl _) _
  have hr3 : W3.heap[w2.heap.size]? = some (Obj.cells #[.int .i64 vk, .int .i64 vs, .slice vA vn vc] 29) := by rw [← hW3]; exact heap_new _ _
  have hs2 : w.heap.size + 1 ≤ w2.heap.size := by have := HOP.out.below.size; simpa using this
  have hbw3 : Below w.heap.size w W3 := by
    have h1 : Below w.heap.size w (w.alloc (Obj.cells #[.int .i64 100] 3)) := (Below.refl _ _).alloc (Nat.le_refl _) _
    exact (h1.trans HOP.out.below).trans (hb3.mono (by omega))
  rw [hW3]
  clear hW3
  have hlow : ∃ l2, W3.heap[w.heap.size]? = some (Obj.cells #[.int .i64 l2] 3) ∧ ((0 ≤ l2 ∧ T.size ≤ 100 ∧ Tk w2 T (w.heap.size + 1) w2.heap.size (.agg #[.int .i64 vk, .int .i64 vs, .slice vA vn vc])) ∨ (l2 < 0 ∧ 100 < T.size)) := by
    rcases HD.out with ⟨d1, d2, d3⟩ | ⟨d1, l', d2, d3, d4, d5⟩
    · refine ⟨_, (hb3.block _ (by omega)).trans d2, .inl ⟨by omega, by omega, ?_⟩⟩
      simpa using d3
    · exact ⟨l', (hb3.block _ (by omega)).trans d2, .inr ⟨d3, by omega⟩⟩
  obtain ⟨l2, hl2, hdd⟩ := hlow
  have hlc := fld_cell hl2 0
  simp at hlc
  have hs3 : w2.heap.size < W3.heap.size := lt_blk hr3
  have HBW3 := Lib.hid hbw3
  have HB3 := Lib.hid hb3
  have HR3 := Lib.hid hr3
  have HL2 := Lib.hid hl2
  clear hbw3 hb3 hr3 hl2
  rcases hdd with ⟨hl0, hT100, htk⟩ | ⟨hl0, hT100⟩
  · have hdec : decide (l2 < 0) = false := by simp; omega
    obtain ⟨m, hmw, hmv, hmh, hmb, hmn⟩ := Mt.of_tk _ _ _ _ htk
    have HMW := Lib.hid hmw
    have HMV := Lib.hid hmv
    have HMH := Lib.hid (hmh.made HB3.out)
    have HMB := Lib.hid hmb
    have HMN := Lib.hid hmn
    clear htk hmw hmv hmh hmb hmn
    go_upto_region 6 with fail
    obtain ⟨W5, hW5⟩ : ∃ W5, W3.alloc (Obj.cells #[.slice none 0 0] 41) = W5 := ⟨_, rfl⟩
    have hb5 : Below W3.heap.size W3 W5 := by rw [← hW5]; exact (Below.refl _ _).alloc (Nat.le_refl _) _
    have hp5 : PtrAt W5 W3.heap.size (.slice none 0 0) [] := ⟨by rw [← hW5]; exact heap_new _ _, World.ownsRow_nil _ _ _ _⟩
    have hr5 : W5.heap[w2.heap.size]? = some (Obj.cells #[.int .i64 vk, .int .i64 vs, .slice vA vn vc] 29) := (hb5.block _ hs3).trans HR3.out
    rw [hW5]
    clear hW5
    have hk5 : KidAt W5 (w2.heap.size, 0).1 (w2.heap.size, 0).2 m.val := by rw [HMV.out]; exact ⟨_, _, _, _, rfl, hr5, by simp, by simp, by simp⟩
    have hm5 := HMH.out.made hb5
    have hsz : m.w.size ≤ 100 := by rw [HMW.out]; exact hT100
    have hparts := wparts_any m (w2.heap.size, 0) [] W3.heap.size _ W5 hk5 hm5 hp5 (by simp; omega)
    unfold ptrV at hparts
    dsimp only at hparts
    have HPA := Lib.hid hparts
    have HP5 := Lib.hid hp5
    have HK5 := Lib.hid hk5
    have HM5 := Lib.hid hm5
    have HB5 := Lib.hid (HBW3.out.trans (hb5.mono (by have := HBW3.out.size; omega)))
    have HSZ := Lib.hid hsz
    clear hparts hp5 hk5 hm5 hb5 hr5 hsz
    go_wp2_with fail
    refine HPA.out.mono ?_
    rintro e w6 ⟨⟨v6, rfl⟩, sv6, hp6, hf6⟩
    have hk6 := hf6.kid HP5.out HK5.out
    have hm6 := hf6.mt HP5.out HM5.out
    have hb6 : Below w.heap.size w w6 := HB5.out.trans (hf6.below.mono (by have := HBW3.out.size; omega))
    have hr6s : w2.heap.size < w6.heap.size := hk6.lt
    rw [List.nil_append] at hp6
    obtain ⟨N, hN⟩ : ∃ N, m.w.size = N := ⟨_, rfl⟩
    have hLN : (m.addrs (w2.heap.size, 0)).length = N := by rw [Mt.addrs_len, hN]
    have hN100 : N ≤ 100 := by rw [← hN]; exact HSZ.out
    have hN1 : 0 < N := by rw [← hN]; exact W.size_pos _
    have hpn : m.w.paths.length = N := by rw [Mt.paths_len, hN]
    have hown6 := hp6.own
    rw [hLN] at hown6
    obtain ⟨sg, sc, rfl, hsc, hsg, _⟩ := own_ptr hown6 hLN hN1
    have hac := fld_cell hp6.blk 0
    simp at hac
    have hpl6 := lt_blk hp6.blk
    have hall : ∀ k (h : k < N), ∃ p, m.w.paths.take (k + 1) = m.w.paths.take k ++ [p] ∧ p ∈ m.w.paths ∧ w6.cell? ⟨sg, k, none⟩ = some (ptrV (m.addr (w2.heap.size, 0) p)) := fun k h => by
      refine ⟨m.w.paths[k]'(by omega), List.take_succ_eq_append_getElem (by omega), List.getElem_mem (by omega), ?_⟩
      obtain ⟨g, c, e1, _, _, e2⟩ := own_ptr hown6 hLN h
      injection e1 with e1
      injection e1 with e1
      injection e1 with e1
      rw [e1, e2]
      simp [Mt.addrs, List.getD, show k < m.w.paths.length by omega]
    have HK6 := Lib.hid hk6
    have HM6 := Lib.hid hm6
    have HB6 := Lib.hid hb6
    have HALL := Lib.hid hall
    have HPN := Lib.hid hpn
    have HNN := Lib.hid hN
    clear hk6 hm6 hb6 hall hp6 hf6 hown6 hLN hpn hN HP5 HK5 HM5 HPA HB5
    obtain ⟨i0, hi0, hz0, hz1, hz2⟩ := info_parts info_ptr
    go_wp2_with fail
    go_loopw [11, 30] (fun v i wr => ∃ (k : Nat), k ≤ N ∧ i = .int .i64 (k : Int) ∧ Below w6.heap.size w6 wr ∧
      wr.ownsRow w6.heap.size 43 1 v ((m.w.paths.take k).filter fun p => (byT (m.w.get p)).isSome).length ((((m.w.paths.take k).filter fun p => (byT (m.w.get p)).isSome).map (m.addr (w2.heap.size, 0))).map ptrV)) (fun _ i _ => N - (intOf i).toNat)
    case atStart => exact ⟨0, by omega, rfl, Below.refl _ _, World.ownsRow_nil _ _ _ _⟩
    case round =>
      obtain ⟨k, hk, rfl, hbr, hown⟩ := hrel
      obtain ⟨wo, rfl⟩ : ∃ wo : World, wo = wr := ⟨_, rfl⟩
      have hwsz := hbr.size
      by_cases hlt : k < N
      · obtain ⟨p, htk, hpm, hcell⟩ := HALL.out k hlt
        have hcw := (hbr.cell (p := ⟨sg, k, none⟩) hsg).trans hcell
        obtain ⟨hka, hxh, hxb, _⟩ := Mt.at_path m (w2.heap.size, 0) p hpm HK6.out HM6.out
        have hxw := Mt.get_w m p
        obtain ⟨x, hx⟩ : ∃ x, m.get p = x := ⟨_, rfl⟩
        obtain ⟨⟨ab, aj⟩, ha⟩ : ∃ a, m.addr (w2.heap.size, 0) p = a := ⟨_, rfl⟩
        rw [hx] at hka hxh hxw
        rw [ha] at hka hcw
        have hkw : KidAt wo ab aj x.val := hka.keep (hbr.block _ hka.lt)
        have hxhw : x.has wo := hxh.made hbr
        have hcall := HBY.out x wo (HB6.out.trans (hbr.mono (by have := HB6.out.size; omega))) hxhw (by rw [hxw, HMW.out]; exact get_ok _ _ HTOK.out) (by rw [hxw]; have := get_size m.w p; have := HSZ.out; omega)
        rw [hxw] at hcall
        rw [Mt.val] at hcall
        obtain ⟨q0, q1, q2, hgl⟩ := KidAt.cells (k := x.kk) (s := x.ks) (A := x.kA) (n := x.kids.length) (c := x.kc) hkw
        obtain ⟨xn, hxn⟩ : ∃ xn, x.kids.length = xn := ⟨_, rfl⟩
        obtain ⟨xk, hxk⟩ : ∃ k, x.kk = k := ⟨_, rfl⟩
        obtain ⟨xs, hxs⟩ : ∃ k, x.ks = k := ⟨_, rfl⟩
        obtain ⟨xA, hxA⟩ : ∃ k, x.kA = k := ⟨_, rfl⟩
        obtain ⟨xc, hxc⟩ : ∃ k, x.kc = k := ⟨_, rfl⟩
        rw [hxn, hxk, hxs, hxA, hxc] at hcall
        rw [hxn, hxA, hxc] at q2
        rw [hxk] at q0
        rw [hxs] at q1
        rw [Nat.mul_comm 3 aj] at q0 q1 q2
        obtain ⟨bb, hbb⟩ : ∃ bb, (byT (m.w.get p)).isSome = bb := ⟨_, rfl⟩
        rw [hbb] at hcall
        unfold ptrV at hcw
        dsimp only at hcw
        have hcnt : ((m.w.paths.take k).filter fun p => (byT (m.w.get p)).isSome).length ≤ k := Nat.le_trans (List.length_filter_le _ _) (List.length_take_le _ _)
        have hsuc : (m.w.paths.take (k + 1)).filter (fun p => (byT (m.w.get p)).isSome) = (m.w.paths.take k).filter (fun p => (byT (m.w.get p)).isSome) ++ (if bb then [p] else []) := by
          rw [htk, List.filter_append]; simp [List.filter_cons, hbb]
        obtain ⟨F, hF⟩ : ∃ F, (m.w.paths.take k).filter (fun p => (byT (m.w.get p)).isSome) = F := ⟨_, rfl⟩
        rw [hF] at hown hcnt hsuc
        obtain ⟨FN, hFN⟩ : ∃ n, F.length = n := ⟨_, rfl⟩
        rw [hFN] at hown hcnt
        have HC := Lib.hid hcall
        have HOWN := Lib.hid hown
        have HBR := Lib.hid hbr
        have HSUC := Lib.hid hsuc
        have HA := Lib.hid ha
        have HFN := Lib.hid hFN
        clear hcell hka hxh hxb hxw hx ha hkw hxhw hcall hbr hown hpm hxn hxk hxs hxA hxc hbb htk hsuc hF hFN
        go_wp2_with fail
        refine HC.out.mono ?_
        rintro e w7 ⟨hb7, m7, he, _⟩
        rw [Mt.val] at he
        obtain ⟨yn, hyn⟩ : ∃ yn, m7.kids.length = yn := ⟨_, rfl⟩
        obtain ⟨yk, hyk⟩ : ∃ k, m7.kk = k := ⟨_, rfl⟩
        obtain ⟨ys, hys⟩ : ∃ k, m7.ks = k := ⟨_, rfl⟩
        obtain ⟨yA, hyA⟩ : ∃ k, m7.kA = k := ⟨_, rfl⟩
        obtain ⟨yc, hyc⟩ : ∃ k, m7.kc = k := ⟨_, rfl⟩
        rw [hyn, hyk, hys, hyA, hyc] at he
        subst he
        have hsz7 := hb7.size
        have HB7 := Lib.hid hb7
        clear hb7 hyn hyk hys hyA hyc
        cases bb
        · go_wp2_with fail
          go_roundw
          case rel =>
            have hb8 : Below wo.heap.size wo (w7.alloc (Obj.cells #[.int .i64 yk, .int .i64 ys, .slice yA yn yc] 29)) := HB7.out.alloc (by omega) _
            refine ⟨k + 1, by omega, by go_num, HBR.out.trans (hb8.mono hwsz), ?_⟩
            have e := HSUC.out
            simp only [Bool.false_eq_true, if_false, List.append_nil] at e
            rw [e, HFN.out]
            exact own_below HOWN.out hb8
          case measure => simp [intOf]; omega
        · obtain ⟨lA, lc, rfl⟩ := own_shape HOWN.out
          have hown7 := (own_below HOWN.out HB7.out).alloc (Obj.cells #[.int .i64 yk, .int .i64 ys, .slice yA yn yc] 29)
          have HOWN7 := Lib.hid hown7
          clear hown7
          go_wp2_with (at_builtin; refine wpList_append_lies _ rfl _ _ 41 rfl w6.heap.size 43 i0 _ 1 8 Tryz.underlying41 hi0 hz0 hz1 hz2 rfl (by decide) (.slice lA FN lc) FN _ rfl (HOWN7.out.alloc _) ⟨w7.heap.size + 1, 0, none⟩ 1 1 [.pointer (some ⟨ab, aj * 3, none⟩)] rfl rfl (by have h := cell_one_new (w7.alloc (Obj.cells #[.int .i64 yk, .int .i64 ys, .slice yA yn yc] 29)) (.pointer (some ⟨ab, aj * 3, none⟩)) 43; simpa using h) (by simp [Value.oneCell']) (by decide) (by unfold maxLen; omega) (by omega) (by simp; omega) _ rfl ?_; intro g' cap' w8 hown8 hgrow8 hat8 hlt8)
          go_roundw
          case rel =>
            have hb8 : Below w6.heap.size w6 w8 := by
              have h1 : Below wo.heap.size wo (w7.alloc (Obj.cells #[.int .i64 yk, .int .i64 ys, .slice yA yn yc] 29)) := HB7.out.alloc (by omega) _
              have h2 := (HBR.out.trans (h1.mono hwsz)).alloc (by simp; omega) (Obj.cells #[.pointer (some ⟨ab, aj * 3, none⟩)] 43)
              exact h2.grown hgrow8 (by simp; omega) (fun b hb => (HOWN7.out.lt b hb).1)
            refine ⟨k + 1, by omega, by go_num, hb8, ?_⟩
            have e := HSUC.out
            simp only [if_true] at e
            rw [e, List.length_append, HFN.out, List.map_append, List.map_append]
            simp only [List.map_cons, List.map_nil, HA.out]
            exact hown8
          case measure => simp [intOf]; omega
      · have hkN : k = N := by omega
        subst hkN
        rw [← HPN.out, List.take_length] at hown
        have hfit : (m.w.paths.filter fun p => (byT (m.w.get p)).isSome) = fitting T byT := by rw [fitting, HMW.out]
        rw [hfit] at hown
        obtain ⟨F, hF⟩ : ∃ F, fitting T byT = F := ⟨_, rfl⟩
        rw [hF] at hown
        obtain ⟨FN, hFN⟩ : ∃ n, F.length = n := ⟨_, rfl⟩
        rw [hFN] at hown
        have hFN100 : FN ≤ 100 := by
          have h1 : F.length ≤ m.w.paths.length := by rw [← hF, fitting, HMW.out]; exact List.length_filter_le _ _
          have := HPN.out; omega
        obtain ⟨lA, lc, rfl⟩ := own_shape hown
        have hB' : Below w.heap.size w wo := HB6.out.trans (hbr.mono (by have := HB6.out.size; omega))
        have HOWN := Lib.hid hown
        have HBR := Lib.hid hbr
        have HF := Lib.hid hF
        have HFN := Lib.hid hFN
        have HB' := Lib.hid hB'
        clear hown hbr hfit hF hFN hB'
        by_cases hz : FN = 0
        · subst hz
          have hRn : R = none := by rw [← HR.out, swapR, HT.out, if_neg (by omega), swapT, HF.out, if_pos HFN.out]
          subst hRn
          go_wp2_with fail
          go_ret2
          exact ⟨HB'.out, _, _, rfl, fun _ => rfl, fun u h => by cases h⟩
        · have hzb : ((FN : Int) == 0) = false := by simp; omega
          have hpr := pick_range (x := which) (n := (FN : Int)) (by omega)
          obtain ⟨J, hJ⟩ : ∃ J : Nat, pick which (FN : Int) = J := ⟨(pick which (FN : Int)).toNat, by omega⟩
          have hpick := fun W => pick_any which (FN : Int) W hw0 hw1 (by omega) (by omega)
          rw [hJ] at hpr hpick
          have HPICK := Lib.hid hpick
          have HJ := Lib.hid hJ
          have hJlt : J < FN := by omega
          clear hpick hJ hpr
          go_wp2_with fail
          refine (HPICK.out _).mono ?_
          rintro e w8 ⟨rfl, rfl⟩
          obtain ⟨g, c, e1, hgc, hgl, hcell⟩ := own_ptr (l := F.map (m.addr (w2.heap.size, 0))) HOWN.out (by rw [List.length_map]; exact HFN.out) hJlt
          injection e1 with eA _ ec
          subst eA ec
          have hJF : J < F.length := by rw [HFN.out]; exact hJlt
          obtain ⟨p, hp⟩ : ∃ p, F.getD J [] = p := ⟨_, rfl⟩
          have hpF : p ∈ fitting T byT := by
            rw [HF.out, ← hp, List.getD, List.getElem?_eq_getElem hJF]; exact List.getElem_mem hJF
          obtain ⟨hpm, hps⟩ := List.mem_filter.1 hpF
          obtain ⟨Y, hY⟩ := Option.isSome_iff_exists.1 hps
          rw [← HMW.out] at hpm hY
          have hRY : R = some (T.put p Y) := by
            rw [← HR.out, swapR, HT.out, if_neg (by omega), swapT, HF.out, if_neg (by rw [HFN.out]; exact hz), HFN.out, HJ.out]
            rw [show ((J : Int)).toNat = J by simp, hp, ← HMW.out, hY]; rfl
          obtain ⟨hka, hxh, hxb, hab⟩ := Mt.at_path m (w2.heap.size, 0) p hpm HK6.out HM6.out
          have hxw := Mt.get_w m p
          have hgd : (F.map (m.addr (w2.heap.size, 0))).getD J (0, 0) = m.addr (w2.heap.size, 0) p := by
            simp [List.getD, hJF, ← hp]
          rw [hgd] at hcell
          obtain ⟨x, hx⟩ : ∃ x, m.get p = x := ⟨_, rfl⟩
          obtain ⟨⟨ab, aj⟩, ha⟩ : ∃ a, m.addr (w2.heap.size, 0) p = a := ⟨_, rfl⟩
          rw [hx] at hka hxh hxw
          rw [ha] at hka hcell hab
          have hkw : KidAt wo ab aj x.val := hka.keep (HBR.out.block _ hka.lt)
          have hxhw : x.has wo := hxh.made HBR.out
          have hab2 : w.heap.size + 1 ≤ ab ∧ ab ≤ w2.heap.size := by
            simp only [List.mem_cons] at hab
            rcases hab with rfl | hab
            · omega
            · have := HMB.out ab hab; omega
          have hcopy := copy_any x wo hxhw
          rw [Mt.val] at hcopy
          obtain ⟨q0, q1, q2, hgl2⟩ := KidAt.cells (k := x.kk) (s := x.ks) (A := x.kA) (n := x.kids.length) (c := x.kc) hkw
          obtain ⟨xn, hxn⟩ : ∃ xn, x.kids.length = xn := ⟨_, rfl⟩
          obtain ⟨xk, hxk⟩ : ∃ k, x.kk = k := ⟨_, rfl⟩
          obtain ⟨xs, hxs⟩ : ∃ k, x.ks = k := ⟨_, rfl⟩
          obtain ⟨xA, hxA⟩ : ∃ k, x.kA = k := ⟨_, rfl⟩
          obtain ⟨xc, hxc⟩ : ∃ k, x.kc = k := ⟨_, rfl⟩
          rw [hxn, hxk, hxs, hxA, hxc] at hcopy
          rw [hxn, hxA, hxc] at q2
          rw [hxk] at q0
          rw [hxs] at q1
          rw [Nat.mul_comm 3 aj] at q0 q1 q2
          unfold ptrV at hcell
          dsimp only at hcell
          have HC := Lib.hid hcopy
          have HRY := Lib.hid hRY
          have HY := Lib.hid hY
          have HPM := Lib.hid hpm
          have HKW := Lib.hid hkw
          have HXW := Lib.hid hxw
          have HA := Lib.hid ha
          clear hcopy hRY hY hpm hkw hxw ha hp hpF hps hka hxh hxb hab hgd hx hxhw hxn hxk hxs hxA hxc hJF
          go_wp2_with fail
          refine HC.out.mono ?_
          rintro e w9 ⟨hb9, m9, he, hmw9, hmh9, hmb9⟩
          have hsz9 : m9.w.size ≤ 100 := by rw [hmw9, HXW.out]; have := get_size m.w p; have := HSZ.out; omega
          have hcall := HBY.out m9 w9 (HB'.out.trans (hb9.mono HB'.out.size)) hmh9 (by rw [hmw9, HXW.out, HMW.out]; exact get_ok _ _ HTOK.out) hsz9
          rw [hmw9, HXW.out, HY.out] at hcall
          have HBSY : Hid (Y.size ≤ 1000) := Lib.hid (HBS.out _ _ HY.out (by have := get_size m.w p; have := HSZ.out; omega))
          rw [Mt.val] at he hcall
          obtain ⟨yn, hyn⟩ : ∃ yn, m9.kids.length = yn := ⟨_, rfl⟩
          obtain ⟨yk, hyk⟩ : ∃ k, m9.kk = k := ⟨_, rfl⟩
          obtain ⟨ys, hys⟩ : ∃ k, m9.ks = k := ⟨_, rfl⟩
          obtain ⟨yA, hyA⟩ : ∃ k, m9.kA = k := ⟨_, rfl⟩
          obtain ⟨yc, hyc⟩ : ∃ k, m9.kc = k := ⟨_, rfl⟩
          rw [hyn, hyk, hys, hyA, hyc] at he hcall
          subst he
          have hw69 : wo.heap.size ≤ w9.heap.size := hb9.size
          have HC2 := Lib.hid hcall
          have HB9 := Lib.hid hb9
          have HMB9 := Lib.hid hmb9
          clear hcall hb9 hmb9 hmw9 hmh9 hsz9 hyn hyk hys hyA hyc
          go_wp2_with fail
          refine HC2.out.mono ?_
          rintro e w10 ⟨hb10, m10, he, hm10⟩
          obtain ⟨hmw10, hmh10, hmb10⟩ := hm10 Y rfl
          rw [Mt.val] at he
          have hval10 : m10.val = .agg #[.int .i64 m10.kk, .int .i64 m10.ks, .slice m10.kA m10.kids.length m10.kc] := rfl
          obtain ⟨zn, hzn⟩ : ∃ yn, m10.kids.length = yn := ⟨_, rfl⟩
          obtain ⟨zk, hzk⟩ : ∃ k, m10.kk = k := ⟨_, rfl⟩
          obtain ⟨zs, hzs⟩ : ∃ k, m10.ks = k := ⟨_, rfl⟩
          obtain ⟨zA, hzA⟩ : ∃ k, m10.kA = k := ⟨_, rfl⟩
          obtain ⟨zc, hzc⟩ : ∃ k, m10.kc = k := ⟨_, rfl⟩
          rw [hzn, hzk, hzs, hzA, hzc] at he hval10
          subst he
          have hmb10' : ∀ g ∈ m10.blks, wo.heap.size ≤ g ∨ g < w.heap.size := fun g hg => by
            rcases hmb10 g hg with h | h | h
            · exact .inl (HMB9.out g h)
            · exact .inl (by omega)
            · exact .inr h
          have HB10 := Lib.hid (HB9.out.trans (hb10.mono hw69))
          have HMW10 := Lib.hid hmw10
          have HMH10 := Lib.hid hmh10
          have HMB10 := Lib.hid hmb10'
          have HV10 := Lib.hid hval10
          have hw610 : wo.heap.size ≤ w10.heap.size := HB10.out.size
          clear hb10 hm10 hmw10 hmh10 hmb10 hmb10' hval10 hzn hzk hzs hzA hzc q0 q1 q2 hcell
          go_upto_region 18 with fail
          obtain ⟨W11, hW11⟩ : ∃ W11, w10.alloc (Obj.cells #[.int .i64 zk, .int .i64 zs, .slice zA zn zc] 29) = W11 := ⟨_, rfl⟩
          have hb11 : Below w10.heap.size w10 W11 := by rw [← hW11]; exact (Below.refl _ _).alloc (Nat.le_refl _) _
          have hyb : W11.heap[w10.heap.size]? = some (Obj.cells #[.int .i64 zk, .int .i64 zs, .slice zA zn zc] 29) := by rw [← hW11]; exact heap_new _ _
          rw [hW11]
          clear hW11
          have HB11 := Lib.hid (HB10.out.trans (hb11.mono hw610))
          have hmh11 := HMH10.out.made hb11
          obtain ⟨_, _, _, cur, _, habk, _⟩ := id HKW.out
          have hab11 := (HB11.out.block ab hgl2).trans habk
          have hkw11 : KidAt W11 ab aj x.val := HKW.out.keep (HB11.out.block ab hgl2)
          obtain ⟨q0, q1, q2, hgl11⟩ := KidAt.cells (k := x.kk) (s := x.ks) (A := x.kA) (n := x.kids.length) (c := x.kc) hkw11
          rw [Nat.mul_comm 3 aj] at q0 q1 q2
          have f0 := fld_frozen hab11 (aj * 3)
          have f1 := fld_frozen hab11 (aj * 3 + 1)
          have f2 := fld_frozen hab11 (aj * 3 + 2)
          have y0 := fld_cell hyb 0
          have y1 := fld_cell hyb 1
          have y2 := fld_cell hyb 2
          have hyl := lt_blk hyb
          simp at y0 y1 y2
          obtain ⟨X0, hX0⟩ : ∃ X, Value.int .i64 x.kk = X := ⟨_, rfl⟩
          obtain ⟨X1, hX1⟩ : ∃ X, Value.int .i64 x.ks = X := ⟨_, rfl⟩
          obtain ⟨X2, hX2⟩ : ∃ X, Value.slice x.kA x.kids.length x.kc = X := ⟨_, rfl⟩
          rw [hX0] at q0
          rw [hX1] at q1
          rw [hX2] at q2
          have HM11 := Lib.hid hmh11
          have HAB11 := Lib.hid hab11
          clear hb11 hyb hmh11 habk hab11 hkw11 hX0 hX1 hX2
          go_upto_region 19 with fail
          have hput := put_at3 (c0 := .int .i64 zk) (c1 := .int .i64 zs) (c2 := .slice zA zn zc) HAB11.out (HKW.out.keep (HB11.out.block ab hgl2))
          have hbl : Below (w.heap.size + 1) W11 (((W11.setCell ⟨ab, aj * 3, none⟩ (.int .i64 zk)).setCell ⟨ab, aj * 3 + 1, none⟩ (.int .i64 zs)).setCell ⟨ab, aj * 3 + 2, none⟩ (.slice zA zn zc)) := (((Below.refl _ _).setCell hab2.1 _).setCell hab2.1 _).setCell hab2.1 _
          obtain ⟨W12, hW12⟩ : ∃ W12, ((W11.setCell ⟨ab, aj * 3, none⟩ (.int .i64 zk)).setCell ⟨ab, aj * 3 + 1, none⟩ (.int .i64 zs)).setCell ⟨ab, aj * 3 + 2, none⟩ (.slice zA zn zc) = W12 := ⟨_, rfl⟩
          rw [hW12] at hput hbl ⊢
          clear hW12
          have hb6w : Below w6.heap.size w6 W11 := HBR.out.trans (HB11.out.mono hwsz)
          have hz12 : m10.has W12 := HM11.out.keep fun b hb => hput.other b fun e => by
            have e : b = ab := e
            rcases HMB10.out b hb with h | h <;> omega
          rw [← HV10.out] at hput
          rw [← HA.out] at hput
          obtain ⟨hkU, hmU⟩ := Mt.put_has m (w2.heap.size, 0) p HPM.out (HK6.out.keep (hb6w.block _ HK6.out.lt)) (HM6.out.made hb6w) (fun h => by have := HMB.out _ h; dsimp only at this; omega) HMN.out hput hz12
          have hUw : (m.put p m10).w = T.put p Y := by rw [Mt.put_w, HMW.out, HMW10.out]
          obtain ⟨U, hU⟩ : ∃ U, m.put p m10 = U := ⟨_, rfl⟩
          rw [hU] at hkU hmU hUw
          have hUs : U.w.size ≤ 1100 := by
            rw [hUw]; have := put_size Y T p; have := HBSY.out; omega
          have hU12 : Below w.heap.size w W12 := ((HB'.out.trans (HB11.out.mono HB'.out.size)).trans (hbl.mono (by omega)))
          have HKU := Lib.hid hkU
          have HMU := Lib.hid hmU
          have HUW := Lib.hid hUw
          have HUS := Lib.hid hUs
          have HU12 := Lib.hid hU12
          clear hput hbl hb6w hz12 hkU hmU hUw hU hUs hU12 q0 q1 q2 f0 f1 f2 y0 y1 y2 hyl
          go_upto_region 20 with fail
          obtain ⟨W13, hW13⟩ : ∃ W13, W12.alloc (Obj.cells #[.slice none 0 0] 22) = W13 := ⟨_, rfl⟩
          have hb13 : Below W12.heap.size W12 W13 := by rw [← hW13]; exact (Below.refl _ _).alloc (Nat.le_refl _) _
          have ho13 : OutAt W13 W12.heap.size (.slice none 0 0) [] := ⟨by rw [← hW13]; exact heap_new _ _, World.ownsRow_nil _ _ _ _⟩
          rw [hW13]
          clear hW13
          have hkU := HKU.out.keep (hb13.block _ HKU.out.lt)
          have hmU := HMU.out.made hb13
          have htd := Mt.td (lo := 0) (hi := W13.heap.size) hmU (fun g hg => ⟨by omega, hmU.lt g hg⟩)
          have hflat := flat_all U.w U.val (.slice none 0 0) [] W12.heap.size W13.heap.size W13 htd (Nat.le_refl _) ho13 (by have := HUS.out; simp; omega)
          rw [Mt.val] at hflat
          obtain ⟨q0, q1, q2, hgl13⟩ := KidAt.cells (k := U.kk) (s := U.ks) (A := U.kA) (n := U.kids.length) (c := U.kc) hkU
          dsimp only at q0 q1 q2 hgl13
          simp only [Nat.mul_zero, Nat.zero_add] at q0 q1 q2
          obtain ⟨un, hun⟩ : ∃ yn, U.kids.length = yn := ⟨_, rfl⟩
          obtain ⟨uk, huk⟩ : ∃ k, U.kk = k := ⟨_, rfl⟩
          obtain ⟨us, hus⟩ : ∃ k, U.ks = k := ⟨_, rfl⟩
          obtain ⟨uA, huA⟩ : ∃ k, U.kA = k := ⟨_, rfl⟩
          obtain ⟨uc, huc⟩ : ∃ k, U.kc = k := ⟨_, rfl⟩
          rw [hun, huk, hus, huA, huc] at hflat
          rw [hun, huA, huc] at q2
          rw [huk] at q0
          rw [hus] at q1
          have HFL := Lib.hid hflat
          have HU13 := Lib.hid (HU12.out.trans (hb13.mono HU12.out.size))
          have h12 := HU12.out.size
          clear hkU hmU htd hflat hb13 ho13 hun huk hus huA huc
          go_wp2_with fail
          refine HFL.out.mono ?_
          rintro e w14 ⟨rfl, sv14, ho14, hf14⟩
          rw [List.nil_append] at ho14
          obtain ⟨L, hL⟩ : ∃ L, U.w.flat ([] : List Nd).length = L := ⟨_, rfl⟩
          rw [hL] at ho14
          obtain ⟨oA, oc, rfl⟩ := own_shape ho14.own
          obtain ⟨LN, hLN⟩ : ∃ n, L.length = n := ⟨_, rfl⟩
          have hLN2 : LN ≤ 1100 := by rw [← hLN, ← hL, W.flat_len]; exact HUS.out
          have hoc := fld_cell ho14.blk 0
          simp at hoc
          rw [hLN] at hoc
          have hol := lt_blk ho14.blk
          have hB14 : Below w.heap.size w w14 := HU13.out.trans (hf14.below.mono h12)
          have HO14 := Lib.hid ho14
          have HL := Lib.hid hL
          have HLN := Lib.hid hLN
          have HB14 := Lib.hid hB14
          clear ho14 hf14 hL hLN hB14 q0 q1 q2
          go_wp2_with fail
          go_quiet (fail)
          go_wp2_with fail
          go_ret2
          refine ⟨below_drewN HB14.out _, _, _, rfl, fun h => ?_, fun u h => ?_⟩
          · rw [HRY.out] at h; cases h
          · rw [HRY.out] at h
            injection h with h
            subst h
            have e : (T.put p Y).flat 0 = L := by rw [← HUW.out, ← HL.out]; rfl
            rw [e, HLN.out]
            refine ⟨by simp only [decide_eq_decide]; omega, ?_⟩
            have h1 := HO14.out.own
            have h2 := Rd.of_own h1 (fun j hj => ndCells_at L j hj)
            rw [HLN.out] at h2
            rw [RdN, HLN.out]
            exact h2
  · have hdec : decide (l2 < 0) = true := by simp; omega
    have hRn : R = none := by rw [← HR.out, swapR, HT.out, if_pos hT100]
    subst hRn
    go_wp2_with fail
    go_ret2
    exact ⟨HBW3.out, _, _, rfl, fun _ => rfl, fun u h => by cases h⟩
end Go.Proofs.YtccknopchddicaaGreatDoor
