/- contract: wParts. -/
import Derived.Test.YtccknopchddicaaT9
namespace Go.Proofs.Ytccknopchddicaa
open Go.RowKit Stile
theorem info_ptr : (Try.prog.info? 57).map (fun i => (i.zero, i.size, i.bytes)) = some (some (.pointer none), 1, 8) := by kernel_rfl
def ptrV (a : Nat × Nat) : Value := .pointer (some ⟨a.1, a.2 * 3, none⟩)
/-- a variable in block po holds the list of places -/
structure PtrAt (w : World) (po : Nat) (sv : Value) (l : List (Nat × Nat)) : Prop where
  blk : w.heap[po]? = some (Obj.cells #[sv] 55)
  own : w.ownsRow po 57 1 sv l.length (l.map ptrV)
theorem Fl.row {po : Nat} {w w' : World} {sv sv' : Value} {l : List (Nat × Nat)} (h : Fl po w w' sv sv') (ho : PtrAt w po sv l) {g : Nat} {cur : Array Value} (hc : w.heap[g]? = some (.cells cur 33 (0, 0))) : w'.heap[g]? = w.heap[g]? :=
  h.other g (lt_blk hc) (fun e => by subst e; exact blk_type ho.blk hc (by decide) rfl) (fun e => by
    obtain ⟨cur', hc'⟩ := own_blk ho.own e.symm
    exact blk_type hc hc' (by decide) rfl)
theorem Fl.kid {po : Nat} {w w' : World} {sv sv' : Value} {l : List (Nat × Nat)} (h : Fl po w w' sv sv') (ho : PtrAt w po sv l) {g j : Nat} {v : Value} (hk : KidAt w g j v) : KidAt w' g j v := by
  obtain ⟨_, _, _, cur, _, hc, _⟩ := id hk
  exact hk.keep (h.row ho hc)
theorem Fl.mt {po : Nat} {w w' : World} {sv sv' : Value} {l : List (Nat × Nat)} (h : Fl po w w' sv sv') (ho : PtrAt w po sv l) {m : Mt} (hm : m.has w) : m.has w' :=
  hm.keep fun g hg => by obtain ⟨cur, hc⟩ := hm.row g hg; exact h.row ho hc
theorem ptr_append {w w5 : World} {po g n : Nat} {sv : Value} {l : List (Nat × Nat)} {a : Nat × Nat} {cap : Nat} {o : Obj} (hn : l.length = n) (ho : PtrAt w po sv l) (hgrow : (w.alloc o).grownBy w5 sv.ownBlock)
    (hown : w5.ownsRow po 57 1 (.slice (some ⟨g, 0, none⟩) (n + 1) cap) (n + 1) (l.map ptrV ++ [ptrV a])) (hg : sv.ownBlock = some g ∨ g = w.heap.size + 1) :
    PtrAt (w5.setCell ⟨po, 0, none⟩ (.slice (some ⟨g, 0, none⟩) (n + 1) cap)) po (.slice (some ⟨g, 0, none⟩) (n + 1) cap) (l ++ [a]) ∧
    Fl po w (w5.setCell ⟨po, 0, none⟩ (.slice (some ⟨g, 0, none⟩) (n + 1) cap)) sv (.slice (some ⟨g, 0, none⟩) (n + 1) cap) := by
  subst hn
  obtain ⟨h1, h2⟩ := fld_grew (k := 0) (u := .slice (some ⟨g, 0, none⟩) (l.length + 1) cap) ho.blk ho.own hgrow hown (by decide)
  have hk := fld_keep ho.blk ho.own hgrow (by decide)
  refine ⟨⟨?_, ?_⟩, h2.below, fun b hb hne hs => ?_, ?_⟩
  · have := fld_set hk 0 (.slice (some ⟨g, 0, none⟩) (l.length + 1) cap)
    simpa using this
  · rw [List.map_append, List.length_append]; exact h1
  · exact (Below.heap_setCell w5 _ _ _ hne).trans ((hgrow.block b (by simp; omega) hs).trans (Below.heap_alloc w o b hb))
  · rcases hg with e | e
    · exact .inl e.symm
    · refine .inr fun g' hg' => ?_
      have : g = g' := by simpa [Value.ownBlock] using hg'
      omega
/-- the places of the parts from the j-th on -/
def kidsAddrs (g : Nat) : Nat → List Mt → List (Nat × Nat)
  | _, [] => []
  | j, x :: l => x.addrs (g, j) ++ kidsAddrs g (j + 1) l
theorem kidsAddrs_snoc (g : Nat) (x : Mt) : ∀ (l : List Mt) (j : Nat), kidsAddrs g j (l ++ [x]) = kidsAddrs g j l ++ x.addrs (g, j + l.length)
  | [], j => by simp [kidsAddrs]
  | y :: l, j => by
    have := kidsAddrs_snoc g x l (j + 1)
    simp only [List.cons_append, kidsAddrs, this, List.append_assoc, List.length_cons]
    rw [show j + 1 + l.length = j + (l.length + 1) by omega]
theorem kidsAddrs_nil (g j : Nat) : kidsAddrs g j [] = [] := rfl
def kidG (m : Mt) : Nat := (m.kA.map (·.block)).getD 0
theorem addrs_kids (m : Mt) (a) : m.addrs a = a :: kidsAddrs (kidG m) 0 m.kids := by
  cases m with
  | n0 k s => rfl
  | n1 k g c x => rw [Mt.addrs_n1]; simp [kidsAddrs, Mt.kids, kidG, Mt.kA]
  | n2 k g c x y => rw [Mt.addrs_n2]; simp [kidsAddrs, Mt.kids, kidG, Mt.kA]
theorem kidG_eq {m : Mt} {g : Nat} (h : m.kA = some ⟨g, 0, none⟩) : kidG m = g := by simp [kidG, h]
def PartsOk (m : Mt) : Prop := ∀ (a : Nat × Nat) (l : List (Nat × Nat)) (po : Nat) (sv : Value) (w : World), KidAt w a.1 a.2 m.val → m.has w → PtrAt w po sv l → l.length + m.w.size ≤ 100000 →
  Calls Try.prog 18 #[ptrV a, .pointer (some ⟨po, 0, none⟩)] w fun e w' => (∃ v, e = .returned v) ∧ ∃ sv', PtrAt w' po sv' (l ++ m.addrs a) ∧ Fl po w w' sv sv'
set_option maxRecDepth 100000 in
set_option maxHeartbeats 1600000 in
theorem parts_step (m : Mt) (ih : ∀ x ∈ m.kids, PartsOk x) : PartsOk m := by
  intro a l po sv w hk hm hp hlen
  obtain ⟨n, hn⟩ : ∃ n, m.kids.length = n := ⟨_, rfl⟩
  have hn2 : n ≤ 2 := by rw [← hn]; exact m.kids_le
  obtain ⟨q0, q1, q2, hgl⟩ := KidAt.cells (k := m.kk) (s := m.ks) (A := m.kA) (n := m.kids.length) (c := m.kc) hk
  rw [hn] at q2
  obtain ⟨mA, hmA⟩ : ∃ k, m.kA = k := ⟨_, rfl⟩
  obtain ⟨mc, hmc⟩ : ∃ k, m.kc = k := ⟨_, rfl⟩
  have hnc : n ≤ mc ∨ n = 0 := by
    rcases Nat.eq_zero_or_pos n with h | h
    · exact .inr h
    · obtain ⟨_, _, _, h3, _⟩ := hm.kid (j := 0) (by omega)
      exact .inl (by omega)
  rw [hmA, hmc] at q2
  obtain ⟨ab, aj⟩ := a
  dsimp only at q0 q1 q2 hgl hk
  rw [Nat.mul_comm 3 aj] at q0 q1 q2
  obtain ⟨ln, hln⟩ : ∃ n, l.length = n := ⟨_, rfl⟩
  obtain ⟨sA, sc, rfl⟩ : ∃ A c, sv = .slice A ln c := by rw [← hln]; exact own_shape hp.own
  have hlen' : ln + n + 1 ≤ 100000 := by
    have hs : m.kids.length + 1 ≤ m.w.size := by
      cases m with
      | n0 k s => simp [Mt.kids, Mt.w, W.size]
      | n1 k g c x => have := x.w.size_pos; simp [Mt.kids, Mt.w, W.size]; omega
      | n2 k g c x y => have := x.w.size_pos; have := y.w.size_pos; simp [Mt.kids, Mt.w, W.size]; omega
    omega
  have hcp := fld_cell hp.blk 0
  simp at hcp
  have hcf := fld_frozen hp.blk 0
  have hpl := lt_blk hp.blk
  have hown := hp.own
  rw [hln] at hown
  have HM := Lib.hid hm
  have HK := Lib.hid hk
  have HIH := Lib.hid ih
  have HN := Lib.hid hn
  have HMA := Lib.hid hmA
  have HMC := Lib.hid hmc
  have HP := Lib.hid hp
  have HLN := Lib.hid hln
  have HLEN := Lib.hid hlen
  have HOWN := Lib.hid hown
  clear hm hk ih hn hmA hmc hp hln hlen hown q0 q1
  obtain ⟨i0, hi0, hz0, hz1, hz2⟩ := info_parts info_ptr
  unfold ptrV
  dsimp only
  go_enter Try.func18, Try.ntmps18
  go_upto_region 1 with (at_builtin; refine wpList_append_lies _ rfl _ _ 55 rfl po 57 i0 _ 1 8 Try.underlying55 hi0 hz0 hz1 hz2 rfl (by decide) (.slice sA ln sc) ln _ rfl (HOWN.out.alloc _) ⟨w.heap.size, 0, none⟩ 1 1 [.pointer (some ⟨ab, aj * 3, none⟩)] rfl rfl (cell_one_new _ _ _) (by simp [Value.oneCell']) (by decide) (by unfold maxLen; omega) (by omega) (by simp; omega) _ rfl ?_; intro g' cap' w5 hown5 hgrow5 hat5 hlt5; have hk5 := fld_keep HP.out.blk HOWN.out hgrow5 (by decide); have hc5 := fld_cell hk5 0; simp at hc5; have hf5 := fld_frozen hk5 0; have hl5 := lt_blk hk5; clear hk5)
  obtain ⟨hp1, hf1⟩ := ptr_append (a := (ab, aj)) HLN.out HP.out hgrow5 hown5 (by rcases hat5 with e | e; exact .inl e; exact .inr (by rw [e]; simp))
  obtain ⟨W1, hW1⟩ : ∃ W1, w5.setCell ⟨po, 0, none⟩ (.slice (some ⟨g', 0, none⟩) (ln + 1) cap') = W1 := ⟨_, rfl⟩
  rw [hW1] at hp1 hf1 ⊢
  have hk1 := hf1.kid HP.out HK.out
  have hm1 := hf1.mt HP.out HM.out
  have hp1l := lt_blk hp1.blk
  obtain ⟨sv1, hsv1⟩ : ∃ sv1, Value.slice (some ⟨g', 0, none⟩) (ln + 1) cap' = sv1 := ⟨_, rfl⟩
  rw [hsv1] at hp1 hf1
  obtain ⟨q0, q1, q2', hgl1⟩ := KidAt.cells (k := m.kk) (s := m.ks) (A := m.kA) (n := m.kids.length) (c := m.kc) hk1
  rw [HN.out, HMA.out, HMC.out, Nat.mul_comm 3 aj] at q2'
  have HK1 := Lib.hid hk1
  have HM1 := Lib.hid hm1
  have HP1 := Lib.hid hp1
  have HF1 := Lib.hid hf1
  clear hk1 hm1 hp1 hf1 hsv1 q0 q1 hW1 hown5 hgrow5 hat5 hc5 hf5 hl5 q2 hlt5
  go_wp2_with fail
  go_loopw [18] (fun i wr => ∃ (k : Nat) (sv' : Value), k ≤ n ∧ i = .int .i64 (k : Int) ∧ PtrAt wr po sv' (l ++ [(ab, aj)] ++ kidsAddrs (kidG m) 0 (m.kids.take k)) ∧ Fl po W1 wr sv1 sv') (fun i _ => n - (intOf i).toNat)
  case atStart => exact ⟨0, sv1, by omega, rfl, by simpa [kidsAddrs] using HP1.out, Fl.refl _ _ _⟩
  case round =>
    obtain ⟨k, sv', hk, rfl, hpr, hfr⟩ := hrel
    obtain ⟨wo, rfl⟩ : ∃ wo : World, wo = wr := ⟨_, rfl⟩
    have hkr := hfr.kid HP1.out HK1.out
    have hmr := hfr.mt HP1.out HM1.out
    obtain ⟨q0, q1, q2, hglr⟩ := KidAt.cells (k := m.kk) (s := m.ks) (A := m.kA) (n := m.kids.length) (c := m.kc) hkr
    rw [HN.out, HMA.out, HMC.out, Nat.mul_comm 3 aj] at q2
    by_cases hlt : k < n
    · have hkn : k < m.kids.length := by rw [HN.out]; exact hlt
      obtain ⟨g, hgA, hgb, hgc, hkid, hkh⟩ := hmr.kid hkn
      have e := HMA.out.symm.trans hgA
      subst e
      have hG := kidG_eq hgA
      have hls : (l ++ [(ab, aj)] ++ kidsAddrs (kidG m) 0 (m.kids.take k)).length + (m.kids[k]).w.size ≤ 100000 := by
        have h1 : (kidsAddrs (kidG m) 0 (m.kids.take (k + 1))).length + 1 ≤ m.w.size := by
          have h2 := m.addrs_len (0, 0)
          rw [addrs_kids] at h2
          have h3 : (kidsAddrs (kidG m) 0 (m.kids.take (k + 1))).length ≤ (kidsAddrs (kidG m) 0 m.kids).length := by
            have : ∀ (l1 l2 : List Mt) (j : Nat), (kidsAddrs (kidG m) j l1).length ≤ (kidsAddrs (kidG m) j (l1 ++ l2)).length := by
              intro l1 l2
              induction l1 with
              | nil => intro j; simp [kidsAddrs]
              | cons x l1 ih => intro j; have := ih (j + 1); simp [kidsAddrs]; exact this
            have h4 := this (m.kids.take (k + 1)) (m.kids.drop (k + 1)) 0
            rwa [List.take_append_drop] at h4
          simp at h2; omega
        rw [List.take_succ_eq_append_getElem hkn, kidsAddrs_snoc, List.length_append, Mt.addrs_len] at h1
        have := HLEN.out
        simp at h1 ⊢; omega
      have hcall := HIH.out m.kids[k] (List.getElem_mem hkn) (g, k) _ po sv' wo hkid hkh hpr hls
      unfold ptrV at hcall
      dsimp only at hcall
      have hfin : l ++ [(ab, aj)] ++ kidsAddrs (kidG m) 0 (m.kids.take k) ++ (m.kids[k]).addrs (g, k) = l ++ [(ab, aj)] ++ kidsAddrs (kidG m) 0 (m.kids.take (k + 1)) := by
        rw [List.take_succ_eq_append_getElem hkn, kidsAddrs_snoc, hG, List.length_take, Nat.min_eq_left (by omega)]; simp
      rw [hfin] at hcall
      have hgl2 := hkid.lt
      have HC := Lib.hid hcall
      have HFR := Lib.hid hfr
      have HPR := Lib.hid hpr
      clear hcall hfr hpr hkr hmr hkid hkh hG hls hfin hgA hgb hgc q0 q1
      go_wp2_with fail
      refine HC.out.mono ?_
      rintro e w7 ⟨⟨v7, rfl⟩, sv7, hp7, hf7⟩
      have HP7 := Lib.hid hp7
      have HF7 := Lib.hid (HFR.out.trans hf7)
      clear hp7 hf7
      go_wp2_with fail
      go_roundw
      case rel => exact ⟨k + 1, sv7, by omega, by go_num, HP7.out, HF7.out⟩
      case measure => simp [intOf]; omega
    · have hkn : k = n := by omega
      have HPR := Lib.hid hpr
      have HFR := Lib.hid hfr
      have HKN := Lib.hid hkn
      clear hpr hfr hkr hmr hkn q0 q1
      go_wp2_with fail
      go_end0
      refine ⟨⟨_, rfl⟩, sv', ?_, HF1.out.trans HFR.out⟩
      have e : m.addrs (ab, aj) = (ab, aj) :: kidsAddrs (kidG m) 0 (m.kids.take k) := by
        rw [addrs_kids, HKN.out, ← HN.out, List.take_length]
      rw [e]
      have := HPR.out
      simpa using this
theorem wparts_any : ∀ m : Mt, PartsOk m := Mt.ind parts_step
end Go.Proofs.Ytccknopchddicaa
