/- contract: back.Back. -/
import Derived.Test.YtccknopchddicaaGreatDoorMB5
import Derived.Test.YtccknopchddicaaGreatDoorMC4
import Derived.Test.YtccknopchddicaaGreatDoorMD4
import Derived.Test.YtccknopchddicaaGreatDoorMGb
import Derived.Deep.AppendLies
import Derived.Deep.RegionLaw
import Derived.IntWalk
set_option linter.unusedSimpArgs false
set_option linter.unusedVariables false
set_option linter.unnecessarySimpa false
namespace Go.Proofs.YtccknopchddicaaGreatDoor
open Go.RowKit Stile
theorem backStep_lt (f : List Nd) (v : Nat) (a : Int) (hn : f.length ≤ 40) : backStep f v a < 2 ^ f.length := by
  have := packN_lt (aheadL f (unpackN v f.length) a)
  rwa [aheadL_len] at this
set_option maxRecDepth 100000 in
set_option maxHeartbeats 2000000 in
theorem back_any (L : Nat) (M : Int) (fv : Value) (f : List Nd) (w : World) (hf : RdN w w.heap.size fv f) (hL1 : 1 ≤ L) (hL6 : L ≤ 6) (hM : IntKind.i64.wrap (2 ^ L) = M) (hM64 : M ≤ 64) (hchk : checkP L M f = 0)
    (hok : okF futK M f) (hn0 : 0 < f.length) (hn : f.length ≤ 40) :
    Calls Tryz.prog 55 #[.int .i64 L, fv] w fun e w' => Below w.heap.size w w' ∧ ∃ dv, e = .returned (.tuple #[dv, if (backP L f).isSome then .nilIface else errV 4]) ∧ (backP L f = none → dv = .agg #[.int .i64 0, .int .i64 0, .slice none 0 0, .slice none 0 0]) ∧ ∀ d, backP L f = some d → DfT w' dv d := by
  have hcheck : ∀ W, Below w.heap.size w W → Calls Tryz.prog 48 #[.int .i64 L, fv] W fun e w' => e = .returned .nilIface ∧ Below W.heap.size W w' := fun W hb => by
    have := check_any L M fv f W hL1 hL6 hM (Rd.mono (Rd.below hf hb) hb.size)
    rw [hchk] at this
    exact this
  obtain ⟨n, hN'⟩ : ∃ n, f.length = n := ⟨_, rfl⟩
  obtain ⟨N, hN⟩ : ∃ N, n = N + 1 := ⟨n - 1, by omega⟩
  obtain ⟨st, hst⟩ : ∃ st, backStep f = st := ⟨_, rfl⟩
  obtain ⟨s0, hs0⟩ : ∃ s0, packN (endL f) = s0 := ⟨_, rfl⟩
  have hp40 : 2 ^ f.length ≤ 1099511627776 := by
    have : 2 ^ f.length ≤ 2 ^ 40 := Nat.pow_le_pow_right (by decide) hn
    exact this
  have hs0lt : s0 < 2 ^ f.length := by rw [← hs0]; have := packN_lt (endL f); rwa [endL_len] at this
  have hstlt : ∀ k a, st k a < 2 ^ f.length := fun k a => by rw [← hst]; exact backStep_lt f k a hn
  have hmk : backP L f = (explored st s0 L 40).map fun r => { letters := L, start := 0, next := r.2, final := r.1.map fun v => v.testBit N } := by
    rw [backP, hst, hs0, hN', hN]; simp
  obtain ⟨R, hR⟩ : ∃ R, explored st s0 L 40 = R := ⟨_, rfl⟩
  have hspec : ∀ ks next, R = some (ks, next) → ks.length ≤ 40 ∧ (∀ row ∈ next, row.length = L) ∧ (∀ k ∈ ks, k < 1099511627776) := by
    intro ks next e
    have hx := explored_spec (by decide) (hR.trans e)
    refine ⟨hx.lenle, ?_, ?_⟩
    · intro row hrow
      obtain ⟨i, hi, rfl⟩ := List.getElem_of_mem hrow
      exact (hx.rows i hi).1
    · intro k hk
      obtain ⟨u, _, hu⟩ := hx.reach k hk
      rw [← hu]
      rcases List.eq_nil_or_concat u with rfl | ⟨u', a, rfl⟩
      · exact Nat.lt_of_lt_of_le hs0lt hp40
      · rw [List.concat_eq_append, run_snoc]; exact Nat.lt_of_lt_of_le (hstlt _ _) hp40
  have H1 : ∀ W, Below w.heap.size w W → Calls Tryz.prog 65 #[fv] W fun e w' => ∃ v', e = .returned v' ∧ RdB w' w'.heap.size v' (endL f) ∧ Below W.heap.size W w' := fun W hb =>
    end_any M fv f W (Rd.mono (Rd.below hf hb) hb.size) hok hn0 hn
  have H2 : ∀ W vv, RdB W W.heap.size vv (endL f) → Calls Tryz.prog 78 #[vv] W fun e w' => e = .returned (.int .u64 (s0 : Int)) ∧ W = w' := fun W vv h => by
    rw [← hs0]; exact pack_any vv _ W h (by rw [endL_len]; omega) (by rw [endL_len]; omega)
  have H3 : ∀ (pf pn : Addr) W, Below w.heap.size w W → W.cell? pf = some fv → W.cell? pn = some (.int .i64 (n : Int)) →
      Calls Tryz.prog 77 #[.int .u64 (s0 : Int), .int .i64 L, .int .i64 40, .func (.func 79) #[] #[.pointer (some pf), .pointer (some pn)]] W fun e w' => Below W.heap.size W w' ∧ ∃ kv nv, e = .returned (.tuple #[kv, nv, .bool R.isSome]) ∧
        ∀ ks next, R = some (ks, next) → RdW w' w'.heap.size kv ks ∧ ∃ base rs, Nxt w' base nv L next rs := fun pf pn W hb hpf hpn => by
    have hbf := lt_of_cell hpf
    have hbn := lt_of_cell hpn
    have := explore_any st s0 L 79 #[.pointer (some pf), .pointer (some pn)] (fun k => k < 2 ^ f.length) W hL6 hs0lt (fun k a _ _ => hstlt k a) (fun k hk => by have := Nat.lt_of_lt_of_le hk hp40; omega) (fun args W => rfl) (fun k a W' hk ha hb' => by
      have hb2 := hb.trans (hb'.mono hb.size)
      have := backstep_any M fv f k a pf pn W' ((hb'.cell hbf).trans hpf) ((hb'.cell hbn).trans (by rw [hN']; exact hpn)) (Rd.mono (Rd.below hf hb2) hb2.size) hok hM64 (by omega) hn0 hn (by have := Nat.lt_of_lt_of_le hk hp40; omega)
        (fun i hi => by
          rcases Nat.lt_or_ge i f.length with h | h
          · exact h
          · have := Nat.lt_of_lt_of_le hk (Nat.pow_le_pow_right (n := 2) (by decide) h)
            rw [Nat.testBit_lt_two_pow this] at hi; cases hi)
      rw [hst] at this
      exact this)
    rw [hR] at this
    refine this.mono ?_
    rintro e w' ⟨h1, kv, nv, h2, h3⟩
    refine ⟨h1, kv, nv, h2, fun ks next e => ?_⟩
    obtain ⟨base, Bb, mb, rs, h4, h5⟩ := h3 ks next e
    exact ⟨h4.rdw, base, rs, h5⟩
  rw [hR] at hmk
  rw [hmk]
  obtain ⟨fA, fc, rfl, _, _⟩ := hf
  have HSP := Lib.hid hspec
  have HR := Lib.hid hR
  have hN39 : N < 40 := by omega
  rw [hN'] at hcheck H1 H3 ⊢
  have HCHK := Lib.hid hcheck
  have HH1 := Lib.hid H1
  have HH2 := Lib.hid H2
  have HH3 := Lib.hid H3
  have HN := Lib.hid hN
  have hn40 : n ≤ 40 := by omega
  have hn1 : 0 < n := by omega
  clear hmk hst hs0 hstlt hspec hok hR hs0lt hcheck H1 H2 H3 hN hN' hp40 hchk hn0 hn
  go_enter Tryz.func55, Tryz.ntmps55
  go_wp2_with fail
  refine (HCHK.out _ (((Below.refl _ _).alloc (Nat.le_refl _) _).alloc (by simp) _)).mono ?_
  rintro e w1 ⟨rfl, hb1⟩
  have hb1' := (((Below.refl w.heap.size w).alloc (Nat.le_refl _) (Obj.cells #[.slice fA n fc] 22)).alloc (by simp) (Obj.cells #[.int .i64 0, .int .i64 0, .slice none 0 0, .slice none 0 0] 59))
  have hpf1 : w1.cell? ⟨w.heap.size, 0, none⟩ = some (.slice fA n fc) := by
    refine (hb1.cell (p := ⟨w.heap.size, 0, none⟩) (by simp; omega)).trans ?_
    have := fld_cell (heap_old2 w (Obj.cells #[.slice fA n fc] 22) (Obj.cells #[.int .i64 0, .int .i64 0, .slice none 0 0, .slice none 0 0] 59)) 0
    exact this
  have hr1 : w1.heap[w.heap.size + 1]? = some (Obj.cells #[.int .i64 0, .int .i64 0, .slice none 0 0, .slice none 0 0] 59) := by
    exact (hb1.block _ (by simp)).trans (heap_new2 w _ _)
  replace hb1 := hb1'.trans (hb1.mono (by simp; omega))
  have hs1 : w.heap.size + 1 < w1.heap.size := lt_blk hr1
  clear hb1'
  go_upto_region 5 with fail
  obtain ⟨w2, hw2⟩ : ∃ w2, w1.alloc (Obj.cells #[.int .i64 (n : Int)] 3) = w2 := ⟨_, rfl⟩
  have hpn2 : w2.cell? ⟨w1.heap.size, 0, none⟩ = some (.int .i64 (n : Int)) := by
    rw [← hw2]; simp
  have hb12 : Below w1.heap.size w1 w2 := by rw [← hw2]; exact (Below.refl _ _).alloc (Nat.le_refl _) _
  rw [hw2]
  clear hw2
  replace hpf1 := (hb12.cell (p := ⟨w.heap.size, 0, none⟩) (by simp; omega)).trans hpf1
  replace hr1 := (hb12.block _ hs1).trans hr1
  replace hb1 := hb1.trans (hb12.mono (by omega))
  have hs12 := hb12.size
  have hs2 : w1.heap.size < w2.heap.size := lt_of_cell hpn2
  clear hb12
  have hat1 : (w2.cell? ⟨w.heap.size, 0, none⟩ = some (.slice fA n fc) ∧ w2.cell? ⟨w1.heap.size, 0, none⟩ = some (.int .i64 (n : Int)) ∧ Below (w.heap.size + 2) w2 w2) := ⟨hpf1, hpn2, Below.refl _ _⟩
  have HT : ∀ W W', (W.cell? ⟨w.heap.size, 0, none⟩ = some (.slice fA n fc) ∧ W.cell? ⟨w1.heap.size, 0, none⟩ = some (.int .i64 (n : Int)) ∧ Below (w.heap.size + 2) w2 W) → Below W.heap.size W W' → (W'.cell? ⟨w.heap.size, 0, none⟩ = some (.slice fA n fc) ∧ W'.cell? ⟨w1.heap.size, 0, none⟩ = some (.int .i64 (n : Int)) ∧ Below (w.heap.size + 2) w2 W') := fun W W' h h' => by
    obtain ⟨a0, a1, a5⟩ := h
    exact ⟨(h'.cell (p := ⟨w.heap.size, 0, none⟩) (lt_of_cell a0)).trans a0, (h'.cell (p := ⟨w1.heap.size, 0, none⟩) (lt_of_cell a1)).trans a1, a5.trans (h'.mono (by have := a5.size; omega))⟩
  have HW : ∀ W, (W.cell? ⟨w.heap.size, 0, none⟩ = some (.slice fA n fc) ∧ W.cell? ⟨w1.heap.size, 0, none⟩ = some (.int .i64 (n : Int)) ∧ Below (w.heap.size + 2) w2 W) → Below w.heap.size w W := fun W h => hb1.trans (h.2.2.mono (by omega))
  have G1 : ∀ W, (W.cell? ⟨w.heap.size, 0, none⟩ = some (.slice fA n fc) ∧ W.cell? ⟨w1.heap.size, 0, none⟩ = some (.int .i64 (n : Int)) ∧ Below (w.heap.size + 2) w2 W) → Calls Tryz.prog 65 #[.slice fA n fc] W fun e w' => ∃ v', e = .returned v' ∧ RdB w' w'.heap.size v' (endL f) ∧ (w'.cell? ⟨w.heap.size, 0, none⟩ = some (.slice fA n fc) ∧ w'.cell? ⟨w1.heap.size, 0, none⟩ = some (.int .i64 (n : Int)) ∧ Below (w.heap.size + 2) w2 w') := fun W h =>
    (HH1.out W (HW W h)).mono fun e w' ⟨v', e1, e2, e3⟩ => ⟨v', e1, e2, HT _ _ h e3⟩
  have G2 : ∀ W vv, RdB W W.heap.size vv (endL f) → Calls Tryz.prog 78 #[vv] W fun e w' => e = .returned (.int .u64 (s0 : Int)) ∧ W = w' := HH2.out
  have G3 : ∀ W, (W.cell? ⟨w.heap.size, 0, none⟩ = some (.slice fA n fc) ∧ W.cell? ⟨w1.heap.size, 0, none⟩ = some (.int .i64 (n : Int)) ∧ Below (w.heap.size + 2) w2 W) → Calls Tryz.prog 77 #[.int .u64 (s0 : Int), .int .i64 L, .int .i64 40, .func (.func 79) #[] #[.pointer (some ⟨w.heap.size, 0, none⟩), .pointer (some ⟨w1.heap.size, 0, none⟩)]] W fun e w' => ∃ kv nv, e = .returned (.tuple #[kv, nv, .bool R.isSome]) ∧
      (∀ ks next, R = some (ks, next) → RdW w' w'.heap.size kv ks ∧ ∃ base rs, Nxt w' base nv L next rs) ∧ (w'.cell? ⟨w.heap.size, 0, none⟩ = some (.slice fA n fc) ∧ w'.cell? ⟨w1.heap.size, 0, none⟩ = some (.int .i64 (n : Int)) ∧ Below (w.heap.size + 2) w2 w') := fun W h =>
    (HH3.out ⟨w.heap.size, 0, none⟩ ⟨w1.heap.size, 0, none⟩ W (HW W h) h.1 h.2.1).mono fun e w' ⟨e1, kv, nv, e2, e3⟩ => ⟨kv, nv, e2, e3, HT _ _ h e1⟩
  clear HT HW
  have HR1 := Lib.hid hr1
  have HB1 := Lib.hid hb1
  clear hr1 hb1 hpf1 hpn2
  go_cut [8, 9, 10] from 23 to 32 (fun kx nx o wx => o = .bool R.isSome ∧ (∀ ks next, R = some (ks, next) → RdW wx wx.heap.size kx ks ∧ ∃ base rs, Nxt wx base nx L next rs) ∧ (wx.cell? ⟨w.heap.size, 0, none⟩ = some (.slice fA n fc) ∧ wx.cell? ⟨w1.heap.size, 0, none⟩ = some (.int .i64 (n : Int)) ∧ Below (w.heap.size + 2) w2 wx))
  case first =>
    go_wp2_with fail
    refine (G1 _ hat1).mono ?_
    rintro en w3 ⟨v3, rfl, hv3, hb3⟩
    go_wp2_with fail
    refine (G2 _ _ hv3).mono ?_
    rintro en w4 ⟨rfl, rfl⟩
    clear hv3
    go_wp2_with fail
    refine (G3 _ hb3).mono ?_
    rintro en w5 ⟨kv, nv, rfl, hk5, hb5⟩
    go_wp2_with fail
    go_meet
    exact ⟨rfl, hk5, hb5⟩
  case rest =>
    obtain ⟨rfl, hk, c0, c1, hb⟩ := hcut
    clear G1 G2 G3 hat1
    have hblk := (hb.block _ (by omega)).trans HR1.out
    have hc := fun k => fld_cell hblk k
    have hfz := fun k => fld_frozen hblk k
    have e0 := hc 0
    have e1 := hc 1
    have e2 := hc 2
    have e3 := hc 3
    have f0' := hfz 0
    have f1' := hfz 1
    have f2' := hfz 2
    have f3' := hfz 3
    simp at e0 e1 e2 e3
    clear hc hfz
    have HBL := Lib.hid hblk
    have HB2 := Lib.hid hb
    have HK := Lib.hid hk
    have hwlt := lt_blk hblk
    have hwlt0 : w.heap.size < wc.heap.size := by omega
    have hwlt1 : w1.heap.size < wc.heap.size := lt_of_cell c1
    clear hblk hb hk
    obtain ⟨wo, rfl⟩ : ∃ wo : World, wo = wc := ⟨_, rfl⟩
    obtain _ | ⟨ks, next⟩ := R
    · go_wp2_with fail
      exact bodyPost_ret (v := .tuple #[.agg #[.int .i64 0, .int .i64 0, .slice none 0 0, .slice none 0 0], errV 4]) (by simp [results, Tryz.results55, go_sem, errV, e0, e1, e2, e3]) rfl ⟨((((HB1.out.trans (HB2.out.mono (by omega))).setCell (by simp) _).setCell (by simp) _).setCell (by simp) _).setCell (by simp) _, rfl⟩
    · obtain ⟨hkv, base, rs, hnv⟩ := HK.out ks next rfl
      obtain ⟨hk40, hrl, hklt⟩ := HSP.out ks next rfl
      have hnv' := hnv
      obtain ⟨rv, ⟨nA, nc, rfl, _, _⟩, _⟩ := hnv.rows_ hrl
      obtain ⟨kA, kc, rfl, _, hkc⟩ := hkv
      have HKC : ∀ k, k < ks.length → ∃ b off, ∃ x : Nat, kA = some ⟨b, off, none⟩ ∧ b < wo.heap.size ∧ wo.cell? ⟨b, off + k, none⟩ = some (.int .u64 (x : Int)) ∧ ks.getD k 0 = x ∧ x < 18446744073709551616 := fun k hk => by
        obtain ⟨b, off, h1, h2, h3⟩ := hkc (by omega)
        refine ⟨b, off, _, h1, h2, h3 k (by omega), rfl, ?_⟩
        have := hklt (ks.getD k 0) (by rw [List.getD, List.getElem?_eq_getElem hk]; exact List.getElem_mem hk)
        omega
      have HKK := Lib.hid HKC
      have HNV := Lib.hid hnv'
      have HRL := Lib.hid hrl
      clear HKC hnv' hkc hklt hrl
      go_wp2_with fail
      obtain ⟨W, hW⟩ : ∃ W, wo.alloc (Obj.cells #[.int .i64 (L : Int), .int .i64 0, .slice nA next.length nc, .slice none 0 0] 59) = W := ⟨_, rfl⟩
      have hg : W.heap[wo.heap.size]? = some (Obj.cells #[.int .i64 (L : Int), .int .i64 0, .slice nA next.length nc, .slice none 0 0] 59) := by rw [← hW]; exact heap_new _ _
      have hbW : Below wo.heap.size wo W := by rw [← hW]; exact (Below.refl _ _).alloc (Nat.le_refl _) _
      have HG := Lib.hid hg
      have HBW := Lib.hid hbW
      rw [hW]
      have hpnW := (hbW.cell (p := ⟨w1.heap.size, 0, none⟩) hwlt1).trans c1
      have HPN := Lib.hid hpnW
      clear hpnW hg hbW hW e0 e1 e2 e3 f0' f1' f2' f3' c0 c1
      generalize hnl : next.length = NN
      have HNL := Lib.hid hnl
      clear hnl
      obtain ⟨i0, hi, hz0, hz1, hz2⟩ := info_parts info_bool
      go_wp2_with fail
      go_loopw [42] (fun i wr => ∃ m : Nat, ∃ v : Value, m ≤ ks.length ∧ i = .int .i64 (m : Int) ∧ Below wo.heap.size W wr ∧ wr.heap[wo.heap.size]? = some (Obj.cells #[.int .i64 (L : Int), .int .i64 0, .slice nA NN nc, v] 59) ∧
        wr.ownsRow wo.heap.size 4 1 v m (((ks.take m).map fun s => s.testBit N).map fun b => Value.bool b)) (fun i _ => ks.length - (intOf i).toNat)
      case atStart => exact ⟨0, _, by omega, rfl, Below.refl _ _, HNL.out ▸ HG.out, World.ownsRow_nil _ _ _ _⟩
      case round =>
        obtain ⟨m, v, hm, rfl, hbr, hgr, hown⟩ := hrel
        have HBR := Lib.hid hbr
        have HGR := Lib.hid hgr
        by_cases hlt : m < ks.length
        · obtain ⟨b, off, x, rfl, hb, hx, hxe, hxlt⟩ := HKK.out m hlt
          have hb2 := HBW.out.trans hbr
          have hx' := (hb2.cell (p := ⟨b, off + m, none⟩) hb).trans hx
          have hbl : b < wr.heap.size := Nat.lt_of_lt_of_le hb hb2.size
          have hc3 := fld_cell hgr 3
          have hf3 := fld_frozen hgr 3
          have hglt := lt_blk hgr
          simp at hc3
          obtain ⟨B, hB⟩ : ∃ B, x.testBit N = B := ⟨_, rfl⟩
          have hbb : (bits .and .u64 ((x : Int) / 2 ^ N) 1 == 1) = B := by rw [bit_u64 x N hxlt, hB]
          have hpn := (hbr.cell (p := ⟨w1.heap.size, 0, none⟩) (by have := HBW.out.size; omega)).trans HPN.out
          have HB := Lib.hid hB
          have HXE := Lib.hid hxe
          obtain ⟨vA, vc, rfl⟩ : ∃ vA vc, v = .slice vA m vc := by
            rcases hown.2 with ⟨e, e2⟩ | ⟨g, cap, cur, e, _⟩
            · exact ⟨none, 0, by rw [e, e2]⟩
            · exact ⟨_, cap, e⟩
          have hNw : IntKind.i64.wrap ((n : Int) - 1) = (N : Int) := by rw [IntWalk.i64_in _ (by have := HN.out; omega)]; have := HN.out; omega
          have hglt2 : w1.heap.size < wr.heap.size := lt_of_cell hpn
          clear hx hbr hgr hb2 hB hxe
          go_upto_region 12 with fail
          go_region_law (first
              | (refine step_append_lies _ (by rfl) _ _ _ (by rfl) wo.heap.size 4 i0 _ 1 1 Tryz.underlying57 hi hz0 hz1 hz2 (by rfl) (by decide) (.slice vA m vc) m _ (by rfl) (hown.alloc _) ⟨wr.heap.size, 0, none⟩ 1 1 [.bool B] (by rfl) (by rfl) (cell_one_new _ _ _) (by simp [Value.oneCell']) (by decide) (by unfold maxLen; omega) (by omega) (by simp; omega) _ (by rfl) ?_; intro g' cap' w5 hown5 hgrow5 hat5 hlt5; have hk5 := fld_keep (w := wr.drew) HGR.out hown hgrow5 (by decide); have hc5 := fld_cell hk5 3; simp at hc5; have hf5 := fld_frozen hk5 3; have HK5 := Lib.hid hk5; clear hk5))
          all_goals
            obtain ⟨hr1, hr2⟩ := fld_grew (w := wr.drew) (k := 3) (u := .slice (some ⟨g', 0, none⟩) (m + 1) cap') HGR.out hown hgrow5 hown5 (by decide)
            have hr3 := fld_set HK5.out 3 (.slice (some ⟨g', 0, none⟩) (m + 1) cap')
            have HR1' := Lib.hid hr1
            have HR2 := Lib.hid (((Below.refl wo.heap.size wr).drew).trans hr2.below)
            have HR3 := Lib.hid hr3
            clear hr1 hr2 hr3 hown5 hgrow5 hat5 hown
            go_wp2_with fail
            go_roundw
            case rel =>
              have hfin : wr = wr := rfl
              refine ⟨_, _, _, _, _, _, _, _, _, _, _, _, _, _, _, _, _, ⟨m + 1, _, by omega, by go_num, HBR.out.trans HR2.out, by simpa using HR3.out, ?_⟩, rfl⟩
              rw [bools_of_take _ _ _ hlt, HXE.out, HB.out, List.map_append]
              exact HR1'.out
            case measure => simp [intOf]; omega
        · have hbelow := HBW.out.trans hbr
          have hblk2 := (hbelow.block _ hwlt).trans HBL.out
          have hc := fun k => fld_cell hblk2 k
          have hfz := fun k => fld_frozen hblk2 k
          have hd := fun k => fld_cell hgr k
          have e0 := hc 0
          have e1 := hc 1
          have e2 := hc 2
          have e3 := hc 3
          have f0' := hfz 0
          have f1' := hfz 1
          have f2' := hfz 2
          have f3' := hfz 3
          have d0 := hd 0
          have d1 := hd 1
          have d2 := hd 2
          have d3 := hd 3
          simp at e0 e1 e2 e3 d0 d1 d2 d3
          clear hc hfz hd
          have HBL2 := Lib.hid hblk2
          have HBE := Lib.hid hbelow
          obtain ⟨vA, vc, rfl⟩ : ∃ vA vc, v = .slice vA m vc := by
            rcases hown.2 with ⟨e, e2⟩ | ⟨g, cap, cur, e, _⟩
            · exact ⟨none, 0, by rw [e, e2]⟩
            · exact ⟨_, cap, e⟩
          have HOWN := Lib.hid hown
          have hwlt2 : w.heap.size + 1 < wr.heap.size := lt_blk hblk2
          have hglt := lt_blk hgr
          have hmk : m = ks.length := by omega
          have HMK := Lib.hid hmk
          clear hbr hgr hown hblk2 hbelow hmk
          go_wp2_with fail
          refine bodyPost_ret (v := .tuple #[.agg #[.int .i64 (L : Int), .int .i64 0, .slice nA NN nc, .slice vA m vc], .nilIface]) (by simp [results, Tryz.results55, go_sem, e0, e1, e2, e3]) rfl ⟨?_, _, rfl, ?_⟩
          · exact (((((HB1.out.trans (HB2.out.mono (by omega))).trans (HBE.out.mono (by omega))).setCell (by simp) _).setCell (by simp) _).setCell (by simp) _).setCell (by simp) _
          · obtain rfl := HNL.out
            have hown := HOWN.out
            have hmk := HMK.out
            have hnx := (HNV.out.below HBE.out)
            rw [hmk, List.take_length] at hown
            refine DfT.set4 ⟨base, wo.heap.size, L, rs, .slice nA next.length nc, .slice vA m vc, by simp, hnx, HRL.out, ?_⟩ HBL2.out _ _ _ _
            rw [List.length_map]
            rw [hmk]
            first | exact hown | simpa using hown
end Go.Proofs.YtccknopchddicaaGreatDoor
