/- contract: FormLettersTurned answers true. -/
import Derived.Test.YtccknopchddicaaDoorL2
import Derived.Test.YtccknopchddicaaDoorK2
import Derived.Test.YtccknopchddicaaDoorD7
import Derived.Deep.AppendLies
namespace Go.Proofs.YtccknopchddicaaDoor
open Go.RowKit Stile
theorem info_i : (Tryd.prog.info? 3).map (fun i => (i.zero, i.size, i.bytes)) = some (some (.int .i64 0), 1, 8) := by kernel_rfl
theorem err_words (L : Nat) (f : List Nd) : (if (makeP L f).isSome then Value.nilIface else errV 4) = if (makeP L f).isSome then .nilIface else .iface 52 (.int .i64 4) := by simp [errV]
theorem up_alloc (w1 : World) (o : Obj) : Below w1.heap.size w1 (w1.alloc o) := (Below.refl _ _).alloc (Nat.le_refl _) _
theorem up_trans {w1 w2 w3 : World} (h : Below w1.heap.size w1 w2) (h2 : Below w2.heap.size w2 w3) : Below w1.heap.size w1 w3 := h.trans (h2.mono h.size)
/-- the first i nodes have their other letters -/
def mixv (N : Nat) (h : Int) (f : List Nd) (i q : Nat) : Value := if q / 3 < i then nodes (f.map (turnNd N (atT N h))) q else nodes f q
structure GAt (wr : World) (gb n N : Nat) (h : Int) (f : List Nd) (i : Nat) : Prop where
  blk : ∃ cur, wr.heap[gb]? = some (.cells cur 32 (0, 0)) ∧ ∀ q, q < n * 3 → cur[q]? = some (mixv N h f i q)
theorem or_pow64 (S x : Nat) (hS : S < 9223372036854775808) (hx : x < 62) : bits .or .i64 (S : Int) (wrap64 (2 ^ x)) = ((S ||| (1 <<< x) : Nat) : Int) := by
  have h1 : 2 ^ x < 9223372036854775808 := Nat.pow_lt_pow_right (a := 2) (m := x) (n := 63) (by decide) (by omega)
  have h2 : wrap64 (2 ^ x) = ((2 ^ x : Nat) : Int) := by
    rw [show ((2 : Int) ^ x) = ((2 ^ x : Nat) : Int) by simp]
    generalize 2 ^ x = P at *
    unfold wrap64; omega
  rw [h2, i64_or_nat S (2 ^ x) hS h1, Nat.one_shiftLeft]
theorem mixv_at {N : Nat} {h : Int} {f : List Nd} {k : Nat} : mixv N h f k (k * 3) = .int .i64 (nd f k).k ∧ mixv N h f k (k * 3 + 1) = .int .i64 (nd f k).a ∧ mixv N h f k (k * 3 + 2) = .int .i64 (nd f k).b := by
  obtain ⟨a1, a2, a3⟩ := nodes_at f k
  unfold mixv
  refine ⟨?_, ?_, ?_⟩
  · rw [if_neg (by omega)]; exact a1
  · rw [if_neg (by omega)]; exact a2
  · rw [if_neg (by omega)]; exact a3
theorem nd_map {f : List Nd} {g : Nd → Nd} {k : Nat} (hk : k < f.length) : nd (f.map g) k = g (nd f k) := by simp [nd, List.getD, hk]
theorem nodes_of {f : List Nd} {k : Nat} (j : Nat) (hj : j < 3) : nodes f (k * 3 + j) = .int .i64 (if j = 0 then (nd f k).k else if j = 1 then (nd f k).a else (nd f k).b) := by
  obtain ⟨a1, a2, a3⟩ := nodes_at f k
  match j, hj with
  | 0, _ => exact a1
  | 1, _ => exact a2
  | 2, _ => exact a3
theorem GAt.same {wr : World} {gb n N : Nat} {h : Int} {f : List Nd} {k : Nat} (hg : GAt wr gb n N h f k) (hn : f.length = n) (hk : k < n) (h2 : (nd f k).k ≠ 2) : GAt wr gb n N h f (k + 1) := by
  obtain ⟨cur, hb, hc⟩ := hg.blk
  refine ⟨cur, hb, fun q hq => ?_⟩
  rw [hc q hq]
  unfold mixv
  by_cases h3 : q / 3 < k
  · rw [if_pos h3, if_pos (by omega)]
  · rw [if_neg h3]
    by_cases h4 : q / 3 < k + 1
    · rw [if_pos h4]
      have e : q = k * 3 + q % 3 := by omega
      have ht : turnNd N (atT N h) (nd f k) = nd f k := by unfold turnNd; rw [if_neg h2]
      rw [e, nodes_of _ (by omega), nodes_of _ (by omega), nd_map (by omega), ht]
    · rw [if_neg h4]
theorem GAt.set {wr : World} {gb n N : Nat} {h : Int} {f : List Nd} {k : Nat} (hg : GAt wr gb n N h f k) (hn : f.length = n) (hk : k < n) (h2 : (nd f k).k = 2) : GAt (wr.setCell ⟨gb, k * 3 + 1, none⟩ (.int .i64 (turnBits (atT N h) (nd f k).a N : Nat))) gb n N h f (k + 1) := by
  obtain ⟨cur, hb, hc⟩ := hg.blk
  refine ⟨_, fld_set hb (k * 3 + 1) _, fun q hq => ?_⟩
  have hsz : k * 3 + 1 < cur.size := (Array.getElem?_eq_some_iff.1 (hc (k * 3 + 1) (by omega))).1
  have ht : turnNd N (atT N h) (nd f k) = ⟨(nd f k).k, (turnBits (atT N h) (nd f k).a N : Nat), (nd f k).b⟩ := by unfold turnNd; rw [if_pos h2]
  by_cases e1 : q = k * 3 + 1
  · subst e1
    simp only [Array.set!_eq_setIfInBounds, Array.getElem?_setIfInBounds, if_pos hsz, if_true]
    unfold mixv
    rw [if_pos (by omega), nodes_of 1 (by omega), nd_map (by omega), ht]
    simp
  · simp only [Array.set!_eq_setIfInBounds, Array.getElem?_setIfInBounds]
    rw [if_neg (fun e => e1 e.symm), hc q hq]
    unfold mixv
    by_cases h3 : q / 3 < k
    · rw [if_pos h3, if_pos (by omega)]
    · rw [if_neg h3]
      by_cases h4 : q / 3 < k + 1
      · rw [if_pos h4]
        have e : q = k * 3 + q % 3 := by omega
        have hne : q % 3 ≠ 1 := fun e' => e1 (by omega)
        rw [e, nodes_of _ (by omega), nodes_of _ (by omega), nd_map (by omega), ht]
        simp [hne]
      · rw [if_neg h4]
theorem GAt.below {w w' : World} {gb n N : Nat} {h : Int} {f : List Nd} {k : Nat} (hg : GAt w gb n N h f k) (hb : Below w.heap.size w w') : GAt w' gb n N h f k := by
  obtain ⟨cur, h1, h2⟩ := hg.blk
  exact ⟨cur, (hb.block _ (lt_blk h1)).trans h1, h2⟩
set_option maxRecDepth 100000 in
set_option maxHeartbeats 3200000 in
theorem turned_any (L h : Int) (fv lv : Value) (f : List Nd) (l : List Int) (w : World) (hf : RdN w w.heap.size fv f) (hl : RdI w w.heap.size lv l) (hg : ErrVar w) (h0 : -9223372036854775808 ≤ h) (h1 : h ≤ 9223372036854775807) :
    Calls Tryd.prog 3 #[.int .i64 L, fv, lv, .int .i64 h] w (TrueBelow w) := by
  have HF1 := Lib.hid fun W => fact_any W
  obtain ⟨fA, fc, rfl, hfc, hfr⟩ := id hf
  obtain ⟨lA, lc, rfl, hlc, hlr⟩ := id hl
  clear hlr
  obtain ⟨W2, hW2⟩ : ∃ W2, (w.alloc (Obj.cells #[.int .i64 L] 3)).alloc (Obj.cells #[.int .i64 h] 3) = W2 := ⟨_, rfl⟩
  have hb2 : Below w.heap.size w W2 := by rw [← hW2]; exact ((Below.refl _ _).alloc (Nat.le_refl _) _).alloc (by simp) _
  have hpl : W2.cell? ⟨w.heap.size, 0, none⟩ = some (.int .i64 L) := by rw [← hW2]; simp
  have hph : W2.cell? ⟨w.heap.size + 1, 0, none⟩ = some (.int .i64 h) := by rw [← hW2]; simp
  have HW2 := Lib.hid hW2
  have HB2 := Lib.hid hb2
  by_cases hbad : checkP L (setsOf L) f ≠ 0 ∨ wcheckP L l ≠ 0
  · have H2 := fun W hb => mholds_bad L _ _ f l W (Rd.mono (Rd.below hf hb) hb.size) (Rd.mono (Rd.below hl hb) hb.size) hbad
    have HH2 := Lib.hid H2
    clear H2 hf hl hbad hg hfr hW2 hb2
    go_enter Tryd.func3, Tryd.ntmps3
    go_wp2_with fail
    rw [HW2.out]
    refine (HF1.out _).mono ?_
    rintro e w1 ⟨rfl, hb1⟩
    have hl1 := (hb1.cell (p := ⟨w.heap.size, 0, none⟩) (by have := lt_of_cell hpl; exact this)).trans hpl
    have hb1' := HB2.out.trans (hb1.mono HB2.out.size)
    have H2 := HH2.out w1 hb1'
    have HB1 := Lib.hid hb1'
    clear hb1 hb1'
    go_wp2_with fail
    refine H2.mono ?_
    rintro e w2 ⟨⟨c, rfl⟩, hb2⟩
    have HB2' := Lib.hid (HB1.out.trans (hb2.mono HB1.out.size))
    clear hb2 H2
    go_wp2_with fail
    go_ret
    exact ⟨rfl, HB2'.out⟩
  · have hq : checkP L (setsOf L) f = 0 := by omega
    have hw : wcheckP L l = 0 := by omega
    obtain ⟨⟨hL1, hL6⟩, hn0, hn, hok⟩ := checkP_ok.1 hq
    obtain ⟨_, hln, hlin⟩ := wcheckP_ok.1 hw
    have H2 := fun W hb => mholds_ok L _ _ f l W (Rd.mono (Rd.below hf hb) hb.size) (Rd.mono (Rd.below hl hb) hb.size) hq hw
    obtain ⟨is, his⟩ : ∃ is, holds f l = is := ⟨_, rfl⟩
    rw [his] at H2
    have HH2 := Lib.hid H2
    obtain ⟨N, rfl⟩ : ∃ N : Nat, L = (N : Int) := ⟨L.toNat, by omega⟩
    have hN1 : 1 ≤ N := by omega
    have hN6 : N ≤ 6 := by omega
    have hsrc : ∃ b off, fA = some ⟨b, off, none⟩ ∧ b < w.heap.size ∧ ∀ j u, (ndCells f)[j]? = some u → w.cell? ((⟨b, off, none⟩ : Addr).add j) = some u := by
      obtain ⟨b, off, e1, e2, e3⟩ := hfr hn0
      refine ⟨b, off, e1, e2, fun j u hu => ?_⟩
      have e0 : (⟨b, off, none⟩ : Addr).add j = ⟨b, off + j, none⟩ := by unfold Addr.add; by_cases h0 : j = 0 <;> simp [h0]
      rw [e0]
      have hj : j < f.length * 3 := by
        have hlen : ∀ g : List Nd, (ndCells g).length = g.length * 3 := by
          intro g; induction g with
          | nil => rfl
          | cons x g ih => simp [ndCells, ih]; omega
        have := (List.getElem?_eq_some_iff.1 hu).1
        rw [hlen] at this; exact this
      rw [e3 j hj, ← ndCells_at f j hj]; exact hu
    obtain ⟨sb, soff, rfl, hsb, hsrc⟩ := hsrc
    have HSRC := Lib.hid hsrc
    have HOK := Lib.hid hok
    have HLN := Lib.hid hlin
    have HIS := Lib.hid his
    have HFR := Lib.hid hf
    have HLR := Lib.hid hl
    have HQ := Lib.hid hq
    have HWW := Lib.hid hw
    have HG := Lib.hid hg
    clear H2 hf hl hbad hg hfr hW2 hb2 hq hw hok hlin his hsrc
    generalize hfn : f.length = fn at *
    generalize hlnn : l.length = ln at *
    have HFN := Lib.hid hfn
    have HLNN := Lib.hid hlnn
    obtain ⟨i0, hi0, hz0, hz1, hz2⟩ := info_parts info_nd
    have hNcl : (ndCells f).length = fn * 3 := by
      rw [← hfn]
      have : ∀ g : List Nd, (ndCells g).length = g.length * 3 := by
        intro g; induction g with
        | nil => rfl
        | cons x g ih => simp [ndCells, ih]; omega
      exact this f
    have HNCL := Lib.hid hNcl
    have hone : ∀ u ∈ ndCells f, u.oneCell' = true := by
      have : ∀ (g : List Nd), ∀ u ∈ ndCells g, u.oneCell' = true := by
        intro g; induction g with
        | nil => simp [ndCells]
        | cons x g ih => intro u hu; simp [ndCells] at hu; rcases hu with rfl | rfl | rfl | hu <;> first | rfl | exact ih u hu
      exact this f
    have HONE := Lib.hid hone
    clear hfn hlnn hNcl hone
    go_enter Tryd.func3, Tryd.ntmps3
    go_wp2_with fail
    rw [HW2.out]
    refine (HF1.out _).mono ?_
    rintro e w1 ⟨rfl, hb1⟩
    have hl1 := (hb1.cell (p := ⟨w.heap.size, 0, none⟩) (by have := lt_of_cell hpl; exact this)).trans hpl
    have hh1 := (hb1.cell (p := ⟨w.heap.size + 1, 0, none⟩) (by have := lt_of_cell hph; exact this)).trans hph
    have hb1' := HB2.out.trans (hb1.mono HB2.out.size)
    have H2 := HH2.out w1 hb1'
    have HB1 := Lib.hid hb1'
    clear hb1 hb1' hpl hph
    go_wp2_with fail
    refine H2.mono ?_
    rintro e w2 ⟨rfl, hb2⟩
    have hl2 := (hb2.cell (p := ⟨w.heap.size, 0, none⟩) (lt_of_cell hl1)).trans hl1
    have hh2 := (hb2.cell (p := ⟨w.heap.size + 1, 0, none⟩) (lt_of_cell hh1)).trans hh1
    have hb2' := HB1.out.trans (hb2.mono HB1.out.size)
    have hsz2 := hb2'.size
    have HB2' := Lib.hid hb2'
    have hsrc2 : ∀ j u, (ndCells f)[j]? = some u → w2.cell? ((⟨sb, soff, none⟩ : Addr).add j) = some u := fun j u hu => by
      refine (hb2'.cell ?_).trans (HSRC.out j u hu)
      unfold Addr.add; split <;> exact hsb
    have HSRC2 := Lib.hid hsrc2
    clear hb2 H2 hb2' hsrc2 hl1 hh1
    go_upto_region 8 with (at_builtin; refine wpList_append_own_at _ rfl _ _ 22 rfl w2.heap.size 32 i0 _ 3 24 Tryd.underlying22 hi0 hz0 hz1 hz2 rfl (by decide) (.slice none 0 0) 0 [] rfl (World.ownsRow_nil _ _ _ _) ⟨sb, soff, none⟩ fn fc (ndCells f) rfl (by rw [HNCL.out]) HSRC2.out HONE.out (by unfold maxLen; omega) (by omega) (by omega) ?_; intro v5 w5 hown5 hgrow5 _ _)
    rw [Nat.zero_add, List.nil_append] at hown5
    have hb5 : Below w2.heap.size w2 w5 := (Below.refl _ _).grown hgrow5 (Nat.le_refl _) (by intro b h; cases h)
    have hgat : ∃ gb cap, v5 = .slice (some ⟨gb, 0, none⟩) fn cap ∧ w2.heap.size ≤ gb ∧ fn ≤ cap ∧ GAt w5 gb fn N h f 0 := by
      rcases hown5.2 with ⟨_, e⟩ | ⟨g, cap, cur, e, hbs, hh, hnc, _, hsz, ht⟩
      · omega
      · refine ⟨g, cap, e, hbs, hnc, ⟨cur, hh, fun q hq => ?_⟩⟩
        have e1 := ndCells_at f q (by rw [HFN.out]; exact hq)
        rw [← ht, List.getElem?_take, if_pos hq] at e1
        unfold mixv
        rw [if_neg (by omega)]
        simpa using e1
    obtain ⟨gb, gcap, rfl, hgb, hgcap, hga⟩ := hgat
    have HGA := Lib.hid hga
    have HB5 := Lib.hid hb5
    have hs5 := hb5.size
    clear hown5 hgrow5 hga hb5
    go_wp2_with fail
    go_loopw [43] (fun i wr => ∃ k : Nat, k ≤ fn ∧ i = .int .i64 (k : Int) ∧ Below w2.heap.size w2 wr ∧ GAt wr gb fn N h f k) (fun i _ => fn - (intOf i).toNat)
    case atStart => exact ⟨0, by omega, rfl, HB5.out, HGA.out⟩
    case round =>
      obtain ⟨k, hk, rfl, hbr, hga⟩ := hrel
      obtain ⟨wo, rfl⟩ : ∃ wo : World, wo = wr := ⟨_, rfl⟩
      by_cases hlt : k < fn
      · obtain ⟨cur, hblk, hcur⟩ := hga.blk
        obtain ⟨m1, m2, m3⟩ := mixv_at (N := N) (h := h) (f := f) (k := k)
        have c0 : wo.cell? ⟨gb, k * 3, none⟩ = some (.int .i64 (nd f k).k) := by rw [fld_cell hblk, hcur _ (by omega), m1]
        have c1 : wo.cell? ⟨gb, k * 3 + 1, none⟩ = some (.int .i64 (nd f k).a) := by rw [fld_cell hblk, hcur _ (by omega), m2]
        have cl := lt_blk hblk
        have hnok := HOK.out k (by rw [HFN.out]; exact hlt)
        have hnd : nd f k = f[k]'(by rw [HFN.out]; exact hlt) := by simp [nd, List.getD, show k < f.length by rw [HFN.out]; exact hlt]
        rw [← hnd] at hnok
        have hlw := (hbr.cell (p := ⟨w.heap.size, 0, none⟩) (lt_of_cell hl2)).trans hl2
        have hhw := (hbr.cell (p := ⟨w.heap.size + 1, 0, none⟩) (lt_of_cell hh2)).trans hh2
        have hlz := lt_of_cell hlw
        have hhz := lt_of_cell hhw
        dsimp only at hlz hhz
        have HNOK := Lib.hid hnok
        have HGA' := Lib.hid hga
        have HBR := Lib.hid hbr
        have hsame := fun h2 => hga.same HFN.out hlt h2
        have HSAME := Lib.hid hsame
        obtain ⟨xk, hxk⟩ : ∃ x, (nd f k).k = x := ⟨_, rfl⟩
        obtain ⟨xa, hxa⟩ : ∃ x, (nd f k).a = x := ⟨_, rfl⟩
        rw [hxk] at c0
        rw [hxa] at c1
        have HXK := Lib.hid hxk
        have HXA := Lib.hid hxa
        clear hblk hcur m1 m2 m3 hnok hnd hga hbr hsame hxk hxa
        by_cases hk2 : xk = 2
        · subst hk2
          obtain ⟨_, hleaf, _, _⟩ := HNOK.out
          obtain ⟨_, hset, _⟩ := hleaf (by rw [HXK.out]; rfl)
          have hset := hset HXK.out
          rw [HXA.out] at hset
          have hM := (setsOf_le hL1 hL6).2
          have hxa0 : 0 ≤ xa := hset.1
          have hxa64 : xa < 64 := by omega
          clear hleaf hset hM
          go_wp2_with fail
          go_loopw [14, 53] (fun s a wr2 => ∃ j : Nat, j ≤ N ∧ a = .int .i64 (j : Int) ∧ s = .int .i64 ((turnBits (atT N h) xa j : Nat) : Int) ∧ Below wo.heap.size wo wr2) (fun _ a _ => N - (intOf a).toNat)
          case atStart => exact ⟨0, by omega, rfl, rfl, Below.refl _ _⟩
          case round =>
            obtain ⟨j, hj, rfl, rfl, hb2⟩ := hrel
            obtain ⟨wi, rfl⟩ : ∃ wi : World, wi = wr := ⟨_, rfl⟩
            by_cases hjN : j < N
            · have c1' := (hb2.cell (p := ⟨gb, k * 3 + 1, none⟩) cl).trans c1
              have hl' := (hb2.cell (p := ⟨w.heap.size, 0, none⟩) hlz).trans hlw
              have hh' := (hb2.cell (p := ⟨w.heap.size + 1, 0, none⟩) hhz).trans hhw
              have cl' := Nat.lt_of_lt_of_le cl hb2.size
              have hbit := isbit xa j hxa0 hxa64
              have hlt2 := turnBits_lt (L := N) (φ := atT N h) (fun a _ => atT_in (by omega)) xa j (by omega)
              have h264 : 2 ^ N ≤ 64 := by
                have : 2 ^ N ≤ 2 ^ 6 := Nat.pow_le_pow_right (by decide) hN6
                exact this
              have hturn : turnBits (atT N h) xa (j + 1) = if bit xa j then turnBits (atT N h) xa j ||| (1 <<< (atT N h j).toNat) else turnBits (atT N h) xa j := rfl
              obtain ⟨TB, hTB⟩ : ∃ T, turnBits (atT N h) xa j = T := ⟨_, rfl⟩
              rw [hTB] at hlt2 hturn ⊢
              obtain ⟨A, hA⟩ : ∃ A : Nat, atT N h j = A := ⟨(atT N h j).toNat, by have := atT_in (L := N) (h := h) (a := j) (by omega); omega⟩
              have hAN : A < N := by have := atT_in (L := N) (h := h) (a := j) (by omega); omega
              have hcall := at_any N h j ⟨w.heap.size + 1, 0, none⟩ ⟨w.heap.size, 0, none⟩ wi hh' hl' hN1 hN6 hjN h0 h1
              rw [hA] at hcall hturn
              have hor := or_pow64 TB A (by omega) (by omega)
              have HC := Lib.hid hcall
              have HTU := Lib.hid hturn
              have HOR := Lib.hid hor
              have HBI := Lib.hid hb2
              clear hcall hturn hor hTB hA hb2 h264
              cases hB : bit xa j
              · rw [hB] at hbit HTU
                clear hB
                go_wp2_with fail
                go_roundw
                case rel => exact ⟨j + 1, by omega, by go_num, by rw [HTU.out]; rfl, HBI.out⟩
                case measure => simp [intOf]; omega
              · rw [hB] at hbit HTU
                clear hB
                go_wp2_with fail
                refine HC.out.mono ?_
                rintro e w7 ⟨rfl, nn, hw7⟩
                have HB7 := Lib.hid (show Below wo.heap.size wo w7 by rw [hw7]; exact below_drewN HBI.out _)
                clear hw7
                go_wp2_with fail
                go_roundw
                case rel => exact ⟨j + 1, by omega, by go_num, by rw [HOR.out, HTU.out]; simp, HB7.out⟩
                case measure => simp [intOf]; omega
            · have hjN' : j = N := by omega
              subst hjN'
              have hga2 := HGA'.out.below hb2
              obtain ⟨cur2, hblk2, _⟩ := hga2.blk
              have c1' := (hb2.cell (p := ⟨gb, k * 3 + 1, none⟩) cl).trans c1
              have cf := fld_frozen hblk2 (k * 3 + 1)
              have cl' := Nat.lt_of_lt_of_le cl hb2.size
              have hset := hga2.set HFN.out hlt HXK.out
              rw [HXA.out] at hset
              have hbel : Below w2.heap.size w2 wi := HBR.out.trans (hb2.mono HBR.out.size)
              obtain ⟨TB, hTB⟩ : ∃ T, turnBits (atT j h) xa j = T := ⟨_, rfl⟩
              rw [hTB] at hset ⊢
              have HSET := Lib.hid hset
              have HBEL := Lib.hid hbel
              clear hga2 hblk2 hset hbel hb2 hTB
              go_wp2_with fail
              go_roundw
              case rel => exact ⟨k + 1, by omega, by go_num, HBEL.out.setCell hgb _, HSET.out⟩
              case measure => simp [intOf]; omega
        · have hkb : (xk == 2) = false := by simpa using hk2
          have HK2 := Lib.hid hk2
          clear hk2
          go_wp2_with fail
          go_roundw
          case rel => exact ⟨k + 1, by omega, by go_num, HBR.out, HSAME.out (by rw [HXK.out]; exact HK2.out)⟩
          case measure => simp [intOf]; omega
      · have hkn : k = fn := by omega
        subst hkn
        have hgN : RdN wo wo.heap.size (.slice (some ⟨gb, 0, none⟩) k gcap) (f.map (turnNd N (atT N h))) := by
          obtain ⟨cur, hblk, hcur⟩ := hga.blk
          refine ⟨_, gcap, by rw [List.length_map, HFN.out], by rw [List.length_map, HFN.out]; exact hgcap, fun _ => ⟨gb, 0, rfl, lt_blk hblk, fun q hq => ?_⟩⟩
          rw [List.length_map, HFN.out] at hq
          rw [Nat.zero_add, fld_cell hblk, hcur q hq]
          unfold mixv
          rw [if_pos (by omega)]
        have hlw := (hbr.cell (p := ⟨w.heap.size, 0, none⟩) (lt_of_cell hl2)).trans hl2
        have hhw := (hbr.cell (p := ⟨w.heap.size + 1, 0, none⟩) (lt_of_cell hh2)).trans hh2
        have hbw : Below w.heap.size w wo := HB2'.out.trans (hbr.mono hsz2)
        have hsz3 := hbw.size
        have HGN := Lib.hid hgN
        have HBW := Lib.hid hbw
        obtain ⟨j0, hj0, hy0, hy1, hy2⟩ := info_parts info_i
        clear hgN hbw hga hbr hl2 hh2 HGA HB5 HB2'
        go_wp2_with fail
        go_loopw [16, 80] (fun v i wr => ∃ k2 : Nat, k2 ≤ ln ∧ i = .int .i64 (k2 : Int) ∧ Below wo.heap.size wo wr ∧ wr.ownsRow wo.heap.size 3 1 v k2 (((l.take k2).map (atT N h)).map fun x => Value.int .i64 x)) (fun _ i _ => ln - (intOf i).toNat)
        case atStart => exact ⟨0, by omega, rfl, Below.refl _ _, World.ownsRow_nil _ _ _ _⟩
        case round =>
          obtain ⟨k2, hk2, rfl, hbr, hown⟩ := hrel
          obtain ⟨wi, rfl⟩ : ∃ wi : World, wi = wr := ⟨_, rfl⟩
          have hwsz := hbr.size
          by_cases hlt : k2 < ln
          · have hkl : k2 < l.length := by rw [HLNN.out]; exact hlt
            obtain ⟨A, c, ea, _, hca⟩ := HLR.out
            injection ea with ea ea2 ea3
            subst ea
            clear ea2 ea3
            obtain ⟨b, off, e2, e3, e4⟩ := hca (by rw [HLNN.out]; omega)
            subst e2
            have hx := e4 k2 (by rw [HLNN.out]; omega)
            obtain ⟨X, hX⟩ : ∃ X : Nat, l[k2] = (X : Int) := ⟨l[k2].toNat, by have := HLN.out _ (List.getElem_mem hkl); omega⟩
            have hXN : X < N := by have := HLN.out _ (List.getElem_mem hkl); omega
            have hbw : Below w.heap.size w wi := HBW.out.trans (hbr.mono hsz3)
            have hx' : wi.cell? ⟨b, off + k2, none⟩ = some (.int .i64 (X : Int)) := by
              refine (hbw.cell (p := ⟨b, off + k2, none⟩) e3).trans ?_
              rw [hx]; simp [ints, List.getD, hkl, hX]
            have hbl := lt_of_cell hx'
            dsimp only at hbl
            have hl' := (hbr.cell (p := ⟨w.heap.size, 0, none⟩) (lt_of_cell hlw)).trans hlw
            have hh' := (hbr.cell (p := ⟨w.heap.size + 1, 0, none⟩) (lt_of_cell hhw)).trans hhw
            have hcall := at_any N h X ⟨w.heap.size + 1, 0, none⟩ ⟨w.heap.size, 0, none⟩ wi hh' hl' hN1 hN6 hXN h0 h1
            have htk : (l.take (k2 + 1)).map (atT N h) = (l.take k2).map (atT N h) ++ [atT N h X] := by rw [List.take_succ_eq_append_getElem hkl, List.map_append, hX]; rfl
            obtain ⟨A2, hA2⟩ : ∃ A, atT N h X = A := ⟨_, rfl⟩
            rw [hA2] at hcall htk
            obtain ⟨vA, vc, rfl⟩ : ∃ A c, u16 = .slice A k2 c := own_shape hown
            have HC := Lib.hid hcall
            have HTK := Lib.hid htk
            have HOWN := Lib.hid hown
            have HBR := Lib.hid hbr
            clear hcall htk hown hbr hx hX hbw hca e4 hA2 hl' hh'
            go_wp2_with fail
            refine HC.out.mono ?_
            rintro e w7 ⟨rfl, nn, hw7⟩
            have hb7 : Below wi.heap.size wi w7 := by rw [hw7]; exact below_drewN (Below.refl _ _) _
            have hown7 := own_below HOWN.out hb7
            have hsz7 := hb7.size
            have HOWN7 := Lib.hid hown7
            have HB7 := Lib.hid hb7
            clear hw7 hb7 hown7
            go_wp2_with (at_builtin; refine wpList_append_lies _ rfl _ _ 23 rfl wo.heap.size 3 j0 _ 1 8 Tryd.underlying23 hj0 hy0 hy1 hy2 rfl (by decide) (.slice vA k2 vc) k2 _ rfl (HOWN7.out.alloc _) ⟨w7.heap.size, 0, none⟩ 1 1 [.int .i64 A2] rfl rfl (cell_one_new _ _ _) (by simp [Value.oneCell']) (by decide) (by unfold maxLen; omega) (by omega) (by simp; omega) _ rfl ?_; intro g' cap' w8 hown8 hgrow8 hat8 hlt8)
            have hb8 : Below wo.heap.size wo w8 := by
              have h1 := (HBR.out.trans (HB7.out.mono hwsz)).alloc (by omega) (Obj.cells #[.int .i64 A2] 3)
              exact h1.grown hgrow8 (by simp; omega) (fun b hb => (HOWN7.out.lt b hb).1)
            have HB8 := Lib.hid hb8
            have HOWN8 := Lib.hid hown8
            clear hb8 hown8 hgrow8 hat8
            go_roundw
            case rel => exact ⟨k2 + 1, by omega, by go_num, HB8.out, by rw [HTK.out, List.map_append]; exact HOWN8.out⟩
            case measure => simp [intOf]; omega
          · have hkl : k2 = ln := by omega
            subst hkl
            have htl : l.take k2 = l := by rw [← HLNN.out, List.take_length]
            rw [htl] at hown
            have hvR : RdI wi wi.heap.size u16 (l.map (atT N h)) := by
              have h1 := Rd.of_own hown (g := ints (l.map (atT N h))) (fun j hj => own_ints (l.map (atT N h)) j (by rw [List.length_map, HLNN.out]; exact hj))
              unfold RdI
              rw [List.length_map, HLNN.out]
              exact h1
            have hgN := Rd.mono (Rd.below HGN.out hbr) hbr.size
            have hbw := HBW.out.trans (hbr.mono hsz3)
            have hl' := (hbr.cell (p := ⟨w.heap.size, 0, none⟩) (lt_of_cell hlw)).trans hlw
            obtain ⟨vA, vc, rfl⟩ : ∃ A c, u16 = .slice A k2 c := own_shape hown
            have hL0 := lt_of_cell hl'
            dsimp only at hL0
            have HVR := Lib.hid hvR
            have HGN' := Lib.hid hgN
            have HBW' := Lib.hid hbw
            clear hown htl hbr hvR hgN hbw hlw hhw
            have hφ : ∀ a : Nat, a < N → 0 ≤ atT N h a ∧ atT N h a < N := fun a _ => atT_in (by omega)
            have hinj : ∀ a b : Nat, a < N → b < N → atT N h a = atT N h b → a = b := fun a b ha hb e => by
              have := atT_inj (L := N) (h := h) (a := a) (b := b) (by omega) (by omega) e
              omega
            have hset := setsOf_le hL1 hL6
            have hset1 : setsOf (N : Int) = ((2 ^ N : Nat) : Int) := by rw [hset.1]; simp
            have hGok : okF futK (setsOf (N : Int)) (f.map (turnNd N (atT N h))) := turn_ok hφ hset1 HOK.out
            have hGlen : (f.map (turnNd N (atT N h))).length = k := by rw [List.length_map, HFN.out]
            have hGq : checkP (N : Int) (setsOf (N : Int)) (f.map (turnNd N (atT N h))) = 0 := checkP_ok.2 ⟨⟨hL1, hL6⟩, by omega, by omega, hGok⟩
            have hVin : ∀ a ∈ l.map (atT N h), 0 ≤ a ∧ a < (N : Int) := fun a ha => by
              obtain ⟨b, hb, rfl⟩ := List.mem_map.1 ha
              exact atT_in (by omega)
            have hVw : wcheckP (N : Int) (l.map (atT N h)) = 0 := wcheckP_ok.2 ⟨⟨hL1, hL6⟩, by rw [List.length_map, HLNN.out]; exact hln, hVin⟩
            have hwl : Wrd N l := fun a ha => HLN.out a ha
            have hhold : holds (f.map (turnNd N (atT N h))) (l.map (atT N h)) = is := by rw [turn_holds hφ hinj f l hwl]; exact HIS.out
            have H3 := mholds_ok (N : Int) _ _ _ _ wi HGN'.out HVR.out hGq hVw
            rw [hhold] at H3
            have hqf : checkP (N : Int) (setsOf (N : Int)) f = 0 := HQ.out
            have H4 := fun W hb => make_any N (setsOf (N : Int)) _ f W (Rd.mono (Rd.below HFR.out hb) hb.size) (by omega) (by omega) (by simp [setsOf]) hset.2 hqf HOK.out (by rw [HFN.out]; exact hn0) (by rw [HFN.out]; exact hn)
            have H5 := fun W hb => make_any N (setsOf (N : Int)) _ (f.map (turnNd N (atT N h))) W (Rd.mono (Rd.below HGN'.out hb) hb.size) (by omega) (by omega) (by simp [setsOf]) hset.2 hGq hGok (by omega) (by omega)
            simp only [err_words] at H4 H5
            have hne : f ≠ [] := by intro e; rw [e] at hGlen; simp at hGlen; omega
            have hneG : f.map (turnNd N (atT N h)) ≠ [] := by intro e; rw [e] at hGlen; simp at hGlen; omega
            have hwr : ∀ j, Wrd N (l.take j) := fun j a ha => hwl a (List.mem_of_mem_take ha)
            have hwrV : ∀ j, Wrd N ((l.map (atT N h)).take j) := fun j a ha => hVin a (List.mem_of_mem_take ha)
            have hm1 : ∀ d, makeP N f = some d → MakeOk N f d := fun d e => makeP_ok hne e
            have hm2 : ∀ d, makeP N (f.map (turnNd N (atT N h))) = some d → MakeOk N (f.map (turnNd N (atT N h))) d := fun d e => makeP_ok hneG e
            have heq : ∀ d e, makeP N f = some d → makeP N (f.map (turnNd N (atT N h))) = some e → d.next.length = e.next.length := fun d e e1 e2 => by
              have l1 := makeP_le hne hneG (atT N h) (fun a _ => atT_in (by omega)) (fun u hu => (turn_holds hφ hinj f u hu).symm) e1 e2
              have l2 := makeP_le hneG hne (atI N h) (fun a _ => atI_in (by omega)) (fun u hu => by
                have hu2 : Wrd N (u.map (atI N h)) := fun a ha => by
                  obtain ⟨b, _, rfl⟩ := List.mem_map.1 ha
                  exact atI_in (by omega)
                have h3 := turn_holds hφ hinj f (u.map (atI N h)) hu2
                have h4 : (u.map (atI N h)).map (atT N h) = u := by
                  rw [List.map_map]
                  conv => rhs; rw [← List.map_id u]
                  refine List.map_congr_left fun a ha => ?_
                  have := hu a ha
                  exact atT_atI this
                rw [h4] at h3; exact h3) e2 e1
              omega
            have hhk : ∀ j, holds (f.map (turnNd N (atT N h))) ((l.map (atT N h)).take j) = holds f (l.take j) := fun j => by
              rw [← List.map_take]; exact turn_holds hφ hinj f _ (hwr j)
            have hVat : ∀ j (hj : j < k2), (l.map (atT N h)).take (j + 1) = (l.map (atT N h)).take j ++ [atT N h (l.getD j 0)] := fun j hj => by
              rw [List.take_succ_eq_append_getElem (by rw [List.length_map, HLNN.out]; exact hj)]
              simp [List.getD, show j < l.length by rw [HLNN.out]; exact hj]
            obtain ⟨R1, hR1⟩ : ∃ R, makeP N f = R := ⟨_, rfl⟩
            obtain ⟨R2, hR2⟩ : ∃ R, makeP N (f.map (turnNd N (atT N h))) = R := ⟨_, rfl⟩
            rw [hR1] at H4 hm1 heq
            simp only [hR2] at H5 hm2 heq
            generalize hGG : f.map (turnNd N (atT N h)) = G at *
            generalize hVV : l.map (atT N h) = V at *
            have HH3 := Lib.hid H3
            have HH4 := Lib.hid H4
            have HH5 := Lib.hid H5
            have HM1 := Lib.hid hm1
            have HM2 := Lib.hid hm2
            have HEQ := Lib.hid heq
            have HWR := Lib.hid hwr
            have HWRV := Lib.hid hwrV
            have HHK := Lib.hid hhk
            have HVA := Lib.hid hVat
            have HVIN := Lib.hid hVin
            clear H3 H4 H5 hm1 hm2 heq hwr hwrV hhk hVat hφ hinj hset hset1 hGok hGlen hGq hVin hVw hwl hhold hqf hne hneG hR1 hR2 hGG hVV
            go_wp2_with fail
            refine HH3.out.mono ?_
            rintro e w3 ⟨rfl, hb3⟩
            have hl3 := (hb3.cell (p := ⟨w.heap.size, 0, none⟩) hL0).trans hl'
            have hb3' := HBW'.out.trans (hb3.mono HBW'.out.size)
            have hz3 := lt_of_cell hl3
            dsimp only at hz3
            have HB3 := Lib.hid hb3'
            have HB3i := Lib.hid hb3
            have H4 := HH4.out w3 hb3'
            clear hb3 hb3' hl'
            go_wp2_with fail
            refine H4.mono ?_
            rintro e w4 ⟨hb4, dv, rfl, hd4, x1, x2, xA, xn, xc, yA, yn, yc, rfl⟩
            obtain ⟨ev1, hev1⟩ : ∃ ev, (if R1.isSome = true then Value.nilIface else .iface 52 (.int .i64 4)) = ev := ⟨_, rfl⟩
            rw [hev1]
            have HEV1 := Lib.hid hev1
            clear hev1
            have hl4 := (hb4.cell (p := ⟨w.heap.size, 0, none⟩) hz3).trans hl3
            have hz4 := lt_of_cell hl4
            dsimp only at hz4
            have hb4' := HB3.out.trans (hb4.mono HB3.out.size)
            have HB4 := Lib.hid hb4'
            have HD4 := Lib.hid hd4
            have H5 := HH5.out (w4.alloc (Obj.cells #[.int .i64 x1, .int .i64 x2, .slice xA xn xc, .slice yA yn yc] 36)) (up_trans (up_trans HB3i.out hb4) (up_alloc _ _))
            have HB34 := Lib.hid hb4
            clear hb4 hb4' hd4 H4 hl3
            go_wp2_with fail
            refine H5.mono ?_
            rintro e w5 ⟨hb5, ev, rfl, hd5, z1, z2, zA, zn, zc, vA2, vn2, vc2, rfl⟩
            obtain ⟨ev2, hev2⟩ : ∃ ev, (if R2.isSome = true then Value.nilIface else .iface 52 (.int .i64 4)) = ev := ⟨_, rfl⟩
            rw [hev2]
            have HEV2 := Lib.hid hev2
            clear hev2
            have hb45 : Below w4.heap.size w4 w5 := (up_alloc w4 _).trans (hb5.mono (by simp))
            have hb5' : Below w.heap.size w w5 := HB4.out.trans (hb45.mono HB4.out.size)
            have HB5 := Lib.hid hb5'
            have HD5 := Lib.hid hd5
            have hx5 := (hb5.block _ (by simp)).trans (heap_new w4 (Obj.cells #[.int .i64 x1, .int .i64 x2, .slice xA xn xc, .slice yA yn yc] 36))
            have HX5 := Lib.hid hx5
            have HB45 := Lib.hid hb45
            have HBI5 := Lib.hid (up_trans (up_trans HB3i.out HB34.out) hb45)
            clear hb5 hb5' hd5 hx5 hb45 H5 hl4
            go_upto_region 32 with fail
            obtain ⟨W6, hW6⟩ : ∃ W6, w5.alloc (Obj.cells #[.int .i64 z1, .int .i64 z2, .slice zA zn zc, .slice vA2 vn2 vc2] 36) = W6 := ⟨_, rfl⟩
            have hb56 : Below w5.heap.size w5 W6 := by rw [← hW6]; exact (Below.refl _ _).alloc (Nat.le_refl _) _
            have hy6 : W6.heap[w5.heap.size]? = some (Obj.cells #[.int .i64 z1, .int .i64 z2, .slice zA zn zc, .slice vA2 vn2 vc2] 36) := by rw [← hW6]; exact heap_new _ _
            rw [hW6]
            have hx6 := (hb56.block _ (lt_blk HX5.out)).trans HX5.out
            have hB6 : Below w.heap.size w W6 := HB5.out.trans (hb56.mono HB5.out.size)
            have hg6 := HG.out.below hB6
            have HY6 := Lib.hid hy6
            have HX6 := Lib.hid hx6
            have HB56 := Lib.hid hb56
            have HB6 := Lib.hid hB6
            have HG6 := Lib.hid hg6
            clear hb56 hy6 hx6 hB6 hg6 hW6
            rcases R1 with _ | d
            · obtain rfl : Value.iface 52 (.int .i64 4) = ev1 := HEV1.out
              have H := error_hit 4 W6 HG6.out
              have HH := Lib.hid H
              clear H
              go_wp2_with fail
              refine HH.out.mono ?_
              rintro e w7 ⟨rfl, hb7⟩
              have HB7 := Lib.hid (HB6.out.trans (hb7.mono HB6.out.size))
              clear hb7
              go_wp2_with fail
              go_ret
              exact ⟨rfl, HB7.out⟩
            · obtain rfl : Value.nilIface = ev1 := HEV1.out
              rcases R2 with _ | d2
              · obtain rfl : Value.iface 52 (.int .i64 4) = ev2 := HEV2.out
                have H := error_hit 4 W6 HG6.out
                have HH := Lib.hid H
                clear H
                go_wp2_with fail
                refine (error_nil 4 (by decide) _).mono ?_
                rintro e w7 ⟨rfl, rfl⟩
                go_wp2_with fail
                refine HH.out.mono ?_
                rintro e w7 ⟨rfl, hb7⟩
                have HB7 := Lib.hid (HB6.out.trans (hb7.mono HB6.out.size))
                clear hb7
                go_wp2_with fail
                go_ret
                exact ⟨rfl, HB7.out⟩
              · obtain rfl : Value.nilIface = ev2 := HEV2.out
                have m1 := HM1.out d rfl
                have m2 := HM2.out d2 rfl
                obtain ⟨nb, no, nc, fb, fo, fc', e1, hnc, hfc', hd⟩ := da_rd (HD4.out d rfl) m1 (by omega)
                obtain ⟨nb2, no2, nc2, fb2, fo2, fc2, e2, hnc2, hfc2, hd2⟩ := da_rd (HD5.out d2 rfl) m2 (by omega)
                simp at e1 e2
                obtain ⟨rfl, rfl, ⟨rfl, rfl, rfl⟩, rfl, rfl, rfl⟩ := e1
                obtain ⟨rfl, rfl, ⟨rfl, rfl, rfl⟩, rfl, rfl, rfl⟩ := e2
                have hd6 := (hd.made HB45.out).made HB56.out
                have hd26 := hd2.made HB56.out
                have hxc := fun k => fld_cell HX6.out k
                have hyc := fun k => fld_cell HY6.out k
                have x1 := hxc 1
                have x2 := hxc 2
                have x3 := hxc 3
                have y1 := hyc 1
                have y2 := hyc 2
                have y3 := hyc 3
                have hxl := lt_blk HX6.out
                have hyl := lt_blk HY6.out
                simp at x1 x2 x3 y1 y2 y3
                have HM1' := Lib.hid m1
                have HM2' := Lib.hid m2
                have HD6 := Lib.hid hd6
                have HD26 := Lib.hid hd26
                have hle := HEQ.out d d2 rfl rfl
                clear hd hd2 hd6 hd26 m1 m2 hxc hyc
                generalize hn1 : d.next.length = n1 at *
                generalize hn2 : d2.next.length = n2 at *
                have HN1 := Lib.hid hn1
                have HN2 := Lib.hid hn2
                clear hn1 hn2
                subst hle
                go_upto_region 34 with fail
                go_quiet (fail)
                have hBq : Below W6.heap.size W6 (W6.drewN nq) := below_drewN (Below.refl _ _) _
                obtain ⟨Wq, hWq⟩ : ∃ Wq, W6.drewN nq = Wq := ⟨_, rfl⟩
                rw [hWq] at hBq ⊢
                have HBq := Lib.hid hBq
                clear hBq hWq
                go_wp2_with fail
                go_loopw [24, 25, 26] (fun s t i wr => Below Wq.heap.size Wq wr ∧ ∃ j : Nat, j ≤ k2 ∧ i = .int .i64 (j : Int) ∧ s = .int .i64 (goes d.next 0 (l.take j)) ∧ t = .int .i64 (goes d2.next 0 (V.take j))) (fun _ _ i _ => k2 - (intOf i).toNat)
                case atStart => exact ⟨Below.refl _ _, 0, by omega, rfl, rfl, rfl⟩
                case round =>
                  obtain ⟨hbr, j, hj0, rfl, rfl, rfl⟩ := hrel
                  obtain ⟨wo, rfl⟩ : ∃ wo : World, wo = wr := ⟨_, rfl⟩
                  have hb6 : Below W6.heap.size W6 wo := HBq.out.trans (hbr.mono HBq.out.size)
                  have hbw : Below w.heap.size w wo := HB6.out.trans (hb6.mono HB6.out.size)
                  obtain ⟨S, hS, hSn, hSf, hSg⟩ := goes_at HM1'.out (HWR.out j)
                  obtain ⟨T, hT, hTn, hTf, hTg⟩ := goes_at HM2'.out (HWRV.out j)
                  rw [HHK.out j] at hTf
                  rw [hS, hT]
                  obtain ⟨bb, hbb⟩ : ∃ bb, holds f (l.take j) = bb := ⟨_, rfl⟩
                  have hdw := HD6.out.made hb6
                  have hdw2 := HD26.out.made hb6
                  obtain ⟨p1, rb, ro, rc, p2, p3, p4, p5⟩ := hdw.2.2 S hSn
                  obtain ⟨q1, rb2, ro2, rc2, q2, q3, q4, q5⟩ := hdw2.2.2 T hTn
                  rw [hSf, hbb] at p1
                  rw [hTf, hbb] at q1
                  rw [HN1.out] at hSn
                  rw [HN2.out] at hTn
                  have f1 := hdw.2.1
                  have f2 := hdw.1
                  have f3 := hdw2.2.1
                  have f4 := hdw2.1
                  have c2 := (hb6.cell (p := ⟨w4.heap.size, 2, none⟩) hxl).trans x2
                  have c3 := (hb6.cell (p := ⟨w4.heap.size, 3, none⟩) hxl).trans x3
                  have d2' := (hb6.cell (p := ⟨w5.heap.size, 2, none⟩) hyl).trans y2
                  have d3 := (hb6.cell (p := ⟨w5.heap.size, 3, none⟩) hyl).trans y3
                  have cl := Nat.lt_of_lt_of_le hxl hb6.size
                  have dl := Nat.lt_of_lt_of_le hyl hb6.size
                  by_cases hltj : j < k2
                  · have hkl : j < l.length := by rw [HLNN.out]; exact hltj
                    obtain ⟨A, c, ea, _, hca⟩ := HLR.out
                    injection ea with ea ea2 ea3
                    subst ea
                    clear ea2 ea3
                    obtain ⟨b, off, e2, e3, e4⟩ := hca (by rw [HLNN.out]; omega)
                    subst e2
                    have hx := e4 j (by rw [HLNN.out]; omega)
                    obtain ⟨X, hX⟩ : ∃ X : Nat, l[j] = (X : Int) := ⟨l[j].toNat, by have := HLN.out _ (List.getElem_mem hkl); omega⟩
                    have hXN : X < N := by have := HLN.out _ (List.getElem_mem hkl); omega
                    have hx' : wo.cell? ⟨b, off + j, none⟩ = some (.int .i64 (X : Int)) := by
                      refine (hbw.cell (p := ⟨b, off + j, none⟩) e3).trans ?_
                      rw [hx]; simp [ints, List.getD, hkl, hX]
                    have htk : l.take (j + 1) = l.take j ++ [(X : Int)] := by rw [List.take_succ_eq_append_getElem hkl, hX]
                    have r1 := p5 X hXN
                    have hbi := HBI5.out.trans ((HB56.out.trans (hb6.mono HB56.out.size)).mono HBI5.out.size)
                    have hVlen : V.length = k2 := by
                      obtain ⟨A9, c9, e9, _, _⟩ := HVR.out
                      injection e9 with _ e9
                      exact e9.symm
                    obtain ⟨A9, c9, ea9, _, hca9⟩ := HVR.out
                    injection ea9 with ea9 ea92 ea93
                    subst ea9
                    clear ea92 ea93
                    obtain ⟨b9, off9, e29, e39, e49⟩ := hca9 (by omega)
                    subst e29
                    have hy9 := e49 j (by omega)
                    have hjV : j < V.length := by omega
                    obtain ⟨Y, hY⟩ : ∃ Y : Nat, V[j] = (Y : Int) := ⟨V[j].toNat, by have := HVIN.out _ (List.getElem_mem hjV); omega⟩
                    have hYN : Y < N := by have := HVIN.out _ (List.getElem_mem hjV); omega
                    have hy' : wo.cell? ⟨b9, off9 + j, none⟩ = some (.int .i64 (Y : Int)) := by
                      refine (hbi.cell (p := ⟨b9, off9 + j, none⟩) e39).trans ?_
                      rw [hy9]; simp [ints, List.getD, hjV, hY]
                    have htk2 : V.take (j + 1) = V.take j ++ [(Y : Int)] := by rw [List.take_succ_eq_append_getElem hjV, hY]
                    have hbl9 := lt_of_cell hy'
                    dsimp only at hbl9
                    have r2 := q5 Y hYN
                    rw [hSg X, ← htk] at r1
                    rw [hTg Y, ← htk2] at r2
                    obtain ⟨G1, hG1⟩ : ∃ G, goes d.next 0 (l.take (j + 1)) = G := ⟨_, rfl⟩
                    obtain ⟨G2, hG2⟩ : ∃ G, goes d2.next 0 (V.take (j + 1)) = G := ⟨_, rfl⟩
                    rw [hG1] at r1
                    rw [hG2] at r2
                    have hbl2 : b < wo.heap.size := Nat.lt_of_lt_of_le e3 hbw.size
                    have hne : ((j : Int) == (k2 : Int)) = false := by simp; omega
                    have HBR := Lib.hid hbr
                    have HG1 := Lib.hid hG1
                    have HG2 := Lib.hid hG2
                    clear hbi hVlen hy9 hca9 e49 hY htk2 hx hX htk hS hT hSf hTf hSg hTg hbb hbr hb6 hbw hdw hdw2 hG1 hG2 e4 hca p5 q5
                    go_upto_region 37 with fail
                    go_quiet (fail)
                    go_upto_region 41 with fail
                    go_quiet (fail)
                    go_wp2_with fail
                    go_roundw
                    case rel => exact ⟨below_drewN HBR.out _, j + 1, by omega, by go_num, by rw [HG1.out], by rw [HG2.out]⟩
                    case measure => simp [intOf]; omega
                  · have hkl : j = k2 := by omega
                    subst hkl
                    have hbi : bb = is := by rw [← hbb, ← HIS.out, ← HLNN.out, List.take_length]
                    subst hbi
                    have hleb : ((n1 : Int) == (n1 : Int)) = true := by simp
                    have hne : ((j : Int) == (j : Int)) = true := by simp
                    have HBR := Lib.hid hbr
                    have HBW := Lib.hid hbw
                    clear hS hT hSf hTf hSg hTg hbb hbr hb6 hbw hdw hdw2 p5 q5
                    go_upto_region 37 with fail
                    go_quiet (fail)
                    go_wp2_with fail
                    go_ret
                    exact ⟨by simp, below_drewN HBW.out _⟩
end Go.Proofs.YtccknopchddicaaDoor
