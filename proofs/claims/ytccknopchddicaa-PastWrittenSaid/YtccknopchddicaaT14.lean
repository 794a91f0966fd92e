/- contract: PastWritten answers true. -/
import Derived.Test.YtccknopchddicaaT13
import Derived.Test.YtccknopchddicaaQ4
import Derived.Test.YtccknopchddicaaF1
namespace Go.Proofs.Ytccknopchddicaa
open Go.RowKit Stile
def TrueBelow (w : World) (e : Ending) (w' : World) : Prop := e = .returned (.bool true) ∧ Below w.heap.size w w'
theorem swapR_spec {ks : Int → Bool} {m : Int} {D} {f : List Nd} {which : Int} {byT : W → Option W} (hks : ∀ k, ks k = true → anyK k = true) (hf : okF ks m f) (h0 : 0 < f.length) (hby : ∀ t u, t.ok ks m → byT t = some u → u.ok ks m ∧ Agree D t.sem u.sem) {u : W} (h : swapR f which byT = some u) :
    u.ok ks m ∧ Agree D (tree f).sem u.sem := by
  unfold swapR at h
  split at h
  · cases h
  · exact swapT_spec hby (tree_ok hks f hf (by intro e; rw [e] at h0; simp at h0)) h
set_option maxRecDepth 100000 in
set_option maxHeartbeats 3200000 in
theorem past_written (L which how : Int) (fv lv : Value) (f : List Nd) (l : List Int) (w : World) (hf : RdN w w.heap.size fv f) (hl : RdI w w.heap.size lv l) (hw0 : -9223372036854775808 ≤ which) (hw1 : which ≤ 9223372036854775807) (h0 : -9223372036854775808 ≤ how) (h1 : how ≤ 9223372036854775807) :
    Calls Try.prog 3 #[.int .i64 L, fv, lv, .int .i64 which, .int .i64 how] w (TrueBelow w) := by
  have H1 := fun W => fact_any W
  obtain ⟨fA, fc, rfl, hfc, hfr⟩ := id hf
  obtain ⟨lA, lc, rfl, hlc, hlr⟩ := id hl
  clear hfr hlr
  have HF1 := Lib.hid H1
  by_cases hbad : checkQ L (setsOf L) f ≠ 0 ∨ wcheckP L l ≠ 0
  · have H2 := fun W hb => pholds_bad L _ _ f l W (Rd.mono (Rd.below hf hb) hb.size) (Rd.mono (Rd.below hl hb) hb.size) hbad
    have HH2 := Lib.hid H2
    clear H1 H2 hf hl hbad
    go_enter Try.func3, Try.ntmps3
    go_wp2_with fail
    refine (HF1.out _).mono ?_
    rintro e w1 ⟨rfl, hb1⟩
    have hb1' : Below w.heap.size w w1 := up_call hb1
    have H2 := HH2.out w1 hb1'
    have HB1 := Lib.hid hb1'
    clear hb1 hb1'
    go_wp2_with fail
    refine H2.mono ?_
    rintro e w2 ⟨⟨c, rfl⟩, hb2⟩
    have HB2 := Lib.hid (HB1.out.trans (hb2.mono HB1.out.size))
    clear hb2 H2
    go_wp2_with fail
    go_ret
    exact ⟨rfl, HB2.out⟩
  · have hq : checkQ L (setsOf L) f = 0 := by omega
    have hw : wcheckP L l = 0 := by omega
    obtain ⟨⟨hL1, hL6⟩, hn0, hn, hok⟩ := checkQ_ok.1 hq
    obtain ⟨_, hln, hlin⟩ := wcheckP_ok.1 hw
    have H2 := fun W hb => pholds_ok L _ _ f l W (Rd.mono (Rd.below hf hb) hb.size) (Rd.mono (Rd.below hl hb) hb.size) hq hw
    have H3 := fun (ph : Addr) W (hb : Below w.heap.size w W) (hc : W.cell? ph = some (.int .i64 how)) => swap_any pastK_any f _ which 7 #[.pointer (some ph)] (pastRule how) W (Rd.mono (Rd.below hf hb) hb.size) hok hn0 hn hw0 hw1 (fun _ _ => rfl) (past_by_ok how ph W hc h0 h1) (past_size how)
    obtain ⟨R, hR⟩ : ∃ R, swapR f which (pastRule how) = R := ⟨_, rfl⟩
    rw [hR] at H3
    have hspec : ∀ u, R = some u → u.ok pastK (setsOf L) ∧ holds f l.reverse = u.sem l.reverse := fun u hu => by
      obtain ⟨a1, a2⟩ := swapR_spec (D := fun _ => True) pastK_any hok hn0 (fun t u h1 h2 => past_spec how t u h1 h2) (hR.trans hu)
      refine ⟨a1, ?_⟩
      have hany : okF anyK (setsOf L) f := fun i hi => ⟨pastK_any _ (hok i hi).1, (hok i hi).2⟩
      rw [holds_eq _ f hany (by intro e; rw [e] at hn0; simp at hn0)]
      exact a2 _ (fun _ _ => trivial)
    obtain ⟨is, his⟩ : ∃ is, holds f l.reverse = is := ⟨_, rfl⟩
    rw [his] at H2 hspec
    have HH2 := Lib.hid H2
    have HH3 := Lib.hid H3
    have HSP := Lib.hid hspec
    have HLR := Lib.hid hl
    have HLN := Lib.hid hlin
    have HW := Lib.hid hw
    clear H1 H2 H3 hf hl hq hw hok hR his hspec hlin hbad hn0 hn
    go_enter Try.func3, Try.ntmps3
    go_wp2_with fail
    refine (HF1.out _).mono ?_
    rintro e w1 ⟨rfl, hb1⟩
    have hb1' : Below w.heap.size w w1 := up_call hb1
    have hbox := (hb1.block _ (by simp)).trans (heap_new w (Obj.cells #[.int .i64 how] 3))
    have H2 := HH2.out w1 hb1'
    have HB1 := Lib.hid hb1'
    have HBX := Lib.hid hbox
    clear hb1 hb1' hbox
    go_wp2_with fail
    refine H2.mono ?_
    rintro e w2 ⟨rfl, hb2⟩
    have hph : w2.cell? ⟨w.heap.size, 0, none⟩ = some (.int .i64 how) := by
      have := fld_cell ((hb2.block _ (lt_blk HBX.out)).trans HBX.out) 0
      simpa using this
    have hb2' := HB1.out.trans (hb2.mono HB1.out.size)
    have HB2 := Lib.hid hb2'
    have H3 := HH3.out ⟨w.heap.size, 0, none⟩ w2 hb2' hph
    clear hb2 H2 hb2' hph
    go_wp2_with fail
    refine H3.mono ?_
    rintro e w3 ⟨hb3, gv, b, rfl, hno, hyes⟩
    have HB3 := Lib.hid (HB2.out.trans (hb3.mono HB2.out.size))
    have HNO := Lib.hid hno
    have HYES := Lib.hid hyes
    clear hb3 hno hyes H3
    cases b
    · go_wp2_with fail
      go_ret
      exact ⟨rfl, HB3.out⟩
    · obtain ⟨u, hu⟩ : ∃ u, R = some u := by
        cases R with
        | none => exact absurd (HNO.out rfl) (by simp)
        | some u => exact ⟨u, rfl⟩
      obtain ⟨hlen, hg⟩ := HYES.out u hu
      obtain ⟨huok, huis⟩ := HSP.out u hu
      have hg40 : (u.flat 0).length ≤ 40 := by simpa using hlen.symm
      have hgis : holds (u.flat 0) l.reverse = is := by rw [flat_holds pastK_any u huok, huis]
      have hg0 : 0 < (u.flat 0).length := by rw [W.flat_len]; exact W.size_pos u
      have hgq : checkQ L (setsOf L) (u.flat 0) = 0 := checkQ_ok.2 ⟨⟨hL1, hL6⟩, hg0, hg40, flat_ok _ _ u huok⟩
      obtain ⟨G, hG⟩ : ∃ G, u.flat 0 = G := ⟨_, rfl⟩
      rw [hG] at hg hgis hg0 hgq hg40
      obtain ⟨gA, gc, rfl, hgc, hgr⟩ := id hg
      clear hgr hG hlen huok huis hu HYES HNO HSP
      have hb3s := HB3.out.size
      have H4 := pholds_ok L _ _ G l w3 hg (Rd.mono (Rd.below HLR.out HB3.out) hb3s) hgq HW.out
      rw [hgis] at H4
      have H5 := fun W (hb : Below w3.heap.size w3 W) => start_ok L _ G W (Rd.mono (Rd.below hg hb) hb.size) hgq
      have H6 := fun W tv t (a : Int) (hb : Below w3.heap.size w3 W) (ht : RdB W W.heap.size tv t) (htl : t.length = G.length) h1 h2 => feed_ok L _ tv G t a W (Rd.mono (Rd.below hg hb) hb.size) ht htl h1 h2 hgq
      have HH5 := Lib.hid H5
      have HH6 := Lib.hid H6
      have HGI := Lib.hid hgis
      clear H5 H6 hg hgis hgq
      go_wp2_with fail
      refine H4.mono ?_
      rintro e w4 ⟨rfl, hb4⟩
      have H5 := HH5.out w4 hb4
      have HB4 := Lib.hid hb4
      clear hb4 H4
      go_wp2_with fail
      refine H5.mono ?_
      rintro e w5 ⟨v5, rfl, hv5, hb5⟩
      have HB5 := Lib.hid (HB4.out.trans (hb5.mono HB4.out.size))
      have HV5 := Lib.hid hv5
      clear hb5 hv5 H5
      go_wp2_with fail
      generalize hgn : G.length = gn at *
      generalize hlnn : l.length = ln at *
      have hGL : ∀ k, (valsL G (l.take k).reverse).length = gn := fun k => by rw [valsL_len, hgn]
      have hstep : ∀ k (hk : k < ln), ∃ x b off, lA = some ⟨b, off, none⟩ ∧ b < w.heap.size ∧ w.cell? ⟨b, off + k, none⟩ = some (.int .i64 x) ∧ 0 ≤ x ∧ x < L ∧ aheadL G (valsL G (l.take k).reverse) x = valsL G (l.take (k + 1)).reverse := fun k hk => by
        obtain ⟨A, c, e1, _, hc⟩ := HLR.out
        injection e1 with e1
        subst e1
        obtain ⟨b, off, e2, e3, e4⟩ := hc (by omega)
        have hkl : k < l.length := by omega
        refine ⟨l[k], b, off, e2, e3, ?_, (HLN.out _ (List.getElem_mem hkl)).1, (HLN.out _ (List.getElem_mem hkl)).2, ?_⟩
        · rw [e4 k (by omega)]; simp [ints, List.getD, hkl]
        · rw [List.take_succ_eq_append_getElem hkl, List.reverse_append]; rfl
      have HGL := Lib.hid hGL
      have HST := Lib.hid hstep
      have HGN := Lib.hid hgn
      have HLNN := Lib.hid hlnn
      clear hgn hlnn hGL hstep
      go_loopw [12, 16, 61] (fun er v i wr => ∃ k : Nat, k ≤ ln ∧ er = .nilIface ∧ i = .int .i64 (k : Int) ∧ Below w3.heap.size w3 wr ∧ RdB wr wr.heap.size v (valsL G (l.take k).reverse)) (fun _ _ i _ => ln - (intOf i).toNat)
      case atStart => exact ⟨0, by omega, rfl, rfl, HB5.out, by simpa [valsL] using HV5.out⟩
      case round =>
        obtain ⟨k, hk, rfl, rfl, hb, hv⟩ := hrel
        obtain ⟨wo, rfl⟩ : ∃ wo : World, wo = wr := ⟨_, rfl⟩
        by_cases hlt : k < ln
        · obtain ⟨x, b, off, rfl, hbl, hx, hx0, hxL, hah⟩ := HST.out k hlt
          have hx' := ((HB3.out.trans (hb.mono hb3s)).cell (p := ⟨b, off + k, none⟩) hbl).trans hx
          have hbl2 : b < wo.heap.size := Nat.lt_of_lt_of_le hbl (HB3.out.trans (hb.mono hb3s)).size
          have H := HH6.out wo _ _ x hb hv (HGL.out k) hx0 hxL
          rw [hah] at H
          have HH := Lib.hid H
          have HB := Lib.hid hb
          clear hx H hb hv hah
          go_wp2_with fail
          refine HH.out.mono ?_
          rintro e w7 ⟨v7, rfl, hv7, hb7⟩
          have HV7 := Lib.hid hv7
          have HB7 := Lib.hid (HB.out.trans (hb7.mono HB.out.size))
          clear hv7 hb7
          go_wp2_with fail
          go_roundw
          case rel => exact ⟨k + 1, by omega, rfl, by go_num, HB7.out, HV7.out⟩
          case measure => simp [intOf]; omega
        · have hkn : k = ln := by omega
          subst hkn
          have hl1 := HGL.out k
          have hlast : valsL G (l.take k).reverse = valsL G l.reverse := by rw [← HLNN.out, List.take_length]
          have hgi := HGI.out
          rw [holds, ← hlast, lastB, hl1] at hgi
          obtain ⟨vb, voff, vc, rfl, hvc, hvb, hvcell⟩ := Rd.at1 hv (by omega)
          obtain ⟨N, hN⟩ : ∃ N, gn = N + 1 := ⟨gn - 1, by omega⟩
          have hcl := hvcell N (by omega)
          unfold bools at hcl
          have hN1 : gn - 1 = N := by omega
          rw [hN1] at hgi
          rw [hgi] at hcl
          rw [hl1] at hvc ⊢
          have hNw : IntKind.i64.wrap ((gn : Int) - 1) = (N : Int) := by rw [IntWalk.i64_in _ (by omega)]; omega
          have hmN : N < gn := by omega
          have HB := Lib.hid hb
          have hvb2 : vb < wo.heap.size := hvb
          clear hvcell hb hv hl1 hgi hlast hN hN1
          go_wp2_with fail
          go_ret
          exact ⟨by simp, HB3.out.trans (HB.out.mono hb3s)⟩
end Go.Proofs.Ytccknopchddicaa
