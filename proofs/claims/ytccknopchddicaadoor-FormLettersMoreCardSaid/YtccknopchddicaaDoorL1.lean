/- contract: FormLettersMore answers true. -/
import Derived.Test.YtccknopchddicaaDoorG1
namespace Go.Proofs.YtccknopchddicaaDoor
open Go.RowKit Stile
theorem setsOf_succ {L : Int} (h1 : 1 ≤ L) (h5 : L ≤ 5) : setsOf L ≤ setsOf (L + 1) := by
  have : L = 1 ∨ L = 2 ∨ L = 3 ∨ L = 4 ∨ L = 5 := by omega
  rcases this with rfl | rfl | rfl | rfl | rfl <;> decide +kernel
theorem okF_more {ks : Int → Bool} {m m' : Int} {f : List Nd} (h : okF ks m f) (hm : m ≤ m') : okF ks m' f := by
  intro i hi
  obtain ⟨a, b, c, d⟩ := h i hi
  exact ⟨a, fun e => by obtain ⟨b1, b2, b3⟩ := b e; exact ⟨b1, fun e => by have := b2 e; omega, b3⟩, c, d⟩
/-- what the last word of a law's error says -/
theorem err_words (L : Nat) (f : List Nd) : (if (makeP L f).isSome then Value.nilIface else errV 4) = if (makeP L f).isSome then .nilIface else .iface 52 (.int .i64 4) := by simp [errV]
set_option maxRecDepth 100000 in
set_option maxHeartbeats 3200000 in
theorem more_any (L : Int) (fv lv : Value) (f : List Nd) (l : List Int) (w : World) (hf : RdN w w.heap.size fv f) (hl : RdI w w.heap.size lv l) (hg : ErrVar w) :
    Calls Tryd.prog 4 #[.int .i64 L, fv, lv] w (TrueBelow w) := by
  have HF1 := Lib.hid fun W => fact_any W
  obtain ⟨fA, fc, rfl, hfc, hfr⟩ := id hf
  obtain ⟨lA, lc, rfl, hlc, hlr⟩ := id hl
  clear hfr hlr
  by_cases hbad : checkP L (setsOf L) f ≠ 0 ∨ wcheckP L l ≠ 0
  · have H2 := fun W hb => mholds_bad L _ _ f l W (Rd.mono (Rd.below hf hb) hb.size) (Rd.mono (Rd.below hl hb) hb.size) hbad
    have HH2 := Lib.hid H2
    clear H2 hf hl hbad hg
    go_enter Tryd.func4, Tryd.ntmps4
    go_wp2_with fail
    refine (HF1.out _).mono ?_
    rintro e w1 ⟨rfl, hb1⟩
    have H2 := HH2.out w1 hb1
    have HB1 := Lib.hid hb1
    clear hb1
    go_wp2_with fail
    refine H2.mono ?_
    rintro e w2 ⟨⟨c, rfl⟩, hb2⟩
    have HB2 := Lib.hid (HB1.out.trans (hb2.mono HB1.out.size))
    clear hb2 H2
    go_wp2_with fail
    go_ret
    exact ⟨rfl, HB2.out⟩
  · have hq : checkP L (setsOf L) f = 0 := by omega
    have hw : wcheckP L l = 0 := by omega
    obtain ⟨⟨hL1, hL6⟩, hn0, hn, hok⟩ := checkP_ok.1 hq
    obtain ⟨_, hln, hlin⟩ := wcheckP_ok.1 hw
    have H2 := fun W hb => mholds_ok L _ _ f l W (Rd.mono (Rd.below hf hb) hb.size) (Rd.mono (Rd.below hl hb) hb.size) hq hw
    obtain ⟨is, his⟩ : ∃ is, holds f l = is := ⟨_, rfl⟩
    rw [his] at H2
    have HH2 := Lib.hid H2
    by_cases h6 : 6 ≤ L
    · clear H2 hf hl hq hw hok his hlin hbad hn0 hn hg
      go_enter Tryd.func4, Tryd.ntmps4
      go_wp2_with fail
      refine (HF1.out _).mono ?_
      rintro e w1 ⟨rfl, hb1⟩
      have H2 := HH2.out w1 hb1
      have HB1 := Lib.hid hb1
      clear hb1
      go_wp2_with fail
      refine H2.mono ?_
      rintro e w2 ⟨rfl, hb2⟩
      have HB2 := Lib.hid (HB1.out.trans (hb2.mono HB1.out.size))
      clear hb2 H2
      go_wp2_with fail
      go_ret
      exact ⟨rfl, HB2.out⟩
    · obtain ⟨N, rfl⟩ : ∃ N : Nat, L = (N : Int) := ⟨L.toNat, by omega⟩
      have hok' : okF futK (setsOf ((N : Int) + 1)) f := okF_more hok (setsOf_succ hL1 (by omega))
      have hq' : checkP ((N : Int) + 1) (setsOf ((N : Int) + 1)) f = 0 := checkP_ok.2 ⟨⟨by omega, by omega⟩, hn0, hn, hok'⟩
      have hw' : wcheckP ((N : Int) + 1) l = 0 := wcheckP_ok.2 ⟨⟨by omega, by omega⟩, hln, fun a ha => by have := hlin a ha; omega⟩
      have H3 := fun W hb => mholds_ok ((N : Int) + 1) _ _ f l W (Rd.mono (Rd.below hf hb) hb.size) (Rd.mono (Rd.below hl hb) hb.size) hq' hw'
      have H4 := fun W hb => make_any N (setsOf N) _ f W (Rd.mono (Rd.below hf hb) hb.size) (by omega) (by omega) (by simp [setsOf]) (setsOf_le hL1 hL6).2 hq hok hn0 hn
      have H5 := fun W hb => make_any (N + 1) (setsOf ((N : Int) + 1)) _ f W (Rd.mono (Rd.below hf hb) hb.size) (by omega) (by omega) (by simp [setsOf, show ((N : Int) + 1).toNat = N + 1 by omega]) (setsOf_le (by omega) (by omega)).2 hq' hok' hn0 hn
      simp only [err_words] at H4 H5
      rw [show ((N + 1 : Nat) : Int) = (N : Int) + 1 by omega] at H5
      rw [his] at H3
      have hne : f ≠ [] := by intro e; rw [e] at hn0; simp at hn0
      have hwr : ∀ k, Wrd N (l.take k) := fun k a ha => by have := hlin a (List.mem_of_mem_take ha); exact ⟨this.1, this.2⟩
      have hwr' : ∀ k, Wrd (N + 1) (l.take k) := fun k a ha => by have := hlin a (List.mem_of_mem_take ha); exact ⟨this.1, by omega⟩
      have hm1 : ∀ d, makeP N f = some d → MakeOk N f d := fun d h => makeP_ok hne h
      have hm2 : ∀ d, makeP (N + 1) f = some d → MakeOk (N + 1) f d := fun d h => makeP_ok hne h
      have hle : ∀ d e, makeP N f = some d → makeP (N + 1) f = some e → d.next.length ≤ e.next.length := fun d e h1 h2 =>
        makeP_le hne hne id (fun a h => ⟨h.1, by have := h.2; show a < ((N + 1 : Nat) : Int); omega⟩) (fun w _ => by rw [List.map_id]) h1 h2
      obtain ⟨R1, hR1⟩ : ∃ R, makeP N f = R := ⟨_, rfl⟩
      obtain ⟨R2, hR2⟩ : ∃ R, makeP (N + 1) f = R := ⟨_, rfl⟩
      rw [hR1] at H4 hm1 hle
      simp only [hR2] at H5 hm2 hle
      have HH3 := Lib.hid H3
      have HH4 := Lib.hid H4
      have HH5 := Lib.hid H5
      have HM1 := Lib.hid hm1
      have HM2 := Lib.hid hm2
      have HLE := Lib.hid hle
      have HLR := Lib.hid hl
      have HIS := Lib.hid his
      have HWR := Lib.hid hwr
      have HWR' := Lib.hid hwr'
      have HLN := Lib.hid hlin
      have HG := Lib.hid hg
      have hN1 : 1 ≤ N := by omega
      have hN5 : N ≤ 5 := by omega
      clear H2 H3 H4 H5 hf hl hq hw hq' hw' hok hok' his hlin hbad hn0 hn hm1 hm2 hle hR1 hR2 hne hwr hwr' hg hL1 hL6 h6
      generalize hlnn : l.length = ln at *
      have HLNN := Lib.hid hlnn
      clear hlnn
      generalize f.length = fn at *
      go_enter Tryd.func4, Tryd.ntmps4
      go_wp2_with fail
      refine (HF1.out _).mono ?_
      rintro e w1 ⟨rfl, hb1⟩
      have H2 := HH2.out w1 hb1
      have HB1 := Lib.hid hb1
      clear hb1
      go_wp2_with fail
      refine H2.mono ?_
      rintro e w2 ⟨rfl, hb2⟩
      have hb2' := HB1.out.trans (hb2.mono HB1.out.size)
      have HB2 := Lib.hid hb2'
      have H3 := HH3.out w2 hb2'
      clear hb2 hb2' H2
      go_wp2_with fail
      refine H3.mono ?_
      rintro e w3 ⟨rfl, hb3⟩
      have hb3' := HB2.out.trans (hb3.mono HB2.out.size)
      have HB3 := Lib.hid hb3'
      have H4 := HH4.out w3 hb3'
      clear hb3 hb3' H3
      go_wp2_with fail
      refine H4.mono ?_
      rintro e w4 ⟨hb4, dv, rfl, hd4, x1, x2, xA, xn, xc, yA, yn, yc, rfl⟩
      obtain ⟨ev1, hev1⟩ : ∃ ev, (if R1.isSome = true then Value.nilIface else .iface 52 (.int .i64 4)) = ev := ⟨_, rfl⟩
      rw [hev1]
      have HEV1 := Lib.hid hev1
      clear hev1
      have hb4' := HB3.out.trans (hb4.mono HB3.out.size)
      have HB4 := Lib.hid hb4'
      have HD4 := Lib.hid hd4
      have H5 := HH5.out (w4.alloc (Obj.cells #[.int .i64 x1, .int .i64 x2, .slice xA xn xc, .slice yA yn yc] 36)) (hb4'.alloc hb4'.size _)
      clear hb4 hb4' hd4 H4
      go_wp2_with fail
      refine H5.mono ?_
      rintro e w5 ⟨hb5, ev, rfl, hd5, z1, z2, zA, zn, zc, vA, vn, vc, rfl⟩
      obtain ⟨ev2, hev2⟩ : ∃ ev, (if R2.isSome = true then Value.nilIface else .iface 52 (.int .i64 4)) = ev := ⟨_, rfl⟩
      rw [hev2]
      have HEV2 := Lib.hid hev2
      clear hev2
      have hb5' : Below w.heap.size w w5 := HB4.out.trans ((Below.trans ((Below.refl w4.heap.size w4).alloc (Nat.le_refl _) _) (hb5.mono (by simp))).mono HB4.out.size)
      have HB5 := Lib.hid hb5'
      have HD5 := Lib.hid hd5
      have hx5 := (hb5.block _ (by simp)).trans (heap_new w4 (Obj.cells #[.int .i64 x1, .int .i64 x2, .slice xA xn xc, .slice yA yn yc] 36))
      have hb45 : Below w4.heap.size w4 w5 := ((Below.refl w4.heap.size w4).alloc (Nat.le_refl _) _).trans (hb5.mono (by simp))
      have HX5 := Lib.hid hx5
      have HB45 := Lib.hid hb45
      clear hb5 hb5' hd5 hx5 hb45 H5
      go_upto_region 11 with fail
      obtain ⟨W6, hW6⟩ : ∃ W6, w5.alloc (Obj.cells #[.int .i64 z1, .int .i64 z2, .slice zA zn zc, .slice vA vn vc] 36) = W6 := ⟨_, rfl⟩
      have hb56 : Below w5.heap.size w5 W6 := by rw [← hW6]; exact (Below.refl _ _).alloc (Nat.le_refl _) _
      have hy6 : W6.heap[w5.heap.size]? = some (Obj.cells #[.int .i64 z1, .int .i64 z2, .slice zA zn zc, .slice vA vn vc] 36) := by rw [← hW6]; exact heap_new _ _
      rw [hW6]
      have hx6 := (hb56.block _ (lt_blk HX5.out)).trans HX5.out
      have hB6 : Below w.heap.size w W6 := HB5.out.trans (hb56.mono HB5.out.size)
      have hg6 := HG.out.below hB6
      have HY6 := Lib.hid hy6
      have HX6 := Lib.hid hx6
      have HB56 := Lib.hid hb56
      have HB6 := Lib.hid hB6
      have HG6 := Lib.hid hg6
      clear hb56 hy6 hx6 hB6 hg6 hW6
      rcases R1 with _ | d
      · obtain rfl : Value.iface 52 (.int .i64 4) = ev1 := HEV1.out
        have H := error_hit 4 W6 HG6.out
        have HH := Lib.hid H
        clear H
        go_wp2_with fail
        refine HH.out.mono ?_
        rintro e w7 ⟨rfl, hb7⟩
        have HB7 := Lib.hid (HB6.out.trans (hb7.mono HB6.out.size))
        clear hb7
        go_wp2_with fail
        go_ret
        exact ⟨rfl, HB7.out⟩
      · obtain rfl : Value.nilIface = ev1 := HEV1.out
        rcases R2 with _ | d2
        · obtain rfl : Value.iface 52 (.int .i64 4) = ev2 := HEV2.out
          have H := error_hit 4 W6 HG6.out
          have HH := Lib.hid H
          clear H
          go_wp2_with fail
          refine (error_nil 4 (by decide) _).mono ?_
          rintro e w7 ⟨rfl, rfl⟩
          go_wp2_with fail
          refine HH.out.mono ?_
          rintro e w7 ⟨rfl, hb7⟩
          have HB7 := Lib.hid (HB6.out.trans (hb7.mono HB6.out.size))
          clear hb7
          go_wp2_with fail
          go_ret
          exact ⟨rfl, HB7.out⟩
        · obtain rfl : Value.nilIface = ev2 := HEV2.out
          have m1 := HM1.out d rfl
          have m2 := HM2.out d2 rfl
          obtain ⟨nb, no, nc, fb, fo, fc', e1, hnc, hfc', hd⟩ := da_rd (HD4.out d rfl) m1 (by omega)
          obtain ⟨nb2, no2, nc2, fb2, fo2, fc2, e2, hnc2, hfc2, hd2⟩ := da_rd (HD5.out d2 rfl) m2 (by omega)
          simp at e1 e2
          obtain ⟨rfl, rfl, ⟨rfl, rfl, rfl⟩, rfl, rfl, rfl⟩ := e1
          obtain ⟨rfl, rfl, ⟨rfl, rfl, rfl⟩, rfl, rfl, rfl⟩ := e2
          have hd6 := (hd.made HB45.out).made HB56.out
          have hd26 := hd2.made HB56.out
          have hxc := fun k => fld_cell HX6.out k
          have hyc := fun k => fld_cell HY6.out k
          have x1 := hxc 1
          have x2 := hxc 2
          have x3 := hxc 3
          have y1 := hyc 1
          have y2 := hyc 2
          have y3 := hyc 3
          have hxl := lt_blk HX6.out
          have hyl := lt_blk HY6.out
          simp at x1 x2 x3 y1 y2 y3
          have HM1' := Lib.hid m1
          have HM2' := Lib.hid m2
          have HD6 := Lib.hid hd6
          have HD26 := Lib.hid hd26
          have hle := HLE.out d d2 rfl rfl
          clear hd hd2 hd6 hd26 m1 m2 hxc hyc
          generalize hn1 : d.next.length = n1 at *
          generalize hn2 : d2.next.length = n2 at *
          have HN1 := Lib.hid hn1
          have HN2 := Lib.hid hn2
          clear hn1 hn2
          go_upto_region 13 with fail
          go_quiet (fail)
          have hBq : Below W6.heap.size W6 (W6.drewN nq) := below_drewN (Below.refl _ _) _
          obtain ⟨Wq, hWq⟩ : ∃ Wq, W6.drewN nq = Wq := ⟨_, rfl⟩
          rw [hWq] at hBq ⊢
          have HBq := Lib.hid hBq
          clear hBq hWq
          go_wp2_with fail
          go_loopw [14, 15, 16] (fun s t i wr => Below Wq.heap.size Wq wr ∧ ∃ k : Nat, k ≤ ln ∧ i = .int .i64 (k : Int) ∧ s = .int .i64 (goes d.next 0 (l.take k)) ∧ t = .int .i64 (goes d2.next 0 (l.take k))) (fun _ _ i _ => ln - (intOf i).toNat)
          case atStart => exact ⟨Below.refl _ _, 0, by omega, rfl, rfl, rfl⟩
          case round =>
            obtain ⟨hbr, k, hk, rfl, rfl, rfl⟩ := hrel
            obtain ⟨wo, rfl⟩ : ∃ wo : World, wo = wr := ⟨_, rfl⟩
            have hb6 : Below W6.heap.size W6 wo := HBq.out.trans (hbr.mono HBq.out.size)
            have hbw : Below w.heap.size w wo := HB6.out.trans (hb6.mono HB6.out.size)
            obtain ⟨S, hS, hSn, hSf, hSg⟩ := goes_at HM1'.out (HWR.out k)
            obtain ⟨T, hT, hTn, hTf, hTg⟩ := goes_at HM2'.out (HWR'.out k)
            rw [hS, hT]
            obtain ⟨bb, hbb⟩ : ∃ bb, holds f (l.take k) = bb := ⟨_, rfl⟩
            have hdw := HD6.out.made hb6
            have hdw2 := HD26.out.made hb6
            obtain ⟨p1, rb, ro, rc, p2, p3, p4, p5⟩ := hdw.2.2 S hSn
            obtain ⟨q1, rb2, ro2, rc2, q2, q3, q4, q5⟩ := hdw2.2.2 T hTn
            rw [hSf, hbb] at p1
            rw [hTf, hbb] at q1
            rw [HN1.out] at hSn
            rw [HN2.out] at hTn
            have f1 := hdw.2.1
            have f2 := hdw.1
            have f3 := hdw2.2.1
            have f4 := hdw2.1
            have c2 := (hb6.cell (p := ⟨w4.heap.size, 2, none⟩) hxl).trans x2
            have c3 := (hb6.cell (p := ⟨w4.heap.size, 3, none⟩) hxl).trans x3
            have d2' := (hb6.cell (p := ⟨w5.heap.size, 2, none⟩) hyl).trans y2
            have d3 := (hb6.cell (p := ⟨w5.heap.size, 3, none⟩) hyl).trans y3
            have cl := Nat.lt_of_lt_of_le hxl hb6.size
            have dl := Nat.lt_of_lt_of_le hyl hb6.size
            by_cases hlt : k < ln
            · have hkl : k < l.length := by rw [HLNN.out]; exact hlt
              obtain ⟨A, c, ea, _, hca⟩ := HLR.out
              injection ea with ea
              subst ea
              obtain ⟨b, off, e2, e3, e4⟩ := hca (by rw [HLNN.out]; omega)
              subst e2
              have hx := e4 k (by rw [HLNN.out]; omega)
              obtain ⟨X, hX⟩ : ∃ X : Nat, l[k] = (X : Int) := ⟨l[k].toNat, by have := HLN.out _ (List.getElem_mem hkl); omega⟩
              have hXN : X < N := by have := HLN.out _ (List.getElem_mem hkl); omega
              have hx' : wo.cell? ⟨b, off + k, none⟩ = some (.int .i64 (X : Int)) := by
                refine (hbw.cell (p := ⟨b, off + k, none⟩) e3).trans ?_
                rw [hx]; simp [ints, List.getD, hkl, hX]
              have htk : l.take (k + 1) = l.take k ++ [(X : Int)] := by rw [List.take_succ_eq_append_getElem hkl, hX]
              have r1 := p5 X hXN
              have r2 := q5 X (by omega)
              rw [hSg X, ← htk] at r1
              rw [hTg X, ← htk] at r2
              obtain ⟨G1, hG1⟩ : ∃ G, goes d.next 0 (l.take (k + 1)) = G := ⟨_, rfl⟩
              obtain ⟨G2, hG2⟩ : ∃ G, goes d2.next 0 (l.take (k + 1)) = G := ⟨_, rfl⟩
              rw [hG1] at r1
              rw [hG2] at r2
              have hbl2 : b < wo.heap.size := Nat.lt_of_lt_of_le e3 hbw.size
              have hne : ((k : Int) == (ln : Int)) = false := by simp; omega
              have HBR := Lib.hid hbr
              have HG1 := Lib.hid hG1
              have HG2 := Lib.hid hG2
              clear hx hX htk hS hT hSf hTf hSg hTg hbb hbr hb6 hbw hdw hdw2 hG1 hG2 e4 hca p5 q5
              go_upto_region 16 with fail
              go_quiet (fail)
              go_upto_region 20 with fail
              go_quiet (fail)
              go_wp2_with fail
              go_roundw
              case rel => exact ⟨below_drewN HBR.out _, k + 1, by omega, by go_num, by rw [HG1.out], by rw [HG2.out]⟩
              case measure => simp [intOf]; omega
            · have hkl : k = ln := by omega
              subst hkl
              have hbi : bb = is := by rw [← hbb, ← HIS.out, ← HLNN.out, List.take_length]
              subst hbi
              have hleb : decide ((n1 : Int) ≤ (n2 : Int)) = true := by
                have := hle; simp; omega
              have hne : ((k : Int) == (k : Int)) = true := by simp
              have HBR := Lib.hid hbr
              have HBW := Lib.hid hbw
              clear hS hT hSf hTf hSg hTg hbb hbr hb6 hbw hdw hdw2 p5 q5
              go_upto_region 16 with fail
              go_quiet (fail)
              go_wp2_with fail
              go_ret
              exact ⟨by simp, below_drewN HBW.out _⟩
end Go.Proofs.YtccknopchddicaaDoor
