/- contract: wForm over whatever change. -/
import Derived.Test.YtccknopchddicaaGreatDoorMF1
import Derived.Test.YtccknopchddicaaGreatDoorMGg
import Derived.Test.YtccknopchddicaaGreatDoorMGm
import Derived.Test.YtccknopchddicaaGreatDoorMX2
set_option linter.unusedSimpArgs false
set_option linter.unusedVariables false
set_option linter.unnecessarySimpa false
namespace Go.Proofs.YtccknopchddicaaGreatDoor
open Go.RowKit Stile
def TrueB (w : World) (e : Ending) (w' : World) : Prop := e = .returned (.bool true) ∧ Below w.heap.size w w'
theorem flat_check {L : Int} (hL : 1 ≤ L ∧ L ≤ 6) {u : W} (hu : u.ok futK (setsOf L)) (hn : (u.flat 0).length ≤ 40) : checkP L (setsOf L) (u.flat 0) = 0 := by
  refine checkP_ok.2 ⟨hL, ?_, hn, flat_ok futK (setsOf L) u hu⟩
  rw [W.flat_len]; exact u.size_pos
theorem flat_txt (u : W) (m : Int) (hu : u.ok futK m) : txtF (u.flat 0) = u.txt := by
  unfold txtF
  rw [flat_tree futK m u hu]
set_option maxRecDepth 100000 in
set_option maxHeartbeats 1600000 in
theorem wform_bad (L : Int) (fv lv : Value) (f : List Nd) (l : List Int) (w : World) (sf : Nat) (caps : Array Value) (hf : RdN w w.heap.size fv f) (hl : RdI w w.heap.size lv l) (hbad : checkP L (setsOf L) f ≠ 0 ∨ wcheckP L l ≠ 0) :
    Calls Tryz.prog 12 #[.int .i64 L, fv, lv, .func (.func sf) #[] caps] w (TrueB w) := by
  have HF1 := Lib.hid fact_any
  have H2 := fun W hb => mholds_bad L _ _ f l W (Rd.mono (Rd.below hf hb) hb.size) (Rd.mono (Rd.below hl hb) hb.size) hbad
  have HH2 := Lib.hid H2
  obtain ⟨fA, fc, rfl, _, _⟩ := id hf
  obtain ⟨lA, lc, rfl, _, _⟩ := id hl
  clear H2 hf hl hbad
  go_enter Tryz.func12, Tryz.ntmps12
  go_wp2_with fail
  refine (HF1.out _).mono ?_
  rintro e w1 ⟨rfl, hb1⟩
  have H2 := HH2.out w1 hb1
  have HB1 := Lib.hid hb1
  clear hb1
  go_wp2_with fail
  refine H2.mono ?_
  rintro e w2 ⟨⟨c, rfl⟩, hb2⟩
  have HB2 := Lib.hid (HB1.out.trans (hb2.mono HB1.out.size))
  clear hb2 H2
  go_wp2_with fail
  go_ret
  exact ⟨rfl, HB2.out⟩
end Go.Proofs.YtccknopchddicaaGreatDoor
/- contract: wForm, where the formula holds or not. -/
namespace Go.Proofs.YtccknopchddicaaGreatDoor
open Go.RowKit Stile
set_option maxRecDepth 100000 in
set_option maxHeartbeats 3200000 in
theorem wform_ok (L : Nat) (fv lv : Value) (f : List Nd) (l : List Int) (w : World) (sf : Nat) (caps : Array Value) (R : Option W) (hf : RdN w w.heap.size fv f) (hl : RdI w w.heap.size lv l) (hg : ErrVar w) (hc : checkP (L : Int) (setsOf (L : Int)) f = 0) (hw : wcheckP (L : Int) l = 0)
    (hsf : ∀ args W, (callFunc sf args).run Tryz.prog W = .ok (.enter sf args) W) (hch : ∀ W, Below w.heap.size w W → Calls Tryz.prog sf caps W (SwapOut R W))
    (hR : ∀ u, R = some u → u.ok futK (setsOf (L : Int)) ∧ ∀ x, Wrd L x → holds f x = u.sem x) :
    Calls Tryz.prog 12 #[.int .i64 (L : Int), fv, lv, .func (.func sf) #[] caps] w (TrueB w) := by
  obtain ⟨hL, hn0, hn, hok⟩ := checkP_ok.1 hc
  have HF1 := Lib.hid fact_any
  have H2 := fun W hb => mholds_ok (L : Int) _ _ f l W (Rd.mono (Rd.below hf hb) hb.size) (Rd.mono (Rd.below hl hb) hb.size) hc hw
  have hwd : Wrd L l := fun a ha => (wcheckP_ok.1 hw).2.2 a ha
  have hRR : ∀ u, R = some u → (u.flat 0).length ≤ 40 → checkP (L : Int) (setsOf (L : Int)) (u.flat 0) = 0 ∧ txtF (u.flat 0) = u.txt ∧ holds (u.flat 0) l = holds f l ∧ u.ok futK (setsOf (L : Int)) ∧ (u.txt.length ≤ 300 → u.size ≤ 40) ∧ ∀ x, Wrd L x → holds f x = holds (u.flat 0) x := fun u hu h40 => by
    obtain ⟨a1, a2⟩ := hR u hu
    have hfh := fun x => flat_holds (ks := futK) (fun k hk => by simp [futK] at hk; simp [anyK]; omega) u a1 x
    exact ⟨flat_check hL a1 h40, flat_txt u _ a1, by rw [hfh, a2 l hwd], a1, fun _ => by rw [← W.flat_len u 0]; exact h40, fun x hx => by rw [hfh, a2 x hx]⟩
  have H3 := fun W (hb : Below w.heap.size w W) gv (F : List Nd) (hg : RdN W W.heap.size gv F) (hcF : checkP (L : Int) (setsOf (L : Int)) F = 0) => mholds_ok (L : Int) gv _ F l W hg (Rd.mono (Rd.below hl hb) hb.size) hcF hw
  obtain ⟨is, his⟩ : ∃ is, holds f l = is := ⟨_, rfl⟩
  rw [his] at H2 hRR
  have HH2 := Lib.hid H2
  have HH3 := Lib.hid H3
  have HRR := Lib.hid hRR
  have HCH := Lib.hid hch
  have HF := Lib.hid hf
  have HLV := Lib.hid hl
  have HG := Lib.hid hg
  have HOK := Lib.hid hok
  have HC := Lib.hid hc
  have HW := Lib.hid hw
  have hinv : ∀ W, (invoke (.fn (.func sf) caps) #[]).run Tryz.prog W = .ok (.enter sf caps) W := fun W => by simp [invoke, hsf]
  obtain ⟨fA, fc, rfl, hfc, _⟩ := id hf
  obtain ⟨lA, lc, rfl, hlc, _⟩ := id hl
  generalize hfn : f.length = fn at *
  have HFN := Lib.hid hfn
  clear H2 H3 hRR hch hf hl hg hok hc hw hR hwd his hfn
  go_enter Tryz.func12, Tryz.ntmps12
  go_wp2_with fail
  refine (HF1.out _).mono ?_
  rintro e w1 ⟨rfl, hb1⟩
  have H2 := HH2.out w1 hb1
  have HB1 := Lib.hid hb1
  clear hb1
  go_wp2_with fail
  refine H2.mono ?_
  rintro e w2 ⟨rfl, hb2⟩
  have HB2 := Lib.hid (HB1.out.trans (hb2.mono HB1.out.size))
  clear hb2 H2
  go_wp2_with fail
  refine (HCH.out w2 HB2.out).mono ?_
  rintro e w3 ⟨hb3, gv, b, rfl, hnone, hsome⟩
  have hB3 := HB2.out.trans (hb3.mono HB2.out.size)
  have HB3 := Lib.hid hB3
  clear hb3 hB3
  cases b
  · clear hnone hsome
    go_wp2_with fail
    go_ret
    exact ⟨rfl, HB3.out⟩
  rcases R with _ | u
  · exact absurd (hnone rfl) (by decide)
  obtain ⟨h40b, hgv⟩ := hsome u rfl
  have h40 : (u.flat 0).length ≤ 40 := by simpa using h40b.symm
  clear h40b
  obtain ⟨gC, gT, gH, gO, gS, gA⟩ := HRR.out u rfl h40
  have hwr := write_any (L : Int) gv (u.flat 0) w3 hgv gC
  rw [gT] at hwr
  have hrd := fun (hle : u.txt.length ≤ 300) W => read_any L (by omega) (by omega) u gO hle (gS hle) W
  obtain ⟨G, hG⟩ : ∃ G, u.flat 0 = G := ⟨_, rfl⟩
  obtain ⟨T, hT⟩ : ∃ T, u.txt = T := ⟨_, rfl⟩
  rw [hG] at hgv gC gH gA h40
  simp only [hG, hT] at hrd
  rw [hT] at hwr
  obtain ⟨gA0, gc, rfl, hgc, _⟩ := id hgv
  generalize hgn : G.length = gn at *
  have HGV := Lib.hid hgv
  have HGC := Lib.hid gC
  have HGH := Lib.hid gH
  have HGA := Lib.hid gA
  have HRD := Lib.hid hrd
  have HGN := Lib.hid hgn
  clear hgv gC gH gA hrd gT gO gS hG hT hnone hsome hgn
  obtain ⟨RS, hRS⟩ : ∃ RS, (⟨if 300 < T.length then #[] else T.toArray⟩ : ByteArray) = RS := ⟨_, rfl⟩
  obtain ⟨RE, hRE⟩ : ∃ RE, (if 300 < T.length then errV 4 else .nilIface) = RE := ⟨_, rfl⟩
  rw [hRS, hRE] at hwr
  obtain ⟨q, hq⟩ : ∃ q, decide (300 < T.length) = q := ⟨_, rfl⟩
  have hcmp : ∀ W, (binOp .eql 49 RE .nilIface).run Tryz.prog W = .ok (.bool (!q)) W := fun W => by
    rw [← hRE, ← hq]
    by_cases hb : 300 < T.length
    · rw [if_pos hb, errV_pos (by decide)]; simp only [hb, decide_true]; kernel_rfl
    · rw [if_neg hb]; simp only [hb, decide_false]; kernel_rfl
  have heg : ∀ W, (eqGuard BinOp.eql 49 (Operand.tmp 46) (Operand.const Value.nilIface) RE Value.nilIface).run Tryz.prog W = .ok () W := fun W => by
    rw [← hRE]
    by_cases hb : 300 < T.length
    · rw [if_pos hb, errV_pos (by decide)]; kernel_rfl
    · rw [if_neg hb]; kernel_rfl
  have HWR := Lib.hid hwr
  have HRS := Lib.hid hRS
  have HQ := Lib.hid hq
  clear hwr hRS hRE hq
  go_wp2_with fail
  refine HWR.out.mono ?_
  rintro e w4 ⟨rfl, hb4⟩
  have HB4 := Lib.hid (HB3.out.trans (hb4.mono HB3.out.size))
  have HG4 := Lib.hid (Rd.mono (Rd.below HGV.out hb4) hb4.size)
  clear hb4
  go_upto_if 47 with fail
  go_cut [11, 13, 14] from 48 to 57 (fun g x y wx => ∃ A c, g = .slice A gn c ∧ RdN wx wx.heap.size g G ∧ Below w.heap.size w wx)
  case first =>
    cases q
    · have hsm : ¬ 300 < T.length := by have := HQ.out; simpa using this
      have HRD2 := Lib.hid (HRD.out (by omega))
      have hrs := HRS.out
      rw [if_neg hsm] at hrs
      subst hrs
      go_wp2_with fail
      refine (HRD2.out _).mono ?_
      rintro e w5 ⟨v5, rfl, hg5, hb5⟩
      have HB5 := Lib.hid (HB4.out.trans (hb5.mono HB4.out.size))
      have HG5 := Lib.hid hg5
      obtain ⟨A5, c5, rfl, _, _⟩ := id hg5
      rw [HGN.out]
      clear hb5 hg5
      go_wp2_with fail
      go_meet
      exact ⟨_, _, rfl, by rw [← HGN.out]; exact HG5.out, HB5.out⟩
    · go_wp2_with fail
      go_meet
      exact ⟨_, _, rfl, HG4.out, HB4.out⟩
  case rest =>
    obtain ⟨gA1, gc1, rfl, hg, hb⟩ := hcut
    have hh := HH3.out wc hb _ G hg HGC.out
    rw [HGH.out] at hh
    have hMM : IntKind.i64.wrap (2 ^ L) = setsOf (L : Int) := by simp [setsOf]
    obtain ⟨_, hgn0, hgn40, hgok⟩ := checkP_ok.1 HGC.out
    have hM64 := (setsOf_le hL.1 hL.2).2
    have HM1 := Lib.hid (fun W (hb : Below w.heap.size w W) => make_any L (setsOf (L : Int)) _ f W (Rd.mono (Rd.below HF.out hb) hb.size) (by omega) (by omega) hMM hM64 HC.out HOK.out (by rw [HFN.out]; exact hn0) (by rw [HFN.out]; exact hn))
    have HM2 := Lib.hid (fun W (hb2 : Below wc.heap.size wc W) => make_any L (setsOf (L : Int)) _ G W (Rd.mono (Rd.below hg hb2) hb2.size) (by omega) (by omega) hMM hM64 HGC.out hgok hgn0 hgn40)
    have HH := Lib.hid hh
    have HB := Lib.hid hb
    clear hh hg hb hMM hgok hgn0 hgn40 hM64 HWR HRS HQ hcmp heg
    obtain ⟨wo, rfl⟩ : ∃ wo : World, wo = wc := ⟨_, rfl⟩
    go_wp2_with fail
    refine HH.out.mono ?_
    rintro e w6 ⟨rfl, hb6⟩
    have HB6 := Lib.hid (HB.out.trans (hb6.mono HB.out.size))
    have HB6o := Lib.hid hb6
    clear hb6
    go_wp2_with fail
    refine (HM1.out _ HB6.out).mono ?_
    rintro e w7 ⟨hb7, dv, rfl, hd7, a1, b1, A1, n1, c1, A2, n2, c2, rfl⟩
    have HB7 := Lib.hid (HB6.out.trans (hb7.mono HB6.out.size))
    have HB7o := Lib.hid (HB6o.out.trans (hb7.mono HB6o.out.size))
    have hne : f ≠ [] := by intro e; rw [e] at HFN; have := HFN.out; simp at this; omega
    have hgne : G ≠ [] := by intro e; rw [e] at HGN; have := HGN.out; have := (checkP_ok.1 HGC.out).2.1; rw [e] at this; simp at this
    have hsame := fun d e => makeP_same (L := L) (d := d) (e := e) hne hgne (fun x hx => HGA.out x hx)
    rcases hmf : makeP L f with _ | d
    · have HG7 := Lib.hid (ErrVar.below HG.out HB7.out)
      simp only [Option.isSome_none, Bool.false_eq_true, if_false, errV_pos (c := 4) (by decide)]
      clear hd7 hb7 hsame hne hgne hmf
      go_wp2_with fail
      refine (HM2.out _ (HB7o.out.alloc HB7o.out.size _)).mono ?_
      rintro e w9 ⟨hb9, dv2, rfl, hd9, a2, b2, B1, m1, e1, B2, m2, e2, rfl⟩
      have HB9 := Lib.hid ((HB7.out.alloc HB7.out.size _).trans (hb9.mono (by have := HB7.out.size; simp; omega)))
      generalize (if (makeP L G).isSome = true then Value.nilIface else errV 4) = RE2
      clear hd9 hb9
      go_wp2_with fail
      refine (error_hit 4 _ (ErrVar.below HG.out (HB9.out.alloc HB9.out.size _))).mono ?_
      rintro e w10 ⟨rfl, hb10⟩
      have HB10 := Lib.hid ((HB9.out.alloc HB9.out.size _).trans (hb10.mono (by have := HB9.out.size; simp; omega)))
      clear hb10
      go_wp2_with fail
      go_ret
      exact ⟨rfl, HB10.out⟩
    · have hD7 := (hd7 d hmf).dfv
      have hMO := makeP_ok hne hmf
      have hdl : d.letters = (L : Int) := hMO.letters
      have hdok : DaOk d := ⟨by rw [hdl]; omega, by rw [hdl]; omega, hMO.lenF, hMO.pos, hMO.le, by rw [hMO.start]; exact Int.le_refl _, by rw [hMO.start]; have := hMO.pos; omega, fun row hr => by rw [hdl, hMO.rowlen row hr], hMO.rowin⟩
      simp only [Option.isSome_some, if_true]
      have HD7 := Lib.hid hD7
      clear hd7 hb7 hD7
      go_wp2_with fail
      refine (HM2.out _ (HB7o.out.alloc HB7o.out.size _)).mono ?_
      rintro e w9 ⟨hb9, dv2, rfl, hd9, a2, b2, B1, m1, e1, B2, m2, e2, rfl⟩
      have HB9 := Lib.hid ((HB7.out.alloc HB7.out.size _).trans (hb9.mono (by have := HB7.out.size; simp; omega)))
      have hblk := (hb9.block w7.heap.size (by simp)).trans (heap_new w7 (Obj.cells #[.int .i64 a1, .int .i64 b1, .slice A1 n1 c1, .slice A2 n2 c2] 59))
      have hD9 : DfV w9 w9.heap.size _ d := (HD7.out.below ((up_alloc1 w7 _).trans (hb9.mono (by simp)))).mono (by have := hb9.size; simp at this; omega)
      rcases hmg : makeP L G with _ | d2
      · simp only [Option.isSome_none, Bool.false_eq_true, if_false, errV_pos (c := 4) (by decide)]
        clear hd9 hb9 hblk hD9
        go_wp2_with fail
        refine (error_nil 4 (by decide) _).mono ?_
        rintro e w10 ⟨rfl, rfl⟩
        go_wp2_with fail
        refine (error_hit 4 _ (ErrVar.below HG.out (HB9.out.alloc HB9.out.size _))).mono ?_
        rintro e w10 ⟨rfl, hb10⟩
        have HB10 := Lib.hid ((HB9.out.alloc HB9.out.size _).trans (hb10.mono (by have := HB9.out.size; simp; omega)))
        clear hb10
        go_wp2_with fail
        go_ret
        exact ⟨rfl, HB10.out⟩
      · have hed := hsame d d2 hmf hmg
        subst hed
        have hD92 := (hd9 d hmg).dfv
        simp only [Option.isSome_some, if_true]
        obtain ⟨W9, hW9⟩ : ∃ W9, w9.alloc (Obj.cells #[.int .i64 a2, .int .i64 b2, .slice B1 m1 e1, .slice B2 m2 e2] 59) = W9 := ⟨_, rfl⟩
        have hbW : Below w9.heap.size w9 W9 := by rw [← hW9]; exact up_alloc1 _ _
        have hdb : W9.heap[w9.heap.size]? = some (Obj.cells #[.int .i64 a2, .int .i64 b2, .slice B1 m1 e1, .slice B2 m2 e2] 59) := by rw [← hW9]; exact heap_new _ _
        have hda := (hbW.block w7.heap.size (lt_blk hblk)).trans hblk
        have hBW := HB9.out.trans (hbW.mono HB9.out.size)
        have hDA := (hD9.below hbW).mono hbW.size
        have hDB := (hD92.below hbW).mono hbW.size
        have HV1 := Lib.hid (fun W (hb : Below W9.heap.size W9 W) => vof_any L _ _ d l W ((hDA.below hb).mono hb.size) hdok hdl (Rd.mono (Rd.below HLV.out (hBW.trans (hb.mono hBW.size))) (hBW.trans (hb.mono hBW.size)).size) HW.out)
        have HV2 := Lib.hid (fun W (hb : Below W9.heap.size W9 W) => vof_any L _ _ d l W ((hDB.below hb).mono hb.size) hdok hdl (Rd.mono (Rd.below HLV.out (hBW.trans (hb.mono hBW.size))) (hBW.trans (hb.mono hBW.size)).size) HW.out)
        have HSM := Lib.hid (fun W (hb : Below W9.heap.size W9 W) => dfa_same _ _ d W ((hDA.below hb).mono hb.size) ((hDB.below hb).mono hb.size) (by have := hdok.le; omega) (by have := hdok.lenF; have := hdok.le; omega) (fun row hr => by have := hdok.rowlen row hr; have := hdok.let6; omega))
        have HDAB := Lib.hid hda
        have HDBB := Lib.hid hdb
        have HBL := Lib.hid hblk
        have HBW9 := Lib.hid hBW
        generalize verdictP L d l = vv at *
        clear hd9 hb9 hblk hD9 hD92 hbW hda hdb hBW hDA hDB hsame hne hgne hmf hmg hMO hdok hdl
        have q0 := fld_cell HBL.out 0
        have q1 := fld_cell HBL.out 1
        have q2 := fld_cell HBL.out 2
        have q3 := fld_cell HBL.out 3
        have ql := lt_blk HBL.out
        simp at q0 q1 q2 q3
        have HW9 := Lib.hid hW9
        clear hW9
        go_wp2_with fail
        rw [HW9.out]
        refine (HV1.out W9 (Below.refl _ _)).mono ?_
        rintro e w10 ⟨rfl, hb10⟩
        clear q0 q1 q2 q3 ql
        have hdb := (hb10.block _ (lt_blk HDBB.out)).trans HDBB.out
        have p0 := fld_cell hdb 0
        have p1 := fld_cell hdb 1
        have p2 := fld_cell hdb 2
        have p3 := fld_cell hdb 3
        have pl := lt_blk hdb
        simp at p0 p1 p2 p3
        have HB10 := Lib.hid hb10
        clear hb10 hdb
        go_wp2_with fail
        refine (HV2.out w10 HB10.out).mono ?_
        rintro e w11 ⟨rfl, hb11⟩
        clear p0 p1 p2 p3 pl
        have hB11 := HB10.out.trans (hb11.mono HB10.out.size)
        have hdb := (hB11.block _ (lt_blk HDBB.out)).trans HDBB.out
        have hda := (hB11.block _ (lt_blk HDAB.out)).trans HDAB.out
        have p0 := fld_cell hdb 0
        have p1 := fld_cell hdb 1
        have p2 := fld_cell hdb 2
        have p3 := fld_cell hdb 3
        have pl := lt_blk hdb
        have r0 := fld_cell hda 0
        have r1 := fld_cell hda 1
        have r2 := fld_cell hda 2
        have r3 := fld_cell hda 3
        have rl := lt_blk hda
        simp at p0 p1 p2 p3 r0 r1 r2 r3
        have HB11 := Lib.hid hB11
        clear hb11 hB11 hdb hda
        go_wp2_with fail
        refine (HSM.out w11 HB11.out).mono ?_
        rintro e w12 ⟨rfl, hb12⟩
        have hB11w := HBW9.out.trans (HB11.out.mono HBW9.out.size)
        have HB12 := Lib.hid (hB11w.trans (hb12.mono hB11w.size))
        clear hb12 hB11w
        go_wp2_with fail
        go_ret
        exact ⟨rfl, HB12.out⟩
end Go.Proofs.YtccknopchddicaaGreatDoor
