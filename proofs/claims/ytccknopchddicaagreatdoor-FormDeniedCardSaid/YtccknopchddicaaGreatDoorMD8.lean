/- contract: back.Make. -/
import Derived.Test.YtccknopchddicaaGreatDoorMD5
import Derived.Test.YtccknopchddicaaGreatDoorMD7
set_option linter.unusedSimpArgs false
set_option linter.unusedVariables false
set_option linter.unnecessarySimpa false
namespace Go.Proofs.YtccknopchddicaaGreatDoor
open Go.RowKit Stile
theorem back_da {L : Nat} {f : List Nd} {d : Da} (h : BackOk L f d) (hL1 : 1 ≤ L) (hL6 : L ≤ 6) : DaOk d :=
  ⟨by rw [h.letters]; omega, by rw [h.letters]; omega, h.lenF, h.pos, h.le, by rw [h.start]; decide, by rw [h.start]; have := h.pos; omega, fun row hr => by rw [h.rowlen row hr, h.letters], h.rowin⟩
theorem DaOk.na {d : Da} (h : DaOk d) : NaOk (nfaOf d) := by
  refine ⟨h.let1, h.let6, by have := h.pos; simp [nfaOf]; omega, by have := h.le; simp [nfaOf]; omega, by simp [nfaOf], ?_, ?_, ?_, ?_, ?_⟩
  · have := finals_len d.final 0
    have := h.lenF
    have := h.le
    simp [nfaOf]; omega
  · obtain ⟨L, hL⟩ : ∃ L : Nat, d.letters = (L : Int) := ⟨d.letters.toNat, by have := h.let1; omega⟩
    have h1 := nextMoves_len L d.next 0 (fun row hr => by have := h.rowlen row hr; omega)
    have h6 : L ≤ 6 := by have := h.let6; omega
    show (nextMoves 0 d.next).length ≤ 240
    rw [h1]
    calc d.next.length * L ≤ 40 * 6 := Nat.mul_le_mul h.le h6
      _ = 240 := rfl
  · intro s hs
    have : s = d.start := by simpa [nfaOf] using hs
    subst this
    exact ⟨h.st0, h.st1⟩
  · intro s hs
    have hs := mem_finals.1 (by simpa [nfaOf] using hs : s ∈ finals 0 d.final)
    refine ⟨hs.1, ?_⟩
    have h2 := hs.2
    rcases Nat.lt_or_ge (s - 0).toNat d.final.length with h3 | h3
    · have := h.lenF; simp [nfaOf]; omega
    · rw [List.getD, List.getElem?_eq_none h3] at h2; cases h2
  · intro m hm
    have hm := mem_nextMoves.1 (by simpa [nfaOf] using hm : m ∈ nextMoves 0 d.next)
    obtain ⟨h1, h2, row, h3, h4⟩ := hm
    have hrow : row ∈ d.next := List.mem_of_getElem? h3
    have hlt : (m.f - 0).toNat < d.next.length := by
      rcases Nat.lt_or_ge (m.f - 0).toNat d.next.length with h | h
      · exact h
      · rw [List.getElem?_eq_none h] at h3; cases h3
    have hlt2 : m.l.toNat < row.length := by
      rcases Nat.lt_or_ge m.l.toNat row.length with h | h
      · exact h
      · rw [List.getElem?_eq_none h] at h4; cases h4
    have := h.rowin row hrow m.t (List.mem_of_getElem? h4)
    have := h.rowlen row hrow
    simp [nfaOf]; omega
theorem NaOk.mirror {n : Na} (h : NaOk n) : NaOk (nfaMirror n) := by
  refine ⟨h.let1, h.let6, h.st1, h.st40, h.final, h.starts, by have := h.moves; simpa [nfaMirror] using this, h.finin, h.startin, ?_⟩
  intro m hm
  obtain ⟨x, hx, rfl⟩ := List.mem_map.1 hm
  obtain ⟨a1, a2, a3, a4, a5, a6⟩ := h.movin x hx
  exact ⟨a3, a4, a1, a2, a5, a6⟩
theorem errV4 : errV 4 = .iface 76 (.int .i64 4) := by simp [errV]
theorem DfV.shape {w : World} {B : Nat} {dv : Value} {d : Da} (h : DfV w B dv d) : ∃ nA nn nc fA fn fc, dv = .agg #[.int .i64 d.letters, .int .i64 d.start, .slice nA nn nc, .slice fA fn fc] := by
  obtain ⟨nv, fv, rfl, ⟨rv, ⟨nA, nc, rfl, _⟩, _⟩, ⟨fA, fc, rfl, _⟩⟩ := h
  exact ⟨_, _, _, _, _, _, rfl⟩
theorem NfV.shape {w : World} {B : Nat} {dv : Value} {d : Na} (h : NfV w B dv d) : ∃ sA sn sc mA mn mc fA fn fc, dv = .agg #[.int .i64 d.letters, .int .i64 d.states, .slice sA sn sc, .slice mA mn mc, .slice fA fn fc] := by
  obtain ⟨sv, mv, fv, rfl, ⟨sA, sc, rfl, _⟩, ⟨mA, mc, rfl, _⟩, ⟨fA, fc, rfl, _⟩⟩ := h
  exact ⟨_, _, _, _, _, _, _, _, _, rfl⟩
def DaShape (dv : Value) : Prop := ∃ (a b : Int) (A1 : Option Addr) (n1 c1 : Nat) (A2 : Option Addr) (n2 c2 : Nat), dv = .agg #[.int .i64 a, .int .i64 b, .slice A1 n1 c1, .slice A2 n2 c2]
set_option maxRecDepth 100000 in
set_option maxHeartbeats 2000000 in
theorem make_any (L : Nat) (M : Int) (fv : Value) (f : List Nd) (w : World) (hf : RdN w w.heap.size fv f) (hL1 : 1 ≤ L) (hL6 : L ≤ 6) (hM : IntKind.i64.wrap (2 ^ L) = M) (hM64 : M ≤ 64) (hchk : checkP L M f = 0)
    (hok : okF futK M f) (hn0 : 0 < f.length) (hn : f.length ≤ 40) :
    Calls Tryz.prog 42 #[.int .i64 L, fv] w fun e w' => Below w.heap.size w w' ∧ ∃ dv, e = .returned (.tuple #[dv, if (makeP L f).isSome then .nilIface else errV 4]) ∧ (∀ d, makeP L f = some d → DfT w' dv d) ∧ DaShape dv := by
  have HB : ∀ W, Below w.heap.size w W → _ := fun W hb => back_any L M fv f W (Rd.mono (Rd.below hf hb) hb.size) hL1 hL6 hM hM64 hchk hok hn0 hn
  have HOK : ∀ d, backP L f = some d → DaOk d := fun d h => back_da (backP_ok (by intro e; subst e; simp at hn0) h) hL1 hL6
  have hmp : makeP L f = (backP L f).bind fun d => nfaMake (nfaMirror (nfaOf d)) := rfl
  obtain ⟨R, hR⟩ : ∃ R, backP L f = R := ⟨_, rfl⟩
  rw [hR] at HB HOK hmp
  rw [hmp]
  have HBB := Lib.hid HB
  have HO := Lib.hid HOK
  have hfs := hf
  obtain ⟨fA, fc, rfl, _, _⟩ := hf
  generalize f.length = nn at *
  clear HB HOK hmp hR hchk hok hfs
  go_enter Tryz.func42, Tryz.ntmps42
  go_wp2_with fail
  refine (HBB.out _ ((Below.refl _ _).alloc (Nat.le_refl _) _)).mono ?_
  rintro e w1 ⟨hb1, dv, rfl, hz1, hd1⟩
  have hr1 : w1.heap[w.heap.size]? = some (Obj.cells #[.int .i64 0, .int .i64 0, .slice none 0 0, .slice none 0 0] 59) :=
    (hb1.block _ (by simp)).trans (heap_new w _)
  replace hb1 := ((Below.refl w.heap.size w).alloc (Nat.le_refl _) (Obj.cells #[.int .i64 0, .int .i64 0, .slice none 0 0, .slice none 0 0] 59)).trans (hb1.mono (by simp))
  have hs1 := lt_blk hr1
  have HB1 := Lib.hid hb1
  have HR1 := Lib.hid hr1
  clear hb1 hr1
  obtain _ | d := R
  · obtain rfl := hz1 rfl
    have hc := fun k => fld_cell HR1.out k
    have hfz := fun k => fld_frozen HR1.out k
    have e0 := hc 0
    have e1 := hc 1
    have e2 := hc 2
    have e3 := hc 3
    have f0 := hfz 0
    have f1 := hfz 1
    have f2 := hfz 2
    have f3 := hfz 3
    have e4 := errV4
    simp at e0 e1 e2 e3
    clear hc hfz hz1 hd1
    simp only [Option.isSome_none, errV4, Bool.false_eq_true, ↓reduceIte]
    go_wp2_with fail
    exact bodyPost_ret (v := .tuple #[.agg #[.int .i64 0, .int .i64 0, .slice none 0 0, .slice none 0 0], errV 4]) (by simp [results, Tryz.results42, go_sem, errV, e0, e1, e2, e3, hs1]) rfl ⟨((((HB1.out.setCell (Nat.le_refl _) _).setCell (Nat.le_refl _) _).setCell (Nat.le_refl _) _).setCell (Nat.le_refl _) _).alloc (by simp; omega) _, by simp [errV]; exact ⟨_, _, _, _, _, _, _, _, rfl⟩⟩
  · have hdv := (hd1 d rfl).dfv
    have hdok := HO.out d rfl
    obtain ⟨nA, nn', nc, gA, gn, gc, rfl⟩ := hdv.shape
    have HDV := Lib.hid hdv
    have HDOK := Lib.hid hdok
    clear hd1 hz1 hdv hdok
    simp only [Option.isSome_some, ↓reduceIte, Option.bind_some]
    go_wp2_with fail
    have hb2 : Below w1.heap.size w1 (w1.alloc (Obj.cells #[.int .i64 d.letters, .int .i64 d.start, .slice nA nn' nc, .slice gA gn gc] 59)) := (Below.refl _ _).alloc (Nat.le_refl _) _
    refine (nof_any _ d _ ((HDV.out.below hb2).mono hb2.size) HDOK.out).mono ?_
    rintro e w2 ⟨hb3, nv, rfl, hnv, hnil⟩
    replace hb2 := hb2.trans (hb3.mono hb2.size)
    have hnaok := HDOK.out.na
    obtain ⟨sA, sn, sc, mA, mn, mc, qA, qn, qc, rfl⟩ := hnv.shape
    have HB2 := Lib.hid hb2
    have HNV := Lib.hid hnv
    have HNIL := Lib.hid hnil
    have HNA := Lib.hid hnaok
    have hs2 : w.heap.size < w2.heap.size := Nat.lt_of_lt_of_le hs1 hb2.size
    clear hb2 hb3 hnv hnil hnaok
    go_wp2_with fail
    have hb4 : Below w2.heap.size w2 (w2.alloc (Obj.cells #[.int .i64 (nfaOf d).letters, .int .i64 (nfaOf d).states, .slice sA sn sc, .slice mA mn mc, .slice qA qn qc] 93)) := (Below.refl _ _).alloc (Nat.le_refl _) _
    refine (nmirror_any _ (nfaOf d) _ ((HNV.out.below hb4).mono hb4.size) HNA.out HNIL.out (by simp [nfaOf])).mono ?_
    rintro e w3 ⟨hb5, nv3, rfl, base, hbase, hnv3⟩
    have hbase : w2.heap.size < base := by simp at hbase; omega
    have hn3 : w3.heap[w2.heap.size]? = some (Obj.cells #[.int .i64 (nfaOf d).letters, .int .i64 (nfaOf d).states, .slice sA sn sc, .slice mA mn mc, .slice qA qn qc] 93) := (hb5.block _ (by simp)).trans (heap_new _ _)
    replace hb5 := hb4.trans (hb5.mono hb4.size)
    have hnm := HNA.out.mirror
    obtain ⟨sA', sn', sc', mA', mn', mc', qA', qn', qc', rfl⟩ := hnv3.nfv.shape
    have hcn := fun k => fld_cell hn3 k
    have c0 := hcn 0
    have c1 := hcn 1
    have c2 := hcn 2
    have c3 := hcn 3
    have c4 := hcn 4
    have hfn := fun k => fld_frozen hn3 k
    have f0 := hfn 0
    have f1 := hfn 1
    have f2 := hfn 2
    have f3 := hfn 3
    have f4 := hfn 4
    have hs3 := lt_blk hn3
    simp at c0 c1 c2 c3 c4
    have HB5 := Lib.hid hb5
    have HNV3 := Lib.hid hnv3
    have HNM := Lib.hid hnm
    have HN3 := Lib.hid hn3
    clear hcn hfn hb4 hb5 hnv3 hnm hn3
    go_wp2_with fail
    have hset := ((((HNV3.out.set hbase 0 (.int .i64 (nfaMirror (nfaOf d)).letters)).set hbase 1 (.int .i64 (nfaMirror (nfaOf d)).states)).set hbase 2 (.slice sA' sn' sc')).set hbase 3 (.slice mA' mn' mc')).set hbase 4 (.slice qA' qn' qc')
    have hbl4 := (((((HB5.out.setCell (p := ⟨w2.heap.size, 0, none⟩) (Nat.le_refl _) (.int .i64 (nfaMirror (nfaOf d)).letters)).setCell (p := ⟨w2.heap.size, 1, none⟩) (Nat.le_refl _) (.int .i64 (nfaMirror (nfaOf d)).states)).setCell (p := ⟨w2.heap.size, 2, none⟩) (Nat.le_refl _) (.slice sA' sn' sc')).setCell (p := ⟨w2.heap.size, 3, none⟩) (Nat.le_refl _) (.slice mA' mn' mc')).setCell (p := ⟨w2.heap.size, 4, none⟩) (Nat.le_refl _) (.slice qA' qn' qc'))
    have hcall := nmake_any _ _ _ hset.nfv HNM.out
    refine hcall.mono ?_
    rintro e w5 ⟨hb6, dv5, rfl, hz5, hd5⟩
    replace hb6 := hbl4.trans (hb6.mono (by have := hbl4.size; exact this))
    have hr5 := (hb6.block _ hs2).trans ((HB2.out.block _ hs1).trans HR1.out)
    have hB : Below w.heap.size w w5 := HB1.out.trans ((HB2.out.mono (by omega)).trans (hb6.mono (by omega)))
    have hshape : ∃ (a b : Int) (A1 : Option Addr) (n1 c1 : Nat) (A2 : Option Addr) (n2 c2 : Nat), dv5 = .agg #[.int .i64 a, .int .i64 b, .slice A1 n1 c1, .slice A2 n2 c2] := by
      rcases h : nfaMake (nfaMirror (nfaOf d)) with _ | d5
      · exact ⟨_, _, _, _, _, _, _, _, hz5 h⟩
      · obtain ⟨_, _, _, _, _, _, e⟩ := (hd5 d5 h).dfv.shape
        exact ⟨_, _, _, _, _, _, _, _, e⟩
    obtain ⟨a5, b5, A1, n1, c1', A2, n2, c2', rfl⟩ := hshape
    have hc := fun k => fld_cell hr5 k
    have hfz := fun k => fld_frozen hr5 k
    have e0 := hc 0
    have e1 := hc 1
    have e2 := hc 2
    have e3 := hc 3
    have g0 := hfz 0
    have g1 := hfz 1
    have g2 := hfz 2
    have g3 := hfz 3
    have hs5 := lt_blk hr5
    simp at e0 e1 e2 e3
    have HR5 := Lib.hid hr5
    have HBB5 := Lib.hid hB
    have HD5 := Lib.hid hd5
    obtain ⟨ev, hev⟩ : ∃ ev, (if (nfaMake (nfaMirror (nfaOf d))).isSome = true then Value.nilIface else errV 4) = ev := ⟨_, rfl⟩
    rw [hev]
    have HEV := Lib.hid hev
    clear hc hfz hr5 hB hd5 hz5 hev hb6 hbl4 hset hcall c0 c1 c2 c3 c4 f0 f1 f2 f3 f4
    go_wp2_with fail
    all_goals
      refine bodyPost_ret (v := .tuple #[.agg #[.int .i64 a5, .int .i64 b5, .slice A1 n1 c1', .slice A2 n2 c2'], ev]) (by simp [results, Tryz.results42, go_sem, e0, e1, e2, e3]) rfl ⟨?_, .agg #[.int .i64 a5, .int .i64 b5, .slice A1 n1 c1', .slice A2 n2 c2'], ?_, ?_, ⟨_, _, _, _, _, _, _, _, rfl⟩⟩
      · exact (((HBB5.out.setCell (Nat.le_refl _) _).setCell (Nat.le_refl _) _).setCell (Nat.le_refl _) _).setCell (Nat.le_refl _) _
      · rw [← HEV.out]
        first
          | (rw [if_pos (by assumption)])
          | (rw [if_neg (by assumption)])
          | (simp_all)
      · intro d' hd'
        exact (HD5.out d' hd').set4 HR5.out _ _ _ _
end Go.Proofs.YtccknopchddicaaGreatDoor
