/- contract: core.Explore. -/
import Derived.Test.YtccknopchddicaaDoorB7
namespace Go.Proofs.YtccknopchddicaaDoor
open Go.RowKit Stile
set_option maxRecDepth 100000 in
set_option maxHeartbeats 2000000 in
theorem explore_any (st : Nat → Int → Nat) (s L sf : Nat) (caps : Array Value) (Pk : Nat → Prop) (w : World) (hL : L ≤ 6) (hs : Pk s) (hP : ∀ k a, Pk k → Ltr L a → Pk (st k a)) (hPlt : ∀ k, Pk k → k < 18446744073709551616)
    (hsf : ∀ args W, (callFunc sf args).run Tryd.prog W = .ok (.enter sf args) W)
    (hstep : ∀ (k a : Nat) (W : World), Pk k → a < L → Below w.heap.size w W → Calls Tryd.prog sf (#[.int .u64 (k : Int), .int .i64 (a : Int)] ++ caps) W fun e w' => e = .returned (.int .u64 ((st k a : Nat) : Int)) ∧ Below W.heap.size W w') :
    Calls Tryd.prog 21 #[.int .u64 (s : Int), .int .i64 (L : Int), .int .i64 40, .func (.func sf) #[] caps] w fun e w' => Below w.heap.size w w' ∧ ∃ kv nv, e = .returned (.tuple #[kv, nv, .bool (explored st s L 40).isSome]) ∧
      ∀ ks next, explored st s L 40 = some (ks, next) → ∃ base Bb mb rs, Book w' base Bb mb kv ks ∧ Nxt w' base nv L next rs := by
  have hB0 := fun w => newbook_any w
  go_enter Tryd.func21, Tryd.ntmps21
  go_wp2_with fail
  refine (hB0 _).mono ?_
  rintro e w1 ⟨Bb, mb, rfl, hb1, hw1⟩
  go_wp2_with fail
  refine (of_any s _ Bb mb _ [] _ hb1 (hPlt s hs) (by simp) hw1.size).mono ?_
  rintro e w2 ⟨v2, ks2, rfl, hks2, hb2, ht2⟩
  have hks2 : ks2 = [s] := by simpa using hks2
  subst hks2
  have hw2 := ht2.below hb1 hw1 hw1.size
  have HB2 := Lib.hid hb2
  have HW2 := Lib.hid hw2
  clear hb1 hw1 ht2 hB0 hb2 hw2
  have hR0 : explore st 40 L (41 - 0) 0 [s] [] = explored st s L 40 := rfl
  obtain ⟨R, hR⟩ : ∃ R, explored st s L 40 = R := ⟨_, rfl⟩
  rw [hR] at hR0
  have HRR := Lib.hid hR
  have hmk := fun w => run_make_row' (P := Tryd.prog) 23 3 (.int .i64 0) 8 Tryd.underlying23 info_int rfl .i64 .i64 L (by omega) (by omega) w
  obtain ⟨i0, hi, hz0, hz1, hz2⟩ := info_parts info_ints
  have HR0 := Lib.hid hR0
  have HSTEP := Lib.hid hstep
  have HP := Lib.hid hP
  clear hR0 hR hstep hP
  go_wp2_with fail
  go_loopw [12, 13] (fun nv i wr => ∃ (m : Nat) (ks : List Nat) (v : Value) (next : List (List Int)) (rs : List Nat), i = .int .i64 (m : Int) ∧ m = next.length ∧ m ≤ ks.length ∧ ks.length ≤ 40 ∧ (∀ k ∈ ks, Pk k) ∧
      Below w.heap.size w wr ∧ Book wr w.heap.size Bb mb v ks ∧ Nxt wr w.heap.size nv L next rs ∧ explore st 40 L (41 - m) m ks next = R) (fun _ i _ => 41 - (intOf i).toNat)
  case atStart =>
    exact ⟨0, [s], v2, [], [], rfl, rfl, by simp, by simp, by simpa using hs, HW2.out, HB2.out, ⟨rfl, World.ownsRow_nil _ _ _ _, fun j hj => by simp at hj⟩, HR0.out⟩
  case round =>
    obtain ⟨m, ks, v, next, rs, rfl, hm, hmk', hk40, hPk, hBel, hBook, hNxt, hEx⟩ := hrel
    obtain ⟨wo, rfl⟩ : ∃ wo : World, wo = wr := ⟨_, rfl⟩
    have hc1 := hBook.cell1
    have HBo := Lib.hid hBook
    have HN := Lib.hid hNxt
    have HBe := Lib.hid hBel
    have HE := Lib.hid hEx
    have HPk := Lib.hid hPk
    have HM := Lib.hid hm
    obtain ⟨A, c, rfl⟩ := hBook.slice
    clear hBook hNxt hBel hEx hPk hm
    by_cases hlt : m < ks.length
    · have hx : Pk (ks.getD m 0) := by
        rw [List.getD, List.getElem?_eq_getElem hlt]; exact HPk.out _ (List.getElem_mem hlt)
      have hEx' : (match rowFrom st 40 (ks.getD m 0) L 0 ks [] with
        | none => none
        | some (ks', row) => explore st 40 L (40 - m) (m + 1) ks' (next ++ [row])) = R := by
        rw [← HE.out, show 41 - m = (40 - m) + 1 by omega, explore, if_pos hlt]
        rcases rowFrom st 40 (ks.getD m 0) L 0 ks [] with _ | ⟨a, b⟩ <;> rfl
      obtain ⟨x, hxe⟩ : ∃ x, ks.getD m 0 = x := ⟨_, rfl⟩
      rw [hxe] at hx hEx'
      obtain ⟨RR, hRR⟩ : ∃ RR, rowFrom st 40 x L 0 ks [] = RR := ⟨_, rfl⟩
      rw [hRR] at hEx'
      have hrlt : ∀ j, j < next.length → rs.getD j 0 < wo.heap.size := fun j hj => (HN.out.rows j hj).lt
      have hN1 : Nxt (wo.alloc (Obj.cells (madeCells #[Value.int IntKind.i64 0] L) 3)) w.heap.size u12 L next rs := HN.out.below ((Below.refl _ _).alloc (Nat.le_refl _) _)
      have hBo1 : Book (wo.alloc (Obj.cells (madeCells #[Value.int IntKind.i64 0] L) 3)) w.heap.size Bb mb (.slice A ks.length c) ks := HBo.out.below ((Below.refl _ _).alloc (Nat.le_refl _) _)
      have hBe1 : Below w.heap.size w (wo.alloc (Obj.cells (madeCells #[Value.int IntKind.i64 0] L) 3)) := HBe.out.alloc HBe.out.size _
      have hr1 : (wo.alloc (Obj.cells (madeCells #[Value.int IntKind.i64 0] L) 3)).rowIs wo.heap.size 3 L (ints []) := (World.rowIs_made wo (.int .i64 0) L 3).congr (fun j _ => by simp [ints])
      have hwsz : w.heap.size ≤ wo.heap.size := HBe.out.size
      have HN1 := Lib.hid hN1
      have HBo1 := Lib.hid hBo1
      have HBe1 := Lib.hid hBe1
      have HR1 := Lib.hid hr1
      have HEx := Lib.hid hEx'
      have HRW := Lib.hid hRR
      have HXE := Lib.hid hxe
      have HX := Lib.hid hx
      have HRL := Lib.hid hrlt
      clear hN1 hBo1 hBe1 hr1 hEx' hRR hxe hx hrlt
      go_wp2_with fail
      generalize hrb : wo.heap.size = rb at *
      go_loopw [34] (fun a wr => ∃ (k : Nat) (ks' : List Nat) (v' : Value) (row : List Int), k ≤ L ∧ a = .int .i64 (k : Int) ∧ Below w.heap.size w wr ∧ Book wr w.heap.size Bb mb v' ks' ∧ Nxt wr w.heap.size u12 L next rs ∧
        wr.rowIs rb 3 L (ints row) ∧ row.length = k ∧ (∃ r, ks' = ks ++ r) ∧ (∀ k ∈ ks', Pk k) ∧ ks'.length ≤ 40 ∧ rowFrom st 40 x (L - k) k ks' row = RR) (fun a _ => L - (intOf a).toNat)
      case atStart => exact ⟨0, ks, _, [], by omega, rfl, HBe1.out, HBo1.out, HN1.out, HR1.out, rfl, ⟨[], by simp⟩, HPk.out, hk40, HRW.out⟩
      case round =>
        obtain ⟨k, ks', v', row, hkL, rfl, hBel', hBook', hNxt', hrow, hrl, hpre, hPk', hk40', hRF⟩ := hrel
        by_cases hltk : k < L
        · have hm' : m < ks'.length := by obtain ⟨r, rfl⟩ := hpre; simp; omega
          have hkx : ks'.getD m 0 = x := by
            obtain ⟨r, rfl⟩ := hpre
            rw [← HXE.out, List.getD, List.getElem?_append_left hlt, List.getD]
          obtain ⟨g, cap, rfl, hcg⟩ := hBook'.key hm'
          rw [hkx] at hcg
          have hc1' := hBook'.cell1
          have hcap : ks'.length ≤ cap := by
            rcases hBook'.row.2 with ⟨e, _⟩ | ⟨_, _, _, e, _, _, h, _⟩
            · cases e
            · injection e with _ _ e; omega
          have HBo' := Lib.hid hBook'
          have HN' := Lib.hid hNxt'
          have HBe' := Lib.hid hBel'
          have HRF := Lib.hid hRF
          have HPk' := Lib.hid hPk'
          have HPRE := Lib.hid hpre
          have HROW := Lib.hid hrow
          have HRL' := Lib.hid hrl
          clear hBook' hNxt' hBel' hRF hPk' hpre hrow hrl hkx
          go_wp2_with fail
          refine (HSTEP.out x k wr HX.out hltk HBe'.out).mono ?_
          rintro e w3 ⟨rfl, hw3⟩
          have hy := HP.out x k HX.out ⟨by omega, by omega⟩
          have hrf : rowFrom st 40 x ((L - (k + 1)) + 1) k ks' row = RR := by rw [← HRF.out]; congr 1; omega
          rw [rowFrom] at hrf
          obtain ⟨y, hye⟩ : ∃ y, st x k = y := ⟨_, rfl⟩
          rw [hye] at hy hrf ⊢
          have hb3 := HBo'.out.below hw3
          have hn3 := HN'.out.below hw3
          have hbe3 := HBe'.out.trans (hw3.mono HBe'.out.size)
          have hrow3 := HROW.out.of_block (hw3.block rb HROW.out.lt)
          have hylt := hPlt y hy
          have HRF2 := Lib.hid hrf
          have HY := Lib.hid hy
          have HB3 := Lib.hid hb3
          have HN3 := Lib.hid hn3
          have HBE3 := Lib.hid hbe3
          have HR3 := Lib.hid hrow3
          clear hrf hy hb3 hn3 hbe3 hrow3 hw3 hye hcg hc1'
          go_wp2_with fail
          refine (of_any y _ Bb mb _ ks' _ HB3.out hylt hk40' HBE3.out.size).mono ?_
          rintro e w4 ⟨v4, ks4, rfl, hks4, hb4, ht4⟩
          have hn4 := But3.nxt HB3.out ht4 HN3.out
          have hbe4 := ht4.below HB3.out HBE3.out HBE3.out.size
          have hrow4 := HR3.out.of_block (by obtain ⟨cs, hc⟩ := rowIs_blk HR3.out; exact ht4.row HB3.out hc (by decide) (by decide))
          have hc4 := hrow4.cell hltk
          have hf4 := hrow4.frozen k
          have hrnew : ∀ (n : Int) (j : Nat), j < L → (if j = k then Value.int .i64 n else ints row j) = ints (row ++ [n]) j := fun n j _ => by rw [ints_snoc, HRL'.out]
          have hset : ∀ n : Int, (w4.setCell ⟨rb, k, none⟩ (.int .i64 n)).rowIs rb 3 L (ints (row ++ [n])) := fun n => (hrow4.set k _).congr (hrnew n)
          have hbset : ∀ n : Int, Book (w4.setCell ⟨rb, k, none⟩ (.int .i64 n)) w.heap.size Bb mb v4 ks4 := fun n => by
            obtain ⟨cs, hc⟩ := rowIs_blk hrow4
            exact hb4.store hc (by decide) (by decide) _ _
          have hnset : ∀ n : Int, Nxt (w4.setCell ⟨rb, k, none⟩ (.int .i64 n)) w.heap.size u12 L next rs := fun n => by
            obtain ⟨cs, hc⟩ := rowIs_blk hrow4
            exact hn4.store hc (by decide) (fun j hj => by have := HRL.out j hj; omega) _ _
          have hbeset : ∀ n : Int, Below w.heap.size w (w4.setCell ⟨rb, k, none⟩ (.int .i64 n)) := fun n => hbe4.setCell hwsz _
          unfold ints at hc4
          generalize row.getD k 0 = r0 at hc4
          have HSET := Lib.hid hset
          have HBS := Lib.hid hbset
          have HNS := Lib.hid hnset
          have HBES := Lib.hid hbeset
          have HBE4 := Lib.hid hbe4
          clear hset hbset hnset hbeset hrow4 hn4 hbe4 ht4 hb4 hrnew
          by_cases hmem : y ∈ ks'
          · have e4 : ks4 = ks' := by rw [hks4, if_pos hmem]
            have hrf := HRF2.out
            rw [if_pos hmem] at hrf
            have HRF3 := Lib.hid hrf
            have HM4 := Lib.hid e4
            have hdec : decide (y ∉ ks') = false := by simpa using hmem
            rw [if_pos hmem, hdec]
            obtain ⟨nn, hnn⟩ : ∃ nn, ((ks'.idxOf y : Nat) : Int) = nn := ⟨_, rfl⟩
            rw [hnn]
            have HNN := Lib.hid hnn
            clear hrf e4 hks4 hdec hnn hmem
            go_wp2_with fail
            go_roundw
            case rel =>
              refine ⟨k + 1, ks4, v4, row ++ [nn], by omega, by go_num, HBES.out _, HBS.out _, HNS.out _, HSET.out _, by simp [HRL'.out], ?_, ?_, ?_, ?_⟩
              · rw [HM4.out]; exact HPRE.out
              · rw [HM4.out]; exact HPk'.out
              · rw [HM4.out]; exact hk40'
              · rw [HM4.out, ← HNN.out]
                have := HRF3.out
                simpa using this
            case measure => simp [intOf]; omega
          · have e4 : ks4 = ks' ++ [y] := by rw [hks4, if_neg hmem]
            have hrf := HRF2.out
            rw [if_neg hmem] at hrf
            have hdec : decide (y ∉ ks') = true := by simpa using hmem
            rw [if_neg hmem, hdec]
            by_cases hfull : 40 ≤ ks'.length
            · rw [if_pos hfull] at hrf
              have HRF3 := Lib.hid hrf
              clear hrf e4 hks4 hdec hmem
              go_wp2_with fail
              go_ret3
              have hRR := HRF3.out
              have hRn := HEx.out
              rw [← hRR] at hRn
              refine ⟨HBE4.out, .slice none 0 0, .slice none 0 0, ?_, ?_⟩
              · rw [HRR.out, ← hRn]; rfl
              · intro ks2 next2 he
                rw [HRR.out, ← hRn] at he
                cases he
            · rw [if_neg hfull] at hrf
              have HRF3 := Lib.hid hrf
              have HM4 := Lib.hid e4
              clear hrf e4 hks4 hdec hmem
              go_wp2_with fail
              go_roundw
              case rel =>
                refine ⟨k + 1, ks4, v4, row ++ [(ks'.length : Int)], by omega, by go_num, HBES.out _, HBS.out _, HNS.out _, HSET.out _, by simp [HRL'.out], ?_, ?_, ?_, ?_⟩
                · rw [HM4.out]; obtain ⟨r, hr⟩ := HPRE.out; exact ⟨r ++ [y], by rw [hr]; simp⟩
                · rw [HM4.out]
                  intro j hj
                  rcases List.mem_append.1 hj with hj | hj
                  · exact HPk'.out j hj
                  · simp at hj; rw [hj]; exact HY.out
                · rw [HM4.out]; simp; omega
                · rw [HM4.out]
                  have := HRF3.out
                  simpa using this
              case measure => simp [intOf]; omega
        · have hkl : L - k = 0 := by omega
          rw [hkl, rowFrom] at hRF
          have hEx3 := HEx.out
          rw [← hRF] at hEx3
          have HE3 := Lib.hid hEx3
          have HBo' := Lib.hid hBook'
          have HN' := Lib.hid hNxt'
          have HBe' := Lib.hid hBel'
          have HPk' := Lib.hid hPk'
          have HPRE := Lib.hid hpre
          have HROW := Lib.hid hrow
          have HRL' := Lib.hid hrl
          have hnl : next.length ≤ 40 := by have := HM.out; omega
          have hown' := hNxt'.own
          have hbsz := hBel'.size
          clear hBook' hNxt' hBel' hRF hEx3 hPk' hpre hrow hrl hkl
          go_wp2_with (at_builtin; refine wpList_append_own_at _ rfl _ _ 33 rfl w.heap.size 23 i0 _ 1 24 Tryd.underlying33 hi hz0 hz1 hz2 rfl (by decide) _ next.length _ rfl (hown'.alloc _) ⟨wr.heap.size, 0, none⟩ 1 1 [.slice (some ⟨rb, 0, none⟩) L L] rfl rfl (cell_one_new _ _ _) (by simp [Value.oneCell']) (by unfold maxLen; omega) (by omega) (by simp; omega) ?_; intro nv' w5 hown5 hgrow5 _ hat5)
          have hrow' : ∀ g, u12.ownBlock = some g → ∃ cur, (wr.alloc (Obj.cells #[Value.slice (some ⟨rb, 0, none⟩) L L] 23)).heap[g]? = some (.cells cur 23 (0, 0)) := fun g hg => own_blk (hown'.alloc _) hg
          have hb5 := (HBo'.out.below ((Below.refl _ _).alloc (Nat.le_refl _) _)).grown hgrow5 hrow' (by decide) (by decide)
          have hn5 := Nxt.snoc (HN'.out.below ((Below.refl _ _).alloc (Nat.le_refl _) _)) (HROW.out.alloc _) hgrow5 hown5
          have hbe5 := (HBe'.out.alloc hbsz (Obj.cells #[Value.slice (some ⟨rb, 0, none⟩) L L] 23)).grown hgrow5 (by simp; omega) (fun g hg => (hown'.lt g hg).1)
          have HB5 := Lib.hid hb5
          have HN5 := Lib.hid hn5
          have HBE5 := Lib.hid hbe5
          clear hb5 hn5 hbe5 hrow' hown5 hgrow5 hat5 hown'
          go_wp2_with fail
          go_roundw
          case rel =>
            refine ⟨m + 1, ks', v', next ++ [row], rs ++ [rb], by go_num, by have := HM.out; simp; omega, ?_, hk40', HPk'.out, HBE5.out, HB5.out, HN5.out, ?_⟩
            · obtain ⟨r, hr⟩ := HPRE.out; rw [hr]; simp; omega
            · rw [← HE3.out, show 41 - (m + 1) = 40 - m by omega]
          case measure => simp [intOf]; omega
    · have hRe : R = some (ks, next) := by
        rw [← HE.out, show 41 - m = (40 - m) + 1 by omega, explore, if_neg hlt]
      go_wp2_with fail
      go_ret3
      refine ⟨HBe.out, .slice A ks.length c, u12, ?_, ?_⟩
      · rw [HRR.out, hRe]; rfl
      · intro ks2 next2 he
        rw [HRR.out, hRe] at he
        injection he with he
        injection he with h1 h2
        subst h1; subst h2
        exact ⟨_, _, _, _, HBo.out, HN.out⟩
end Go.Proofs.YtccknopchddicaaDoor
