/- contract: mean.Ahead. -/
import Derived.Test.YtccknopchddicaaGreatDoorMC4
import Derived.Test.YtccknopchddicaaGreatDoorMW1
set_option linter.unusedSimpArgs false
set_option linter.unusedVariables false
set_option linter.unnecessarySimpa false
namespace Go.Proofs.YtccknopchddicaaGreatDoor
open Go.RowKit Stile
theorem aheadL_take (f : List Nd) (t : List Bool) (e : Int) (k : Nat) (h : k < f.length) : aheadL (f.take (k + 1)) t e = aheadL (f.take k) t e ++ [stepA e t (aheadL (f.take k) t e) (nd f k)] := by
  rw [List.take_succ_eq_append_getElem h, aheadL_snoc]; simp [nd, List.getD, h]
theorem aheadL_take_len (f : List Nd) (t : List Bool) (e : Int) (k : Nat) (h : k ≤ f.length) : (aheadL (f.take k) t e).length = k := by rw [aheadL_len]; simp; omega

set_option maxRecDepth 100000 in
set_option maxHeartbeats 3200000 in
theorem ahead_any (M : Int) (fv tv : Value) (f : List Nd) (t : List Bool) (e : Nat) (w : World) (hf : RdN w w.heap.size fv f) (ht : RdB w w.heap.size tv t) (hok : okF futK M f) (hM : M ≤ 64) (he : e < 6) (htl : t.length = f.length) (hn0 : 0 < f.length) (hn : f.length ≤ 40) :
    Calls Tryz.prog 66 #[fv, tv, .int .i64 e] w fun en w' => ∃ v', en = .returned v' ∧ RdB w' w'.heap.size v' (aheadL f t e) ∧ Below w.heap.size w w' := by
  obtain ⟨b, off, c, rfl, hlc, hb, hcell⟩ := hf.at_ hn0
  obtain ⟨tb, toff, tc, rfl, htc, htb, htcell⟩ := Rd.at1 ht (by omega)
  have hmk := fun w => run_make_row' (P := Tryz.prog) 57 4 (.bool false) 1 Tryz.underlying57 info_bool rfl .i64 .i64 f.length (by omega) (by omega) w
  have hokn := okF_at hok
  rw [htl] at htc htcell ⊢
  have HTL := Lib.hid htl
  clear hok hf ht htl
  go_enter Tryz.func66, Tryz.ntmps66
  go_wp2
  go_loopw [15] (fun i wr => ∃ (k : Nat), k ≤ f.length ∧ i = .int .i64 k ∧ Below w.heap.size w wr ∧ w.heap.size < wr.heap.size ∧ wr.rowIs w.heap.size 4 f.length (bools (aheadL (f.take k) t e))) (fun i _ => f.length - (intOf i).toNat)
  case atStart =>
    exact ⟨0, by omega, rfl, (Below.refl _ _).alloc (Nat.le_refl _) _, by simp, (World.rowIs_made _ _ _ _).congr (fun j _ => by simp [bools, aheadL])⟩
  case round =>
    obtain ⟨k, hk, rfl, hB, hsz, hrow⟩ := hrel
    clear hmk
    by_cases hlt : k < f.length
    · have hc1 := (hcell k hlt)
      rw [← hB.cell (p := ⟨b, off + k*3, none⟩) hb, ← hB.cell (p := ⟨b, off + k*3+1, none⟩) hb, ← hB.cell (p := ⟨b, off + k*3+2, none⟩) hb] at hc1
      have htt : ∀ j, j < f.length → wr.cell? ⟨tb, toff + j, none⟩ = some (.bool (getB t (j : Int))) := fun j hj => by
        rw [hB.cell (p := ⟨tb, toff + j, none⟩) htb, htcell j hj, bools_at]
      have htbs : tb < wr.heap.size := Nat.lt_of_lt_of_le htb hB.size
      have hokk := hokn k hlt
      have hV := aheadL_take_len f t e k hk
      have hst := aheadL_take f t e k hlt
      clear hokn hcell htcell
      have HT := Lib.hid hst
      have HTT := Lib.hid htt
      clear hst htt
      generalize aheadL (f.take k) t e = V at *
      generalize hx : nd f k = x at *
      obtain ⟨kk, a, b'⟩ := x
      have hset := fun r o => row_put hrow hV r o
      have hskp := fun o => row_skip hrow o
      have htk : t.getD V.length false = getB t (k : Int) := by rw [hV]; simp [getB]
      have HS := Lib.hid hset
      have HK := Lib.hid hskp
      have HV := Lib.hid hV
      have HTK := Lib.hid htk
      have hfr := hrow.frozen k
      have hck := hrow.cell hlt
      have hat := fun (j : Nat) (hj : j < f.length) => hrow.cell hj
      have HX := Lib.hid hx
      unfold bools at hck
      generalize V.getD k false = vk at hck
      clear hset hskp hV hrow hx htk
      obtain ⟨c1, c2, c3⟩ := hc1
      dsimp only at c1 c2 c3
      obtain ⟨hkk, ho0, ho1, ho2⟩ := hokk
      dsimp only at hkk ho0 ho1 ho2
      have hcases : kk = 0 ∨ kk = 1 ∨ kk = 2 ∨ kk = 3 ∨ kk = 4 ∨ kk = 5 ∨ kk = 6 ∨ kk = 7 ∨ kk = 8 ∨ kk = 9 := by simp [futK] at hkk; omega
      clear hkk
      have hbel := fun (r : Bool) o => ((hB.setCell (p := ⟨w.heap.size, k, none⟩) (Nat.le_refl _) (.bool r)).alloc (by simp [World.setCell]; exact hB.size) o)
      have hbel2 := fun o => (hB.alloc hB.size o)
      have HB1 := Lib.hid hbel
      have HB2 := Lib.hid hbel2
      have HB := Lib.hid hB
      have HAT := Lib.hid hat
      have HO0 := Lib.hid ho0
      have HO1 := Lib.hid ho1
      have HO2 := Lib.hid ho2
      clear hbel hbel2 hB hat ho0 ho1 ho2
      rcases hcases with rfl | rfl | rfl | rfl | rfl | rfl | rfl | rfl | rfl | rfl
      · go_wp2
        go_roundw
        case rel => exact ⟨k + 1, by omega, by go_num, HB1.out _ _, by simp; omega, by rw [HT.out]; have := HS.out (stepA ↑e t V ⟨0, a, b'⟩); simp only [stepA] at this ⊢; exact this _⟩
        case measure => simp [intOf]; omega
      · go_wp2
        go_roundw
        case rel => exact ⟨k + 1, by omega, by go_num, HB2.out _, by simp; omega, by rw [HT.out]; exact HK.out _⟩
        case measure => simp [intOf]; omega
      · obtain ⟨-, hI, -⟩ := HO0.out rfl
        have hI := hI rfl
        have HIB := Lib.hid (isbit a e hI.1 (by omega))
        have HI := Lib.hid hI
        clear hI
        go_wp2
        rw [HIB.out]
        go_roundw
        case rel => exact ⟨k + 1, by omega, by go_num, HB1.out _ _, by simp; omega, by rw [HT.out]; have := HS.out (stepA ↑e t V ⟨2, a, b'⟩); simp only [stepA] at this ⊢; exact this _⟩
        case measure => simp [intOf]; omega
      · have ha := HO1.out rfl
        obtain ⟨a, rfl⟩ := Int.eq_ofNat_of_zero_le ha.1
        have ha1 : a < f.length := by omega
        have hca := HAT.out a ha1
        rw [bools_at] at hca
        obtain ⟨va, hva⟩ : ∃ va, getB V (a : Int) = va := ⟨_, rfl⟩
        rw [hva] at hca
        have HA := Lib.hid hva
        clear hva ha
        go_wp2
        go_roundw
        case rel => exact ⟨k + 1, by omega, by go_num, HB1.out _ _, by simp; omega, by rw [HT.out]; have := HS.out (stepA ↑e t V ⟨3, a, b'⟩); simp only [stepA, HA.out] at this ⊢; exact this _⟩
        case measure => simp [intOf]; omega
      · have ha := HO2.out rfl
        obtain ⟨a, rfl⟩ := Int.eq_ofNat_of_zero_le ha.1
        obtain ⟨b', rfl⟩ := Int.eq_ofNat_of_zero_le ha.2.2.1
        have ha1 : a < f.length := by omega
        have hb1 : b' < f.length := by omega
        have hca := HAT.out a ha1
        have hcb := HAT.out b' hb1
        rw [bools_at] at hca hcb
        obtain ⟨va, hva⟩ : ∃ va, getB V (a : Int) = va := ⟨_, rfl⟩
        obtain ⟨vb, hvb⟩ : ∃ vb, getB V (b' : Int) = vb := ⟨_, rfl⟩
        rw [hva] at hca
        rw [hvb] at hcb
        have HA := Lib.hid hva
        have HVB := Lib.hid hvb
        clear hva ha hvb
        cases va
        all_goals
          go_wp2
          go_roundw
          case rel => exact ⟨k + 1, by omega, by go_num, HB1.out _ _, by simp; omega, by rw [HT.out]; have := HS.out (stepA ↑e t V ⟨4, a, b'⟩); simp only [stepA, HA.out, HVB.out] at this ⊢; exact this _⟩
          case measure => simp [intOf]; omega
      · have ha := HO2.out rfl
        obtain ⟨a, rfl⟩ := Int.eq_ofNat_of_zero_le ha.1
        obtain ⟨b', rfl⟩ := Int.eq_ofNat_of_zero_le ha.2.2.1
        have ha1 : a < f.length := by omega
        have hb1 : b' < f.length := by omega
        have hca := HAT.out a ha1
        have hcb := HAT.out b' hb1
        rw [bools_at] at hca hcb
        obtain ⟨va, hva⟩ : ∃ va, getB V (a : Int) = va := ⟨_, rfl⟩
        obtain ⟨vb, hvb⟩ : ∃ vb, getB V (b' : Int) = vb := ⟨_, rfl⟩
        rw [hva] at hca
        rw [hvb] at hcb
        have HA := Lib.hid hva
        have HVB := Lib.hid hvb
        clear hva ha hvb
        cases va
        all_goals
          go_wp2
          go_roundw
          case rel => exact ⟨k + 1, by omega, by go_num, HB1.out _ _, by simp; omega, by rw [HT.out]; have := HS.out (stepA ↑e t V ⟨5, a, b'⟩); simp only [stepA, HA.out, HVB.out] at this ⊢; exact this _⟩
          case measure => simp [intOf]; omega
      · have ha := HO1.out rfl
        obtain ⟨a, rfl⟩ := Int.eq_ofNat_of_zero_le ha.1
        have ha1 : a < f.length := by omega
        have hca := HTT.out a ha1
        obtain ⟨va, hva⟩ : ∃ va, getB t (a : Int) = va := ⟨_, rfl⟩
        rw [hva] at hca
        have HA := Lib.hid hva
        clear hva ha
        go_wp2
        go_roundw
        case rel => exact ⟨k + 1, by omega, by go_num, HB1.out _ _, by simp; omega, by rw [HT.out]; have := HS.out (stepA ↑e t V ⟨6, a, b'⟩); simp only [stepA, HA.out] at this ⊢; exact this _⟩
        case measure => simp [intOf]; omega
      · have ha := HO1.out rfl
        obtain ⟨a, rfl⟩ := Int.eq_ofNat_of_zero_le ha.1
        have ha1 : a < f.length := by omega
        have hca := HTT.out a ha1
        obtain ⟨va, hva⟩ : ∃ va, getB t (a : Int) = va := ⟨_, rfl⟩
        rw [hva] at hca
        have HA := Lib.hid hva
        clear hva ha
        go_wp2
        go_roundw
        case rel => exact ⟨k + 1, by omega, by go_num, HB1.out _ _, by simp; omega, by rw [HT.out]; have := HS.out (stepA ↑e t V ⟨7, a, b'⟩); simp only [stepA, HA.out] at this ⊢; exact this _⟩
        case measure => simp [intOf]; omega
      · have ha := HO2.out rfl
        obtain ⟨a, rfl⟩ := Int.eq_ofNat_of_zero_le ha.1
        obtain ⟨b', rfl⟩ := Int.eq_ofNat_of_zero_le ha.2.2.1
        have ha1 : a < f.length := by omega
        have hb1 : b' < f.length := by omega
        have hca := HAT.out a ha1
        have hcb := HAT.out b' hb1
        rw [bools_at] at hca hcb
        obtain ⟨va, hva⟩ : ∃ va, getB V (a : Int) = va := ⟨_, rfl⟩
        obtain ⟨vb, hvb⟩ : ∃ vb, getB V (b' : Int) = vb := ⟨_, rfl⟩
        rw [hva] at hca
        rw [hvb] at hcb
        have HA := Lib.hid hva
        have HVB := Lib.hid hvb
        clear hva ha hvb
        have hct := HTT.out k hlt
        obtain ⟨vt, hvt⟩ : ∃ vt, getB t (k : Int) = vt := ⟨_, rfl⟩
        rw [hvt] at hct
        have HVT := Lib.hid hvt
        clear hvt
        cases vb <;> cases va
        all_goals
          go_wp2
          go_roundw
          case rel => exact ⟨k + 1, by omega, by go_num, HB1.out _ _, by simp; omega, by rw [HT.out]; have := HS.out (stepA ↑e t V ⟨8, a, b'⟩); simp only [stepA, HA.out, HVB.out, HVT.out, HTK.out] at this ⊢; exact this _⟩
          case measure => simp [intOf]; omega
      · have ha := HO2.out rfl
        obtain ⟨a, rfl⟩ := Int.eq_ofNat_of_zero_le ha.1
        obtain ⟨b', rfl⟩ := Int.eq_ofNat_of_zero_le ha.2.2.1
        have ha1 : a < f.length := by omega
        have hb1 : b' < f.length := by omega
        have hca := HAT.out a ha1
        have hcb := HAT.out b' hb1
        rw [bools_at] at hca hcb
        obtain ⟨va, hva⟩ : ∃ va, getB V (a : Int) = va := ⟨_, rfl⟩
        obtain ⟨vb, hvb⟩ : ∃ vb, getB V (b' : Int) = vb := ⟨_, rfl⟩
        rw [hva] at hca
        rw [hvb] at hcb
        have HA := Lib.hid hva
        have HVB := Lib.hid hvb
        clear hva ha hvb
        have hct := HTT.out k hlt
        obtain ⟨vt, hvt⟩ : ∃ vt, getB t (k : Int) = vt := ⟨_, rfl⟩
        rw [hvt] at hct
        have HVT := Lib.hid hvt
        clear hvt
        cases vb <;> cases va
        all_goals
          go_wp2
          go_roundw
          case rel => exact ⟨k + 1, by omega, by go_num, HB1.out _ _, by simp; omega, by rw [HT.out]; have := HS.out (stepA ↑e t V ⟨9, a, b'⟩); simp only [stepA, HA.out, HVB.out, HVT.out, HTK.out] at this ⊢; exact this _⟩
          case measure => simp [intOf]; omega
    · have hkn : f.take k = f := List.take_of_length_le (by omega)
      rw [hkn] at hrow
      have HB := Lib.hid hB
      have HR := Lib.hid hrow
      clear hkn hB hrow
      go_wp2
      go_ret
      refine ⟨_, rfl, ?_, HB.out⟩
      have := Rd.of_rowIs HR.out hsz
      unfold RdB
      rw [aheadL_len]
      exact this
end Go.Proofs.YtccknopchddicaaGreatDoor
