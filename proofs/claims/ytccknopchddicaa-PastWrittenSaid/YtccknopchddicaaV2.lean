/- contract: past.values of no letter. -/
import Derived.Test.YtccknopchddicaaC5
import Derived.Test.YtccknopchddicaaW1
namespace Go.Proofs.Ytccknopchddicaa
open Go.RowKit Stile

set_option maxRecDepth 100000 in
set_option maxHeartbeats 3200000 in
theorem valuesE_any (M : Int) (fv : Value) (f : List Nd) (w : World) (hf : RdN w w.heap.size fv f) (hok : okF pastK M f) (hn0 : 0 < f.length) (hn : f.length ≤ 40) :
    Calls Try.prog 16 #[fv, .slice none 0 0, .int .i64 (-1)] w fun en w' => ∃ v', en = .returned v' ∧ RdB w' w'.heap.size v' (endL f) ∧ Below w.heap.size w w' := by
  obtain ⟨b, off, c, rfl, hlc, hb, hcell⟩ := hf.at_ hn0
  have hmk := fun w => run_make_row' (P := Try.prog) 38 4 (.bool false) 1 Try.underlying38 info_bool rfl .i64 .i64 f.length (by omega) (by omega) w
  have hokn := okF_at hok
  clear hok hf
  go_enter Try.func16, Try.ntmps16
  go_wp2
  go_loopw [15] (fun i wr => ∃ (k : Nat), k ≤ f.length ∧ i = .int .i64 k ∧ Below w.heap.size w wr ∧ w.heap.size < wr.heap.size ∧ wr.rowIs w.heap.size 4 f.length (bools (endL (f.take k)))) (fun i _ => f.length - (intOf i).toNat)
  case atStart =>
    exact ⟨0, by omega, rfl, (Below.refl _ _).alloc (Nat.le_refl _) _, by simp, (World.rowIs_made _ _ _ _).congr (fun j _ => by simp [bools, endL])⟩
  case round =>
    obtain ⟨k, hk, rfl, hB, hsz, hrow⟩ := hrel
    clear hmk
    by_cases hlt : k < f.length
    · have hc1 := (hcell k hlt)
      rw [← hB.cell (p := ⟨b, off + k*3, none⟩) hb, ← hB.cell (p := ⟨b, off + k*3+1, none⟩) hb, ← hB.cell (p := ⟨b, off + k*3+2, none⟩) hb] at hc1
      have hokk := hokn k hlt
      have hV := endL_take_len f k hk
      have hst := endL_take f k hlt
      clear hokn hcell
      have HT := Lib.hid hst
      clear hst
      generalize endL (f.take k) = V at *
      generalize hx : nd f k = x at *
      obtain ⟨kk, a, b'⟩ := x
      have hset := fun r o => row_put hrow hV r o
      have hskp := fun o => row_skip hrow o
      have HS := Lib.hid hset
      have HK := Lib.hid hskp
      have HV := Lib.hid hV
      have hfr := hrow.frozen k
      have hck := hrow.cell hlt
      have hat := fun (j : Nat) (hj : j < f.length) => hrow.cell hj
      have HX := Lib.hid hx
      unfold bools at hck
      generalize V.getD k false = vk at hck
      clear hset hskp hV hrow hx
      obtain ⟨c1, c2, c3⟩ := hc1
      dsimp only at c1 c2 c3
      obtain ⟨hkk, ho0, ho1, ho2⟩ := hokk
      dsimp only at hkk ho0 ho1 ho2
      have hcases : kk = 0 ∨ kk = 1 ∨ kk = 2 ∨ kk = 3 ∨ kk = 4 ∨ kk = 5 ∨ kk = 10 ∨ kk = 11 := by simp [pastK] at hkk; omega
      clear hkk
      have hbel := fun (r : Bool) o => ((hB.setCell (p := ⟨w.heap.size, k, none⟩) (Nat.le_refl _) (.bool r)).alloc (by simp [World.setCell]; exact hB.size) o)
      have hbel2 := fun o => (hB.alloc hB.size o)
      have HB1 := Lib.hid hbel
      have HB2 := Lib.hid hbel2
      have HB := Lib.hid hB
      have HAT := Lib.hid hat
      have HO0 := Lib.hid ho0
      have HO1 := Lib.hid ho1
      have HO2 := Lib.hid ho2
      clear hbel hbel2 hB hat ho0 ho1 ho2
      rcases hcases with rfl | rfl | rfl | rfl | rfl | rfl | rfl | rfl
      · go_wp2
        go_roundw
        case rel => exact ⟨k + 1, by omega, by go_num, HB1.out _ _, by simp; omega, by rw [HT.out]; have := HS.out (stepE V ⟨0, a, b'⟩); simp only [stepE] at this ⊢; exact this _⟩
        case measure => simp [intOf]; omega
      · go_wp2
        go_roundw
        case rel => exact ⟨k + 1, by omega, by go_num, HB2.out _, by simp; omega, by rw [HT.out]; exact HK.out _⟩
        case measure => simp [intOf]; omega
      · go_wp2
        go_roundw
        case rel => exact ⟨k + 1, by omega, by go_num, HB1.out _ _, by simp; omega, by rw [HT.out]; have := HS.out (stepE V ⟨2, a, b'⟩); simp only [stepE] at this ⊢; exact this _⟩
        case measure => simp [intOf]; omega
      · have ha := HO1.out rfl
        obtain ⟨a, rfl⟩ := Int.eq_ofNat_of_zero_le ha.1
        have ha1 : a < f.length := by omega
        have hca := HAT.out a ha1
        rw [bools_at] at hca
        obtain ⟨va, hva⟩ : ∃ va, getB V (a : Int) = va := ⟨_, rfl⟩
        rw [hva] at hca
        have HA := Lib.hid hva
        clear hva ha
        go_wp2
        go_roundw
        case rel => exact ⟨k + 1, by omega, by go_num, HB1.out _ _, by simp; omega, by rw [HT.out]; have := HS.out (stepE V ⟨3, a, b'⟩); simp only [stepE, HA.out] at this ⊢; exact this _⟩
        case measure => simp [intOf]; omega
      · have ha := HO2.out rfl
        obtain ⟨a, rfl⟩ := Int.eq_ofNat_of_zero_le ha.1
        obtain ⟨b', rfl⟩ := Int.eq_ofNat_of_zero_le ha.2.2.1
        have ha1 : a < f.length := by omega
        have hb1 : b' < f.length := by omega
        have hca := HAT.out a ha1
        have hcb := HAT.out b' hb1
        rw [bools_at] at hca hcb
        obtain ⟨va, hva⟩ : ∃ va, getB V (a : Int) = va := ⟨_, rfl⟩
        obtain ⟨vb, hvb⟩ : ∃ vb, getB V (b' : Int) = vb := ⟨_, rfl⟩
        rw [hva] at hca
        rw [hvb] at hcb
        have HA := Lib.hid hva
        have HVB := Lib.hid hvb
        clear hva ha hvb
        cases va
        all_goals
          go_wp2
          go_roundw
          case rel => exact ⟨k + 1, by omega, by go_num, HB1.out _ _, by simp; omega, by rw [HT.out]; have := HS.out (stepE V ⟨4, a, b'⟩); simp only [stepE, HA.out, HVB.out] at this ⊢; exact this _⟩
          case measure => simp [intOf]; omega
      · have ha := HO2.out rfl
        obtain ⟨a, rfl⟩ := Int.eq_ofNat_of_zero_le ha.1
        obtain ⟨b', rfl⟩ := Int.eq_ofNat_of_zero_le ha.2.2.1
        have ha1 : a < f.length := by omega
        have hb1 : b' < f.length := by omega
        have hca := HAT.out a ha1
        have hcb := HAT.out b' hb1
        rw [bools_at] at hca hcb
        obtain ⟨va, hva⟩ : ∃ va, getB V (a : Int) = va := ⟨_, rfl⟩
        obtain ⟨vb, hvb⟩ : ∃ vb, getB V (b' : Int) = vb := ⟨_, rfl⟩
        rw [hva] at hca
        rw [hvb] at hcb
        have HA := Lib.hid hva
        have HVB := Lib.hid hvb
        clear hva ha hvb
        cases va
        all_goals
          go_wp2
          go_roundw
          case rel => exact ⟨k + 1, by omega, by go_num, HB1.out _ _, by simp; omega, by rw [HT.out]; have := HS.out (stepE V ⟨5, a, b'⟩); simp only [stepE, HA.out, HVB.out] at this ⊢; exact this _⟩
          case measure => simp [intOf]; omega
      · go_wp2
        go_roundw
        case rel => exact ⟨k + 1, by omega, by go_num, HB1.out _ _, by simp; omega, by rw [HT.out]; have := HS.out (stepE V ⟨10, a, b'⟩); simp only [stepE] at this ⊢; exact this _⟩
        case measure => simp [intOf]; omega
      · go_wp2
        go_roundw
        case rel => exact ⟨k + 1, by omega, by go_num, HB1.out _ _, by simp; omega, by rw [HT.out]; have := HS.out (stepE V ⟨11, a, b'⟩); simp only [stepE] at this ⊢; exact this _⟩
        case measure => simp [intOf]; omega
    · have hkn : f.take k = f := List.take_of_length_le (by omega)
      rw [hkn] at hrow
      have HB := Lib.hid hB
      have HR := Lib.hid hrow
      clear hkn hB hrow
      go_wp2
      go_ret
      refine ⟨_, rfl, ?_, HB.out⟩
      have := Rd.of_rowIs HR.out hsz
      unfold RdB
      rw [endL_len]
      exact this
end Go.Proofs.Ytccknopchddicaa
