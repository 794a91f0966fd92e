/- contract: mean.End. -/
import Derived.Test.YtccknopchddicaaGreatDoorMW0
set_option linter.unusedSimpArgs false
set_option linter.unusedVariables false
set_option linter.unnecessarySimpa false
namespace Go.Proofs.YtccknopchddicaaGreatDoor
open Go.RowKit Stile
theorem info_bool : (Tryz.prog.info? 4).map (fun i => (i.zero, i.size, i.bytes)) = some (some (.bool false), 1, 1) := by kernel_rfl

theorem bools_snoc (V : List Bool) (r : Bool) (j : Nat) : bools (V ++ [r]) j = if j = V.length then .bool r else bools V j := by
  unfold bools
  by_cases h : j < V.length
  · rw [if_neg (by omega), List.getD, List.getD, List.getElem?_append_left h]
  · by_cases e : j = V.length
    · subst e; simp [List.getD]
    · rw [if_neg e, List.getD, List.getD, List.getElem?_eq_none (by simp; omega), List.getElem?_eq_none (by omega)]
theorem row_put {w : World} {g t n : Nat} {V : List Bool} {k : Nat} (h : w.rowIs g t n (bools V)) (hk : V.length = k) (r : Bool) (o : Obj) :
    ((w.setCell ⟨g, k, none⟩ (.bool r)).alloc o).rowIs g t n (bools (V ++ [r])) :=
  ((h.set k (.bool r)).alloc o).congr fun j _ => by rw [bools_snoc, hk]
theorem row_skip {w : World} {g t n : Nat} {V : List Bool} (h : w.rowIs g t n (bools V)) (o : Obj) :
    (w.alloc o).rowIs g t n (bools (V ++ [false])) :=
  (h.alloc o).congr fun j _ => by
    rw [bools_snoc]; split
    · rename_i e; unfold bools; rw [List.getD, List.getElem?_eq_none (by omega)]; rfl
    · rfl
theorem bools_at (V : List Bool) (a : Nat) : bools V a = .bool (getB V (a : Int)) := by simp [bools, getB]

theorem endL_take (f : List Nd) (k : Nat) (h : k < f.length) : endL (f.take (k + 1)) = endL (f.take k) ++ [stepE (endL (f.take k)) (nd f k)] := by
  rw [List.take_succ_eq_append_getElem h, endL_snoc]; simp [nd, List.getD, h]
theorem endL_take_len (f : List Nd) (k : Nat) (h : k ≤ f.length) : (endL (f.take k)).length = k := by rw [endL_len]; simp; omega
theorem okF_at {ks m} {f : List Nd} (h : okF ks m f) (k : Nat) (hk : k < f.length) : okNode ks m k (nd f k) := by
  have := h k hk
  simpa [nd, List.getD, hk] using this

set_option maxHeartbeats 1600000 in
theorem end_any (M : Int) (fv : Value) (f : List Nd) (w : World) (hf : RdN w w.heap.size fv f) (hok : okF futK M f) (hn0 : 0 < f.length) (hn : f.length ≤ 40) :
    Calls Tryz.prog 65 #[fv] w fun e w' => ∃ v', e = .returned v' ∧ RdB w' w'.heap.size v' (endL f) ∧ Below w.heap.size w w' := by
  obtain ⟨b, off, c, rfl, hlc, hb, hcell⟩ := hf.at_ hn0
  have hmk := fun w => run_make_row' (P := Tryz.prog) 57 4 (.bool false) 1 Tryz.underlying57 info_bool rfl .i64 .i64 f.length (by omega) (by omega) w
  have hokn := okF_at hok
  clear hok hf
  go_enter Tryz.func65, Tryz.ntmps65
  go_wp2
  go_loopw [11] (fun i wr => ∃ (k : Nat), k ≤ f.length ∧ i = .int .i64 k ∧ Below w.heap.size w wr ∧ w.heap.size < wr.heap.size ∧ wr.rowIs w.heap.size 4 f.length (bools (endL (f.take k)))) (fun i _ => f.length - (intOf i).toNat)
  case atStart =>
    exact ⟨0, by omega, rfl, (Below.refl _ _).alloc (Nat.le_refl _) _, by simp, (World.rowIs_made _ _ _ _).congr (fun j _ => by simp [bools, endL])⟩
  case round =>
    obtain ⟨k, hk, rfl, hB, hsz, hrow⟩ := hrel
    clear hmk
    by_cases hlt : k < f.length
    · have hc1 := (hcell k hlt)
      rw [← hB.cell (p := ⟨b, off + k*3, none⟩) hb, ← hB.cell (p := ⟨b, off + k*3+1, none⟩) hb, ← hB.cell (p := ⟨b, off + k*3+2, none⟩) hb] at hc1
      have hokk := hokn k hlt
      have hV := endL_take_len f k hk
      have hst := endL_take f k hlt
      clear hokn hcell
      have HT := Lib.hid hst
      clear hst
      generalize endL (f.take k) = V at *
      generalize hx : nd f k = x at *
      obtain ⟨kk, a, b'⟩ := x
      have hset := fun r o => row_put hrow hV r o
      have hskp := fun o => row_skip hrow o
      have HS := Lib.hid hset
      have HK := Lib.hid hskp
      have HV := Lib.hid hV
      have hfr := hrow.frozen k
      have hck := hrow.cell hlt
      have hat := fun (j : Nat) (hj : j < f.length) => hrow.cell hj
      have HX := Lib.hid hx
      unfold bools at hck
      generalize V.getD k false = vk at hck
      clear hset hskp hV hrow hx
      obtain ⟨c1, c2, c3⟩ := hc1
      dsimp only at c1 c2 c3
      obtain ⟨hkk, ho0, ho1, ho2⟩ := hokk
      dsimp only at hkk ho0 ho1 ho2
      have hcases : kk = 0 ∨ kk = 1 ∨ kk = 2 ∨ kk = 3 ∨ kk = 4 ∨ kk = 5 ∨ kk = 6 ∨ kk = 7 ∨ kk = 8 ∨ kk = 9 := by simp [futK] at hkk; omega
      clear hkk
      have hbel := fun (r : Bool) o => ((hB.setCell (p := ⟨w.heap.size, k, none⟩) (Nat.le_refl _) (.bool r)).alloc (by simp [World.setCell]; exact hB.size) o)
      have hbel2 := fun o => (hB.alloc hB.size o)
      have HB1 := Lib.hid hbel
      have HB2 := Lib.hid hbel2
      have HB := Lib.hid hB
      have HAT := Lib.hid hat
      have HO1 := Lib.hid ho1
      have HO2 := Lib.hid ho2
      clear hbel hbel2 hB hat ho0 ho1 ho2
      rcases hcases with rfl | rfl | rfl | rfl | rfl | rfl | rfl | rfl | rfl | rfl
      · go_wp2
        go_roundw
        case rel => exact ⟨k + 1, by omega, by go_num, HB1.out _ _, by simp; omega, by rw [HT.out]; exact HS.out _ _⟩
        case measure => simp [intOf]; omega
      · go_wp2
        go_roundw
        case rel => exact ⟨k + 1, by omega, by go_num, HB2.out _, by simp; omega, by rw [HT.out]; exact HK.out _⟩
        case measure => simp [intOf]; omega
      · go_wp2
        go_roundw
        case rel => exact ⟨k + 1, by omega, by go_num, HB2.out _, by simp; omega, by rw [HT.out]; exact HK.out _⟩
        case measure => simp [intOf]; omega
      · have ha := HO1.out rfl
        obtain ⟨a, rfl⟩ := Int.eq_ofNat_of_zero_le ha.1
        have ha1 : a < f.length := by omega
        have hca := HAT.out a ha1
        rw [bools_at] at hca
        obtain ⟨va, hva⟩ : ∃ va, getB V (a : Int) = va := ⟨_, rfl⟩
        rw [hva] at hca
        have HA := Lib.hid hva
        clear hva ha
        go_wp2
        go_roundw
        case rel => exact ⟨k + 1, by omega, by go_num, HB1.out _ _, by simp; omega, by rw [HT.out, show stepE V ⟨3, a, b'⟩ = !va by simp [stepE, HA.out]]; exact HS.out _ _⟩
        case measure => simp [intOf]; omega
      · have ha := HO2.out rfl
        obtain ⟨a, rfl⟩ := Int.eq_ofNat_of_zero_le ha.1
        obtain ⟨b', rfl⟩ := Int.eq_ofNat_of_zero_le ha.2.2.1
        have ha1 : a < f.length := by omega
        have hb1 : b' < f.length := by omega
        have hca := HAT.out a ha1
        have hcb := HAT.out b' hb1
        rw [bools_at] at hca hcb
        obtain ⟨va, hva⟩ : ∃ va, getB V (a : Int) = va := ⟨_, rfl⟩
        obtain ⟨vb, hvb⟩ : ∃ vb, getB V (b' : Int) = vb := ⟨_, rfl⟩
        rw [hva] at hca
        rw [hvb] at hcb
        have HA := Lib.hid hva
        have HVB := Lib.hid hvb
        clear hva ha hvb
        cases va
        all_goals
          go_wp2
          go_roundw
          case rel => exact ⟨k + 1, by omega, by go_num, HB1.out _ _, by simp; omega, by rw [HT.out]; have := HS.out (stepE V ⟨4, a, b'⟩); simp only [stepE, HA.out, HVB.out] at this ⊢; exact this _⟩
          case measure => simp [intOf]; omega
      · have ha := HO2.out rfl
        obtain ⟨a, rfl⟩ := Int.eq_ofNat_of_zero_le ha.1
        obtain ⟨b', rfl⟩ := Int.eq_ofNat_of_zero_le ha.2.2.1
        have ha1 : a < f.length := by omega
        have hb1 : b' < f.length := by omega
        have hca := HAT.out a ha1
        have hcb := HAT.out b' hb1
        rw [bools_at] at hca hcb
        obtain ⟨va, hva⟩ : ∃ va, getB V (a : Int) = va := ⟨_, rfl⟩
        obtain ⟨vb, hvb⟩ : ∃ vb, getB V (b' : Int) = vb := ⟨_, rfl⟩
        rw [hva] at hca
        rw [hvb] at hcb
        have HA := Lib.hid hva
        have HVB := Lib.hid hvb
        clear hva ha hvb
        cases va
        all_goals
          go_wp2
          go_roundw
          case rel => exact ⟨k + 1, by omega, by go_num, HB1.out _ _, by simp; omega, by rw [HT.out]; have := HS.out (stepE V ⟨5, a, b'⟩); simp only [stepE, HA.out, HVB.out] at this ⊢; exact this _⟩
          case measure => simp [intOf]; omega
      · go_wp2
        go_roundw
        case rel => exact ⟨k + 1, by omega, by go_num, HB2.out _, by simp; omega, by rw [HT.out]; exact HK.out _⟩
        case measure => simp [intOf]; omega
      · go_wp2
        go_roundw
        case rel => exact ⟨k + 1, by omega, by go_num, HB1.out _ _, by simp; omega, by rw [HT.out]; exact HS.out _ _⟩
        case measure => simp [intOf]; omega
      · go_wp2
        go_roundw
        case rel => exact ⟨k + 1, by omega, by go_num, HB2.out _, by simp; omega, by rw [HT.out]; exact HK.out _⟩
        case measure => simp [intOf]; omega
      · go_wp2
        go_roundw
        case rel => exact ⟨k + 1, by omega, by go_num, HB1.out _ _, by simp; omega, by rw [HT.out]; exact HS.out _ _⟩
        case measure => simp [intOf]; omega
    · have hkn : f.take k = f := List.take_of_length_le (by omega)
      rw [hkn] at hrow
      have HB := Lib.hid hB
      have HR := Lib.hid hrow
      clear hkn hB hrow
      go_wp2
      go_ret
      refine ⟨_, rfl, ?_, HB.out⟩
      have := Rd.of_rowIs HR.out hsz
      unfold RdB
      rw [endL_len]
      exact this
end Go.Proofs.YtccknopchddicaaGreatDoor
