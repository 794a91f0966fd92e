/- contract: strings.ReplaceAll of blanks where there is none. -/
import Derived.Test.YtccknopchddicaaGreatDoorMGj
set_option linter.unusedSimpArgs false
set_option linter.unusedVariables false
set_option linter.unnecessarySimpa false
namespace Go.Proofs.YtccknopchddicaaGreatDoor
open Go.RowKit Stile
set_option maxRecDepth 100000 in
theorem cnt_any (s : ByteArray) (h : s.data.toList.count 32 = 0) (w : World) : Calls Tryz.prog 95 #[.string s, .string ⟨#[32]⟩] w fun e w' => e = .returned (.int .i64 0) ∧ w = w' := by
  have hix : ∀ W, (Instr.index 9 (.string ⟨#[32]⟩) (.int .i64 0)).run Tryz.prog W = .ok (.int .u8 32) W := fun W => by kernel_rfl
  have hc : ∀ W, (Extern.BytealgCount.count #[.string s, .int .u8 32]).run Tryz.prog W = .ok (.int .i64 0) W := fun W => by
    rw [Lib.run_countString]
    have e : Lib.countByte s.data.toList (32 : Int).toNat.toUInt8 = 0 := h
    rw [e]; rfl
  have hl : (⟨#[32]⟩ : ByteArray).size = 1 := rfl
  go_enter Tryz.func95, Tryz.ntmps95
  go_wp2
  rw [run_callFunc_extern Tryz.func115 (by kernel_rfl) (by kernel_rfl) (by kernel_rfl) (e := Extern.BytealgCount.count) (by kernel_rfl)]
  rw [hc]
  simp only [Result.andThen]
  rw [Oper.upon_value]
  go_wp2
  go_ret
  exact ⟨rfl, rfl⟩
set_option maxRecDepth 100000 in
theorem repl_any (s : ByteArray) (h : s.data.toList.count 32 = 0) (w : World) : Calls Tryz.prog 70 #[.string s, .string ⟨#[32]⟩, .string ⟨#[]⟩, .int .i64 (-1)] w fun e w' => e = .returned (.string s) ∧ w = w' := by
  have hc := cnt_any s h
  have HC := Lib.hid hc
  clear hc h
  go_enter Tryz.func70, Tryz.ntmps70
  go_wp2_with fail
  refine (HC.out _).mono ?_
  rintro e w' ⟨rfl, rfl⟩
  go_wp2_with fail
  go_ret
  exact ⟨rfl, rfl⟩
set_option maxRecDepth 100000 in
theorem replAll_any (s : ByteArray) (h : s.data.toList.count 32 = 0) (w : World) : Calls Tryz.prog 52 #[.string s, .string ⟨#[32]⟩, .string ⟨#[]⟩] w fun e w' => e = .returned (.string s) ∧ w = w' := by
  have hc := repl_any s h
  have HC := Lib.hid hc
  clear hc h
  go_enter Tryz.func52, Tryz.ntmps52
  go_wp2_with fail
  refine (HC.out _).mono ?_
  rintro e w' ⟨rfl, rfl⟩
  go_wp2_with fail
  go_ret
  exact ⟨rfl, rfl⟩
theorem noBlank (u : W) (m : Int) (h : u.ok futK m) : u.txt.count 32 = 0 := by
  have hs : ∀ k : Int, 0 ≤ k → k ≤ 9 → (signB k == 32) = false := fun k h0 h9 => by
    have : k = 0 ∨ k = 1 ∨ k = 2 ∨ k = 3 ∨ k = 4 ∨ k = 5 ∨ k = 6 ∨ k = 7 ∨ k = 8 ∨ k = 9 := by omega
    rcases this with rfl | rfl | rfl | rfl | rfl | rfl | rfl | rfl | rfl | rfl <;> decide
  induction u with
  | n0 k s =>
    obtain ⟨h1, h2, _⟩ := h
    have hk := hs k (by simp [futK] at h1; omega) (by simp [futK] at h1; omega)
    unfold W.txt
    split
    · rw [List.count_cons, List.count_append]
      have : (setTxt s 6).count 32 = 0 := by
        rw [List.count_eq_zero]
        intro hm
        unfold setTxt at hm
        obtain ⟨a, ha, e⟩ := List.mem_map.1 hm
        have : a < 6 := by simpa using (List.mem_filter.1 ha).1
        have : a = 0 ∨ a = 1 ∨ a = 2 ∨ a = 3 ∨ a = 4 ∨ a = 5 := by omega
        rcases this with rfl | rfl | rfl | rfl | rfl | rfl <;> exact absurd e (by decide)
      rw [this]; rfl
    · rw [List.count_cons, hk]; rfl
  | n1 k x ih =>
    obtain ⟨h1, h2, h3⟩ := h
    have hk := hs k (by simp [futK] at h1; omega) (by simp [futK] at h1; omega)
    unfold W.txt
    rw [List.count_cons, hk, ih h3]; rfl
  | n2 k x y ih1 ih2 =>
    obtain ⟨h1, h2, h3, h4⟩ := h
    have hk := hs k (by simp [futK] at h1; omega) (by simp [futK] at h1; omega)
    unfold W.txt
    rw [List.count_cons, List.count_append, List.count_cons, List.count_append, hk, ih1 h3, ih2 h4]; rfl
end Go.Proofs.YtccknopchddicaaGreatDoor
