/- contract: the closed fact. -/
import Derived.Test.YtccknopchddicaaGreatDoorMD8
set_option linter.unusedSimpArgs false
set_option linter.unusedVariables false
set_option linter.unnecessarySimpa false
namespace Go.Proofs.YtccknopchddicaaGreatDoor
open Go.RowKit Stile
theorem fact_next : (makeP 2 [⟨2, 2, 0⟩]).map (fun d => decide (1 < d.next.length)) = some true := by decide +kernel
theorem fact_chk : checkP 2 4 [⟨2, 2, 0⟩] = 0 := by decide +kernel
theorem fact_ok : okF futK 4 [⟨2, 2, 0⟩] := by
  intro i h
  have h0 : i = 0 := by simp at h; exact h
  subst h0
  simp [okNode, futK, leafK, oneK, twoK]
theorem DfT.shape {w : World} {dv : Value} {d : Da} (h : DfT w dv d) : ∃ nA nc fA fc, dv = .agg #[.int .i64 d.letters, .int .i64 d.start, .slice nA d.next.length nc, .slice fA d.final.length fc] := by
  obtain ⟨base, base2, L, rs, nv, fv, e, h1, h2, h3⟩ := h
  obtain ⟨nA, nc, rfl⟩ := own_shape h1.own
  obtain ⟨fA, fc, rfl⟩ := own_shape h3
  exact ⟨nA, nc, fA, fc, e⟩
set_option maxHeartbeats 800000 in
theorem fact_any (w : World) : Calls Tryz.prog 38 #[] w fun e w' => e = .returned (.bool true) ∧ Below w.heap.size w w' := by
  obtain ⟨d, hd, hlen⟩ : ∃ d, makeP 2 [⟨2, 2, 0⟩] = some d ∧ 1 < d.next.length := by
    have := fact_next
    rcases h : makeP 2 [⟨2, 2, 0⟩] with _ | d
    · rw [h] at this; cases this
    · rw [h] at this; exact ⟨d, rfl, by simpa using this⟩
  have hrd : RdN (w.alloc (Obj.cells #[.int .i64 2, .int .i64 2, .int .i64 0] 71)) (w.heap.size + 1) (.slice (some ⟨w.heap.size, 0, none⟩) 1 1) [⟨2, 2, 0⟩] := by
    refine ⟨_, 1, rfl, by simp, fun _ => ⟨w.heap.size, 0, rfl, by omega, fun j hj => ?_⟩⟩
    have hj3 : j < 3 := by simpa using hj
    match j, hj3 with
    | 0, _ => simp [nodes, nd]
    | 1, _ => simp [nodes, nd]
    | 2, _ => simp [nodes, nd]
  have H := make_any 2 4 (.slice (some ⟨w.heap.size, 0, none⟩) 1 1) [⟨2, 2, 0⟩] (w.alloc (Obj.cells #[.int .i64 2, .int .i64 2, .int .i64 0] 71)) (Rd.mono hrd (by simp)) (by decide) (by decide) (by decide +kernel) (by decide) fact_chk fact_ok (by simp) (by simp)
  rw [hd] at H
  have HH := Lib.hid H
  have HL := Lib.hid hlen
  clear H hd hrd hlen
  go_enter Tryz.func38, Tryz.ntmps38
  go_wp2_with fail
  refine HH.out.mono ?_
  rintro e w1 ⟨hb1, dv, rfl, hd1, _⟩
  obtain ⟨nA, nc, fA, fc, rfl⟩ := (hd1 d rfl).shape
  have hlt : decide (1 < (d.next.length : Int)) = true := by have := HL.out; simp; omega
  have HB1 := Lib.hid hb1
  clear hd1 hb1
  simp only [Option.isSome_some, ↓reduceIte]
  go_wp2_with fail
  go_ret
  refine ⟨rfl, ?_⟩
  have h0 : Below w.heap.size w (w.alloc (Obj.cells #[.int .i64 2, .int .i64 2, .int .i64 0] 71)) := (Below.refl _ _).alloc (Nat.le_refl _) _
  have h1 := h0.trans (HB1.out.mono h0.size)
  exact h1.alloc h1.size _
end Go.Proofs.YtccknopchddicaaGreatDoor
