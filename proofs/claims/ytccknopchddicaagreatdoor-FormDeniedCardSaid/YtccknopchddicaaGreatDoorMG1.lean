/- an automaton that Make has made, as a loop reads it. -/
import Derived.Test.YtccknopchddicaaGreatDoorMF1
import Derived.Test.YtccknopchddicaaGreatDoorMGm
import Derived.Test.YtccknopchddicaaGreatDoorMM1
set_option linter.unusedSimpArgs false
set_option linter.unusedVariables false
set_option linter.unnecessarySimpa false
namespace Go.Proofs.YtccknopchddicaaGreatDoor
open Go.RowKit Stile
def TrueBelow (w : World) (e : Ending) (w' : World) : Prop := e = .returned (.bool true) ∧ Below w.heap.size w w'
/-- the lists of an automaton: what lies where -/
def DaRd (W : World) (nb no fb fo L : Nat) (d : Da) : Prop :=
  nb < W.heap.size ∧ fb < W.heap.size ∧ ∀ s, s < d.next.length → W.cell? ⟨fb, fo + s, none⟩ = some (.bool (d.final.getD s false)) ∧
    ∃ rb ro rc, W.cell? ⟨nb, no + s, none⟩ = some (.slice (some ⟨rb, ro, none⟩) L rc) ∧ L ≤ rc ∧ rb < W.heap.size ∧ ∀ a, a < L → W.cell? ⟨rb, ro + a, none⟩ = some (.int .i64 ((d.next.getD s []).getD a 0))
theorem DaRd.made {W W' : World} {nb no fb fo L : Nat} {d : Da} (h : DaRd W nb no fb fo L d) (hb : Below W.heap.size W W') : DaRd W' nb no fb fo L d := by
  obtain ⟨h1, h2, h3⟩ := h
  refine ⟨Nat.lt_of_lt_of_le h1 hb.size, Nat.lt_of_lt_of_le h2 hb.size, fun s hs => ?_⟩
  obtain ⟨a1, rb, ro, rc, a2, a3, a4, a5⟩ := h3 s hs
  exact ⟨(hb.cell (p := ⟨fb, fo + s, none⟩) h2).trans a1, rb, ro, rc, (hb.cell (p := ⟨nb, no + s, none⟩) h1).trans a2, a3, Nat.lt_of_lt_of_le a4 hb.size, fun a ha => (hb.cell (p := ⟨rb, ro + a, none⟩) a4).trans (a5 a ha)⟩
theorem da_rd {W : World} {dv : Value} {d : Da} {L : Nat} {f : List Nd} (h : DfT W dv d) (hm : MakeOk L f d) (hL : 0 < L) : ∃ nb no nc fb fo fc, dv = .agg #[.int .i64 d.letters, .int .i64 0, .slice (some ⟨nb, no, none⟩) d.next.length nc, .slice (some ⟨fb, fo, none⟩) d.next.length fc] ∧
    d.next.length ≤ nc ∧ d.next.length ≤ fc ∧ DaRd W nb no fb fo L d := by
  obtain ⟨nv, fv, rfl, ⟨rv, h1, h2⟩, h3⟩ := h.dfv
  obtain ⟨nb, no, nc, rfl, h4, h5, h6⟩ := Rd.at1 h1 hm.pos
  obtain ⟨fb, fo, fc, rfl, h7, h8, h9⟩ := Rd.at1 h3 (by rw [hm.lenF]; exact hm.pos)
  rw [hm.lenF] at h7 h9 ⊢
  rw [hm.start]
  refine ⟨nb, no, nc, fb, fo, fc, rfl, h4, h7, h5, h8, fun s hs => ⟨h9 s hs, ?_⟩⟩
  have hrow : (d.next.getD s []).length = L := by
    rw [List.getD, List.getElem?_eq_getElem hs]; exact hm.rowlen _ (List.getElem_mem hs)
  obtain ⟨rb, ro, rc, e1, e2, e3, e4⟩ := Rd.at1 (h2 s hs) (by rw [hrow]; exact hL)
  rw [hrow] at e1 e2 e4
  exact ⟨rb, ro, rc, by rw [← e1]; exact h6 s hs, e2, e3, e4⟩
/-- where a word leads -/
theorem goes_at {L : Nat} {f : List Nd} {d : Da} (hm : MakeOk L f d) {u : List Int} (hu : Wrd L u) : ∃ S : Nat, goes d.next 0 u = (S : Int) ∧ S < d.next.length ∧ d.final.getD S false = holds f u ∧ ∀ a : Nat, (d.next.getD S []).getD a 0 = goes d.next 0 (u ++ [(a : Int)]) := by
  obtain ⟨h1, h2, h3⟩ := hm.acc u hu
  refine ⟨(goes d.next 0 u).toNat, by omega, by omega, h3, fun a => ?_⟩
  rw [goes_snoc, go1]
  simp
end Go.Proofs.YtccknopchddicaaGreatDoor
