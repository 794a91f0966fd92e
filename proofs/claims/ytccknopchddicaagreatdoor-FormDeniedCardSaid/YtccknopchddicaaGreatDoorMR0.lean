/- an argument that came in, as a list. -/
import Derived.Test.YtccknopchddicaaGreatDoorMW0
import Derived.ProofKit
import Derived.OpenShut
import Derived.ShutString
import Derived.ChangeOld
import Derived.Below
import Derived.Deep.Slices
set_option linter.unusedSimpArgs false
set_option linter.unusedVariables false
set_option linter.unnecessarySimpa false
namespace Go.Proofs.YtccknopchddicaaGreatDoor
open Go.ChangeShapes Go.WideShapes Go.ChangeAt Go.RowKit Stile
theorem cells_nd : Tryz.prog.cellsOf 71 = 3 := by kernel_rfl
theorem cells_int : Tryz.prog.cellsOf 3 = 1 := by kernel_rfl
def cellInt (w : World) (a : Addr) : Int := match w.cell? a with | some (.int _ n) => n | _ => 0
theorem wf_i64 {n : Int} (h : (Lit.int .i64 n).wf = true) : -9223372036854775808 ≤ n ∧ n ≤ 9223372036854775807 := by
  simp [Lit.wf, IntKind.min, IntKind.max, IntKind.signed, IntKind.bits] at h
  omega
theorem lt_of_some {w : World} {p : Addr} {v : Value} (h : w.cell? p = some v) : p.block < w.heap.size := by
  rcases Nat.lt_or_ge p.block w.heap.size with h' | h'
  · exact h'
  · simp [World.cell?, Array.getElem?_eq_none h'] at h
section
variable {H : Type} {enc : TypeId × Value → H} {W : World} {base : Nat}
theorem open_ints_in {A : Option Addr} {n c : Nat} {d : DataW H} {ps : List MemPlace} (h : DataW.Trod enc Tryz.prog W 0 (fun _ => true) true 23 (.slice A n c) d ps) (hlt : ∀ x ∈ ps, x.block < W.heap.size) : ∃ l : List Int, RdI W W.heap.size (.slice A n c) l := by
  obtain ⟨fuel, hf⟩ := h
  rcases open_ints Tryz.underlying23 Tryz.underlying3 cells_int hf with ⟨hcs, _⟩ | ⟨x, l, c', zs, hcs, _, hl, hm, hz, hx, hcell, hwz⟩
  · simp [Value.cells] at hcs
    obtain ⟨rfl, rfl, rfl⟩ := hcs
    exact ⟨[], Rd.nil⟩
  · simp [Value.cells] at hcs
    obtain ⟨rfl, rfl, rfl⟩ := hcs
    have hz : zs.length = c := by simpa using hz
    refine ⟨zs.take n, ?_⟩
    have hlen : (zs.take n).length = n := by simp; omega
    refine ⟨_, c, by rw [hlen], by rw [hlen]; exact hl, fun hn => ?_⟩
    rw [hlen] at hn ⊢
    have hc0 := hcell 0 (by omega)
    obtain ⟨b, off, spot⟩ := x
    obtain rfl : spot = none := by simpa [Addr.add] using World.cell?_spot hc0
    refine ⟨b, off, rfl, ?_, fun j hj => ?_⟩
    · have := lt_of_some hc0
      simpa [Addr.add] using this
    · have := hcell j (by omega)
      have e : (⟨b, off, none⟩ : Addr).add j = ⟨b, off + j, none⟩ := by
        unfold Addr.add; by_cases h0 : j = 0 <;> simp [h0]
      rw [e] at this
      rw [this, ints]
      simp [List.getD, List.getElem?_take, show j < n by omega]
theorem open_nodes_in {A : Option Addr} {n c : Nat} {d : DataW H} {ps : List MemPlace} (h : DataW.Trod enc Tryz.prog W 0 (fun _ => true) true 22 (.slice A n c) d ps) : ∃ f : List Nd, RdN W W.heap.size (.slice A n c) f := by
  obtain ⟨fuel, hf⟩ := h
  rcases Go.Deep.open_slice Tryz.underlying22 hf with ⟨hcs, _⟩ | ⟨a, len, cap, m, k, D, Pl, hcs, _, hl, hm, hmm, _, hi⟩
  · simp [Value.cells] at hcs
    obtain ⟨rfl, rfl, rfl⟩ := hcs
    exact ⟨[], Rd.nil⟩
  · simp [Value.cells] at hcs
    obtain ⟨rfl, rfl, rfl⟩ := hcs
    have hmm : m = c := by simpa using hmm
    subst hmm
    have each : ∀ i, i < m → ∀ j, j < 3 → ∃ x : Int, W.cell? ((a.add (i * 3)).add j) = some (.int .i64 x) := fun i him j hj => by
      obtain ⟨cs', hc, ht⟩ := hi i him
      rw [cells_nd] at hc
      obtain ⟨ys, n', _, _, hlen, hyl, hfl⟩ := DataW.trod_struct Tryz.underlying71 ht
      obtain ⟨_, hcl, hat⟩ := World.cells?_some hc
      have hyl3 : ys.length = 3 := hyl
      have h1 : DataW.trod enc Tryz.prog W 0 (fun _ => true) true n' 3 ((cs'.drop j).take 1) = ys[j]? := by
        match j, hj with
        | 0, _ => simpa [cells_int] using hfl 0 _ rfl
        | 1, _ => simpa [cells_int] using hfl 1 _ rfl
        | 2, _ => simpa [cells_int] using hfl 2 _ rfl
      have hys : ys[j]? = some (ys[j]'(by omega)) := List.getElem?_eq_getElem _
      rw [hys] at h1
      obtain ⟨x, hx, _⟩ := DataW.trod_int Tryz.underlying3 h1
      refine ⟨x, ?_⟩
      rw [hat j hj]
      have : (cs'.drop j).take 1 = [cs'[j]'(by omega)] := by
        rw [List.drop_eq_getElem_cons (by omega)]; rfl
      rw [this] at hx
      rw [List.getElem?_eq_getElem (by omega)]
      simpa using hx
    rcases Nat.eq_zero_or_pos n with rfl | hn
    · exact ⟨[], _, m, rfl, by simp, fun h => absurd h (by simp)⟩
    · obtain ⟨b, off, spot⟩ := a
      have e0 : ∀ o k, ((⟨b, o, none⟩ : Addr)).add k = ⟨b, o + k, none⟩ := fun o k => by
        unfold Addr.add; by_cases h0 : k = 0 <;> simp [h0]
      obtain ⟨x0, hx0⟩ := each 0 (by omega) 0 (by omega)
      obtain rfl : spot = none := by simpa [Addr.add] using World.cell?_spot hx0
      have each' : ∀ q, q < n * 3 → ∃ x : Int, W.cell? ⟨b, off + q, none⟩ = some (.int .i64 x) := fun q hq => by
        obtain ⟨x, hx⟩ := each (q / 3) (by omega) (q % 3) (by omega)
        rw [e0, e0] at hx
        have : off + q / 3 * 3 + q % 3 = off + q := by omega
        rw [this] at hx
        exact ⟨x, hx⟩
      refine ⟨(List.range n).map fun i => ⟨cellInt W ⟨b, off + i * 3, none⟩, cellInt W ⟨b, off + (i * 3 + 1), none⟩, cellInt W ⟨b, off + (i * 3 + 2), none⟩⟩, _, m, by simp, by simpa using hl, fun _ => ⟨b, off, rfl, ?_, fun q hq => ?_⟩⟩
      · obtain ⟨x, hx⟩ := each' 0 (by omega)
        exact lt_of_some hx
      · have hq : q < n * 3 := by simpa using hq
        obtain ⟨x, hx⟩ := each' q hq
        rw [hx]
        have hnd : nd ((List.range n).map fun i => (⟨cellInt W ⟨b, off + i * 3, none⟩, cellInt W ⟨b, off + (i * 3 + 1), none⟩, cellInt W ⟨b, off + (i * 3 + 2), none⟩⟩ : Nd)) (q / 3) = ⟨cellInt W ⟨b, off + q / 3 * 3, none⟩, cellInt W ⟨b, off + (q / 3 * 3 + 1), none⟩, cellInt W ⟨b, off + (q / 3 * 3 + 2), none⟩⟩ := by
          simp [nd, List.getD, show q / 3 < n by omega]
        unfold nodes
        rw [hnd]
        have hx' : cellInt W ⟨b, off + q, none⟩ = x := by simp [cellInt, hx]
        have h3 : q % 3 = 0 ∨ q % 3 = 1 ∨ q % 3 = 2 := by omega
        rcases h3 with h3 | h3 | h3
        · rw [if_pos h3, show q / 3 * 3 = q by omega]; dsimp only; rw [hx']
        · rw [if_neg (by omega), if_pos h3, show q / 3 * 3 + 1 = q by omega]; dsimp only; rw [hx']
        · rw [if_neg (by omega), if_neg (by omega), show q / 3 * 3 + 2 = q by omega]; dsimp only; rw [hx']
end
end Go.Proofs.YtccknopchddicaaGreatDoor
