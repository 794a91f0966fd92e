/- words: automata in memory. -/
import Derived.Test.YtccknopchddicaaDoorB7
import Derived.Test.YtccknopchddicaaDoorC4
namespace Go.Proofs.YtccknopchddicaaDoor
open Go.RowKit Stile

/-- a slice of rows -/
def RdRows (w : World) (B : Nat) (v : Value) (next : List (List Int)) : Prop :=
  ∃ rv : Nat → Value, Rd w B 1 v next.length rv ∧ ∀ j, j < next.length → RdI w B (rv j) (next.getD j [])
theorem RdRows.below {w w' : World} {B : Nat} {v : Value} {next : List (List Int)} (h : RdRows w B v next) (hb : Below B w w') : RdRows w' B v next := by
  obtain ⟨rv, h1, h2⟩ := h
  exact ⟨rv, h1.below hb, fun j hj => Rd.below (h2 j hj) hb⟩
theorem RdRows.mono {w : World} {B B' : Nat} {v : Value} {next : List (List Int)} (h : RdRows w B v next) (hb : B ≤ B') : RdRows w B' v next := by
  obtain ⟨rv, h1, h2⟩ := h
  exact ⟨rv, h1.mono hb, fun j hj => Rd.mono (h2 j hj) hb⟩

/-- an automaton as a value -/
def DfV (w : World) (B : Nat) (dv : Value) (d : Da) : Prop :=
  ∃ nv fv, dv = .agg #[.int .i64 d.letters, .int .i64 d.start, nv, fv] ∧ RdRows w B nv d.next ∧ RdB w B fv d.final
theorem DfV.below {w w' : World} {B : Nat} {v : Value} {d : Da} (h : DfV w B v d) (hb : Below B w w') : DfV w' B v d := by
  obtain ⟨nv, fv, e, h1, h2⟩ := h
  exact ⟨nv, fv, e, h1.below hb, Rd.below h2 hb⟩
theorem DfV.mono {w : World} {B B' : Nat} {v : Value} {d : Da} (h : DfV w B v d) (hb : B ≤ B') : DfV w B' v d := by
  obtain ⟨nv, fv, e, h1, h2⟩ := h
  exact ⟨nv, fv, e, h1.mono hb, Rd.mono h2 hb⟩

structure DaOk (d : Da) : Prop where
  let1 : 1 ≤ d.letters
  let6 : d.letters ≤ 6
  lenF : d.final.length = d.next.length
  pos : 0 < d.next.length
  le : d.next.length ≤ 40
  st0 : 0 ≤ d.start
  st1 : d.start < d.next.length
  rowlen : ∀ row ∈ d.next, (row.length : Int) = d.letters
  rowin : ∀ row ∈ d.next, ∀ s ∈ row, 0 ≤ s ∧ s < d.next.length

def mvs (l : List Mv) (j : Nat) : Value := .int .i64 (if j % 3 = 0 then (l.getD (j / 3) default).f else if j % 3 = 1 then (l.getD (j / 3) default).l else (l.getD (j / 3) default).t)
def RdM (w : World) (B : Nat) (v : Value) (l : List Mv) : Prop := Rd w B 3 v l.length (mvs l)
theorem mvs_at (f : List Mv) (k : Nat) : mvs f (k * 3) = .int .i64 (f.getD k default).f ∧ mvs f (k * 3 + 1) = .int .i64 (f.getD k default).l ∧ mvs f (k * 3 + 2) = .int .i64 (f.getD k default).t := by
  unfold mvs
  refine ⟨?_, ?_, ?_⟩
  · rw [if_pos (by omega), show k * 3 / 3 = k from by omega]
  · rw [if_neg (by omega), if_pos (by omega), show (k * 3 + 1) / 3 = k from by omega]
  · rw [if_neg (by omega), if_neg (by omega), show (k * 3 + 2) / 3 = k from by omega]
theorem RdM.at_ {w : World} {B : Nat} {v : Value} {f : List Mv} (h : RdM w B v f) (hn : 0 < f.length) : ∃ b off c, v = .slice (some ⟨b, off, none⟩) f.length c ∧ f.length ≤ c ∧ b < B ∧ ∀ k, k < f.length →
    w.cell? ⟨b, off + k * 3, none⟩ = some (.int .i64 (f.getD k default).f) ∧ w.cell? ⟨b, off + k * 3 + 1, none⟩ = some (.int .i64 (f.getD k default).l) ∧ w.cell? ⟨b, off + k * 3 + 2, none⟩ = some (.int .i64 (f.getD k default).t) := by
  obtain ⟨b, off, c, h1, h2, h3, h4⟩ := Rd.at3 h hn
  refine ⟨b, off, c, h1, h2, h3, fun k hk => ?_⟩
  obtain ⟨a1, a2, a3⟩ := mvs_at f k
  rw [← a1, ← a2, ← a3]
  exact h4 k hk

/-- an automaton that may be in many states, as a value -/
def NfV (w : World) (B : Nat) (nv : Value) (n : Na) : Prop :=
  ∃ sv mv fv, nv = .agg #[.int .i64 n.letters, .int .i64 n.states, sv, mv, fv] ∧ RdI w B sv n.starts ∧ RdM w B mv n.moves ∧ RdI w B fv n.final
theorem NfV.below {w w' : World} {B : Nat} {v : Value} {d : Na} (h : NfV w B v d) (hb : Below B w w') : NfV w' B v d := by
  obtain ⟨a, b, c, e, h1, h2, h3⟩ := h
  exact ⟨a, b, c, e, Rd.below h1 hb, Rd.below h2 hb, Rd.below h3 hb⟩
theorem NfV.mono {w : World} {B B' : Nat} {v : Value} {d : Na} (h : NfV w B v d) (hb : B ≤ B') : NfV w B' v d := by
  obtain ⟨a, b, c, e, h1, h2, h3⟩ := h
  exact ⟨a, b, c, e, Rd.mono h1 hb, Rd.mono h2 hb, Rd.mono h3 hb⟩

structure NaOk (n : Na) : Prop where
  let1 : 1 ≤ n.letters
  let6 : n.letters ≤ 6
  st1 : 1 ≤ n.states
  st40 : n.states ≤ 40
  starts : n.starts.length ≤ 40
  final : n.final.length ≤ 40
  moves : n.moves.length ≤ 240
  startin : ∀ s ∈ n.starts, 0 ≤ s ∧ s < n.states
  finin : ∀ s ∈ n.final, 0 ≤ s ∧ s < n.states
  movin : ∀ m ∈ n.moves, 0 ≤ m.f ∧ m.f < n.states ∧ 0 ≤ m.t ∧ m.t < n.states ∧ 0 ≤ m.l ∧ m.l < n.letters

/-- what Explore hands back, read -/
theorem Book.rdw {w : World} {base Bb mb : Nat} {v : Value} {ks : List Nat} (h : Book w base Bb mb v ks) : RdW w w.heap.size v ks := by
  refine Rd.of_own h.row ?_
  intro j hj
  simp at hj
  simp [words, hj, List.getD]
theorem Nxt.rows_ {w : World} {base : Nat} {nv : Value} {L : Nat} {next : List (List Int)} {rs : List Nat} (h : Nxt w base nv L next rs) (hl : ∀ row ∈ next, row.length = L) : RdRows w w.heap.size nv next := by
  refine ⟨fun j => .slice (some ⟨rs.getD j 0, 0, none⟩) L L, Rd.of_own h.own ?_, fun j hj => ?_⟩
  · intro j hj
    have hj' : j < rs.length := by have := h.len; omega
    simp [List.getD, hj']
  · have hr := h.rows j hj
    have hlen : (next.getD j []).length = L := by
      rw [List.getD, List.getElem?_eq_getElem hj]; exact hl _ (List.getElem_mem hj)
    unfold RdI
    rw [hlen]
    exact Rd.of_rowIs hr hr.lt
end Go.Proofs.YtccknopchddicaaDoor
