/- trees in memory, as they are read. -/
import Derived.Test.YtccknopchddicaaT1
import Derived.Test.YtccknopchddicaaD6
import Derived.Deep.AppendLies
import Derived.Deep.RegionLaw
import Derived.Deep.DeepCutAuto
namespace Go.Proofs.Ytccknopchddicaa
open Go.RowKit Stile
/-- the part v lies at place j of block g -/
def KidAt (w : World) (g j : Nat) (v : Value) : Prop :=
  ∃ c0 c1 c2 cur, v = .agg #[c0, c1, c2] ∧ w.heap[g]? = some (.cells cur 33 (0, 0)) ∧ cur[3 * j]? = some c0 ∧ cur[3 * j + 1]? = some c1 ∧ cur[3 * j + 2]? = some c2
/-- v reads as the tree; its blocks lie from lo on, below hi -/
def Td (w : World) (lo hi : Nat) : W → Value → Prop
  | .n0 k s, v => v = .agg #[.int .i64 k, .int .i64 s, .slice none 0 0]
  | .n1 k x, v => ∃ g c a, v = .agg #[.int .i64 k, .int .i64 0, .slice (some ⟨g, 0, none⟩) 1 c] ∧ 1 ≤ c ∧ lo ≤ g ∧ g < hi ∧ KidAt w g 0 a ∧ Td w lo hi x a
  | .n2 k x y, v => ∃ g c a b, v = .agg #[.int .i64 k, .int .i64 0, .slice (some ⟨g, 0, none⟩) 2 c] ∧ 2 ≤ c ∧ lo ≤ g ∧ g < hi ∧ KidAt w g 0 a ∧ KidAt w g 1 b ∧ Td w lo hi x a ∧ Td w lo hi y b
theorem KidAt.keep {w w' : World} {g j : Nat} {v : Value} (h : KidAt w g j v) (hg : w'.heap[g]? = w.heap[g]?) : KidAt w' g j v := by
  obtain ⟨c0, c1, c2, cur, e, h1, h2⟩ := h
  exact ⟨c0, c1, c2, cur, e, hg.trans h1, h2⟩
/-- a step that keeps each block of nodes -/
theorem Td.keep {w w' : World} {lo hi : Nat} (hk : ∀ g, lo ≤ g → g < hi → ∀ cur, w.heap[g]? = some (.cells cur 33 (0, 0)) → w'.heap[g]? = w.heap[g]?) : ∀ (t : W) (v : Value), Td w lo hi t v → Td w' lo hi t v := by
  intro t
  induction t with
  | n0 k s => intro v h; exact h
  | n1 k x ih =>
    rintro v ⟨g, c, a, e, h1, h2, h3, h4, h5⟩
    obtain ⟨_, _, _, cur, _, hb, _⟩ := id h4
    exact ⟨g, c, a, e, h1, h2, h3, h4.keep (hk g h2 h3 cur hb), ih a h5⟩
  | n2 k x y ih1 ih2 =>
    rintro v ⟨g, c, a, b, e, h1, h2, h3, h4, h5, h6, h7⟩
    obtain ⟨_, _, _, cur, _, hb, _⟩ := id h4
    exact ⟨g, c, a, b, e, h1, h2, h3, h4.keep (hk g h2 h3 cur hb), h5.keep (hk g h2 h3 cur hb), ih1 a h6, ih2 b h7⟩
theorem Td.below {w w' : World} {lo hi : Nat} {t : W} {v : Value} (h : Td w lo hi t v) (hb : Below hi w w') : Td w' lo hi t v :=
  Td.keep (fun g _ h2 _ _ => hb.block g h2) t v h
theorem Td.grew {w w' : World} {lo hi g E : Nat} {t : W} {v : Value} {cs : Array Value} {T : Nat} (h : Td w lo hi t v) (hg : Grew g E w w') (hE : E ≠ 33) (hb : w.heap[g]? = some (.cells cs T (0, 0))) (hT : T ≠ 33) : Td w' lo hi t v :=
  Td.keep (fun b _ _ cur hc => hg.other b _ _ hc (fun e => hE e.symm) (fun e => by subst e; exact blk_type hb hc hT rfl)) t v h
theorem Td.mono {w : World} {lo hi lo' hi' : Nat} (h1 : lo' ≤ lo) (h2 : hi ≤ hi') : ∀ (t : W) (v : Value), Td w lo hi t v → Td w lo' hi' t v := by
  intro t
  induction t with
  | n0 k s => intro v h; exact h
  | n1 k x ih =>
    rintro v ⟨g, c, a, e, q1, q2, q3, q4, q5⟩
    exact ⟨g, c, a, e, q1, by omega, by omega, q4, ih a q5⟩
  | n2 k x y ih1 ih2 =>
    rintro v ⟨g, c, a, b, e, q1, q2, q3, q4, q5, q6, q7⟩
    exact ⟨g, c, a, b, e, q1, by omega, by omega, q4, q5, ih1 a q6, ih2 b q7⟩
theorem Td.shape {w : World} {lo hi : Nat} {t : W} {v : Value} (h : Td w lo hi t v) : ∃ k s A n c, v = .agg #[.int .i64 k, .int .i64 s, .slice A n c] := by
  cases t with
  | n0 k s => exact ⟨_, _, _, _, _, h⟩
  | n1 k x => obtain ⟨g, c, a, e, _⟩ := h; exact ⟨_, _, _, _, _, e⟩
  | n2 k x y => obtain ⟨g, c, a, b, e, _⟩ := h; exact ⟨_, _, _, _, _, e⟩
theorem KidAt.cells {w : World} {g j : Nat} {k s : Int} {A : Option Addr} {n c : Nat} (h : KidAt w g j (.agg #[.int .i64 k, .int .i64 s, .slice A n c])) :
    w.cell? ⟨g, 3 * j, none⟩ = some (.int .i64 k) ∧ w.cell? ⟨g, 3 * j + 1, none⟩ = some (.int .i64 s) ∧ w.cell? ⟨g, 3 * j + 2, none⟩ = some (.slice A n c) ∧ g < w.heap.size := by
  obtain ⟨c0, c1, c2, cur, e, h1, h2, h3, h4⟩ := h
  injection e with e
  have e0 := congrArg (fun a : Array Value => a[0]?) e
  have e1 := congrArg (fun a : Array Value => a[1]?) e
  have e2 := congrArg (fun a : Array Value => a[2]?) e
  simp at e0 e1 e2
  subst e0; subst e1; subst e2
  exact ⟨by rw [fld_cell h1]; exact h2, by rw [fld_cell h1]; exact h3, by rw [fld_cell h1]; exact h4, lt_blk h1⟩

/-! ### nodes as cells -/
def ndCells : List Nd → List Value
  | [] => []
  | m :: l => .int .i64 m.k :: .int .i64 m.a :: .int .i64 m.b :: ndCells l
theorem ndCells_append : ∀ a b : List Nd, ndCells (a ++ b) = ndCells a ++ ndCells b
  | [], b => rfl
  | x :: a, b => by simp [ndCells, ndCells_append a b]
theorem ndCells_at : ∀ (l : List Nd) (j : Nat), j < l.length * 3 → (ndCells l)[j]? = some (nodes l j)
  | [], j, h => by simp at h
  | x :: l, j, h => by
    match j with
    | 0 => simp [ndCells, nodes, nd]
    | 1 => simp [ndCells, nodes, nd]
    | 2 => simp [ndCells, nodes, nd]
    | j + 3 =>
      have := ndCells_at l j (by simp at h; omega)
      simp only [ndCells, List.getElem?_cons_succ, this]
      unfold nodes nd
      have e1 : (j + 3) % 3 = j % 3 := by omega
      have e2 : (j + 3) / 3 = j / 3 + 1 := by omega
      rw [e1, e2]; simp [List.getD]
theorem info_nd : (Try.prog.info? 49).map (fun i => (i.zero, i.size, i.bytes)) = some (some (.agg #[.int .i64 0, .int .i64 0, .int .i64 0]), 3, 24) := by kernel_rfl

/-- the list that is being put together lies in a variable of block po -/
structure OutAt (w : World) (po : Nat) (sv : Value) (f : List Nd) : Prop where
  blk : w.heap[po]? = some (Obj.cells #[sv] 22)
  own : w.ownsRow po 49 3 sv f.length (ndCells f)
theorem OutAt.made {w w' : World} {po : Nat} {sv : Value} {f : List Nd} (h : OutAt w po sv f) (hb : Below w.heap.size w w') : OutAt w' po sv f := by
  refine ⟨(hb.block _ (lt_blk h.blk)).trans h.blk, ?_⟩
  obtain ⟨a1, a2⟩ := h.own
  refine ⟨a1, ?_⟩
  rcases a2 with a2 | ⟨g, cap, cur, e, hbs, hh, r⟩
  · exact .inl a2
  · exact .inr ⟨g, cap, cur, e, hbs, (hb.block _ (lt_blk hh)).trans hh, r⟩
theorem Grew.trans {g E : Nat} {w w1 w2 : World} (h : Grew g E w w1) (h2 : Grew g E w1 w2) : Grew g E w w2 :=
  ⟨h.below.trans h2.below, fun b t cs hb ht hne => (h2.other b t cs ((h.other b t cs hb ht hne).trans hb) ht hne).trans (h.other b t cs hb ht hne)⟩
theorem Grew.made {g E : Nat} {w w' : World} (hb : Below w.heap.size w w') (hg : g ≤ w.heap.size) : Grew g E w w' :=
  ⟨hb.mono hg, fun b t cs h _ _ => hb.block b (lt_blk h)⟩
end Go.Proofs.Ytccknopchddicaa
