/- plain: formulas as trees and as lists; what they mean. -/

set_option linter.unusedSimpArgs false
set_option linter.unusedVariables false
set_option linter.unnecessarySimpa false
namespace Stile

structure Nd where
  k : Int
  a : Int
  b : Int
  deriving DecidableEq, Repr, Inhabited

/-- a node with its parts -/
inductive W where
  | n0 (k s : Int)
  | n1 (k : Int) (x : W)
  | n2 (k : Int) (x y : W)
  deriving DecidableEq, Repr, Inhabited

/-- bit a of a set (both at least 0 where it matters) -/
def bit (s a : Int) : Bool := s.toNat.testBit a.toNat

def isV (s : Int) : List Int → Bool
  | [] => false
  | a :: _ => bit s a
def nextV (e : Bool) (f : List Int → Bool) : List Int → Bool
  | [] => e
  | _ :: w => f w
def untilV (f g : List Int → Bool) : List Int → Bool
  | [] => false
  | a :: w => g (a :: w) || (f (a :: w) && untilV f g w)
def releaseV (f g : List Int → Bool) : List Int → Bool
  | [] => true
  | a :: w => g (a :: w) && (f (a :: w) || releaseV f g w)

def v0 (k s : Int) : List Int → Bool :=
  if k = 0 then fun _ => true else if k = 2 then isV s else fun _ => false
def v1 (k : Int) (f : List Int → Bool) : List Int → Bool :=
  if k = 3 then fun w => !f w else if k = 6 ∨ k = 10 then nextV false f else if k = 7 then nextV true f else fun _ => false
def v2 (k : Int) (f g : List Int → Bool) : List Int → Bool :=
  if k = 4 then fun w => f w && g w else if k = 5 then fun w => f w || g w
  else if k = 8 ∨ k = 11 then untilV f g else if k = 9 then releaseV f g else fun _ => false

def W.sem : W → List Int → Bool
  | .n0 k s => v0 k s
  | .n1 k x => v1 k x.sem
  | .n2 k x y => v2 k x.sem y.sem

/-! ### values, node by node -/
def getB (v : List Bool) (i : Int) : Bool := v.getD i.toNat false

def stepE (v : List Bool) (x : Nd) : Bool :=
  if x.k = 0 ∨ x.k = 7 ∨ x.k = 9 then true
  else if x.k = 3 then !getB v x.a
  else if x.k = 4 then getB v x.a && getB v x.b
  else if x.k = 5 then getB v x.a || getB v x.b
  else false

def stepA (a : Int) (t v : List Bool) (x : Nd) : Bool :=
  if x.k = 0 then true
  else if x.k = 2 then bit x.a a
  else if x.k = 3 then !getB v x.a
  else if x.k = 4 then getB v x.a && getB v x.b
  else if x.k = 5 then getB v x.a || getB v x.b
  else if x.k = 6 ∨ x.k = 7 ∨ x.k = 10 then getB t x.a
  else if x.k = 8 ∨ x.k = 11 then getB v x.b || (getB v x.a && t.getD v.length false)
  else if x.k = 9 then getB v x.b && (getB v x.a || t.getD v.length false)
  else false

def endL (f : List Nd) : List Bool := f.foldl (fun v x => v ++ [stepE v x]) []
def aheadL (f : List Nd) (t : List Bool) (a : Int) : List Bool := f.foldl (fun v x => v ++ [stepA a t v x]) []
/-- the values of all nodes; the outermost letter first -/
def valsL (f : List Nd) (w : List Int) : List Bool := w.foldr (fun a t => aheadL f t a) (endL f)
def lastB (v : List Bool) : Bool := v.getD (v.length - 1) false
def holds (f : List Nd) (w : List Int) : Bool := lastB (valsL f w)

/-! ### trees of all nodes -/
def leafK (k : Int) : Bool := k == 0 || k == 1 || k == 2
def oneK (k : Int) : Bool := k == 3 || k == 6 || k == 7 || k == 10
def twoK (k : Int) : Bool := k == 4 || k == 5 || k == 8 || k == 9 || k == 11
def getW (ts : List W) (i : Int) : W := ts.getD i.toNat default
def mkW (ts : List W) (x : Nd) : W :=
  if leafK x.k then .n0 x.k (if x.k = 2 then x.a else 0)
  else if oneK x.k then .n1 x.k (getW ts x.a)
  else .n2 x.k (getW ts x.a) (getW ts x.b)
def treesL (f : List Nd) : List W := f.foldl (fun ts x => ts ++ [mkW ts x]) []
def tree (f : List Nd) : W := getW (treesL f) ((f.length : Int) - 1)

/-! ### what a formula must be -/
def okNode (ks : Int → Bool) (m i : Int) (x : Nd) : Prop :=
  ks x.k = true ∧
  (leafK x.k = true → x.b = 0 ∧ (x.k = 2 → 0 ≤ x.a ∧ x.a < m) ∧ (x.k ≠ 2 → x.a = 0)) ∧
  (oneK x.k = true → 0 ≤ x.a ∧ x.a < i ∧ x.b = 0) ∧
  (twoK x.k = true → 0 ≤ x.a ∧ x.a < i ∧ 0 ≤ x.b ∧ x.b < i)
def futK (k : Int) : Bool := decide (0 ≤ k) && decide (k ≤ 9)
def pastK (k : Int) : Bool := (decide (0 ≤ k) && decide (k ≤ 5)) || k == 10 || k == 11
def anyK (k : Int) : Bool := decide (0 ≤ k) && decide (k ≤ 11)
def okF (ks : Int → Bool) (m : Int) (f : List Nd) : Prop := ∀ i (h : i < f.length), okNode ks m i f[i]

theorem snoc_ind {α : Type} {P : List α → Prop} (h0 : P []) (h1 : ∀ l x, P l → P (l ++ [x])) : ∀ l, P l := by
  intro l
  have : ∀ r : List α, P r.reverse := by
    intro r; induction r with
    | nil => exact h0
    | cons x r ih => rw [List.reverse_cons]; exact h1 _ _ ih
  simpa using this l.reverse

theorem endL_snoc (f : List Nd) (x : Nd) : endL (f ++ [x]) = endL f ++ [stepE (endL f) x] := by
  simp [endL, List.foldl_append]
theorem aheadL_snoc (f : List Nd) (x : Nd) (t a) : aheadL (f ++ [x]) t a = aheadL f t a ++ [stepA a t (aheadL f t a) x] := by
  simp [aheadL, List.foldl_append]
theorem treesL_snoc (f : List Nd) (x : Nd) : treesL (f ++ [x]) = treesL f ++ [mkW (treesL f) x] := by
  simp [treesL, List.foldl_append]
theorem endL_len (f : List Nd) : (endL f).length = f.length := by
  induction f using snoc_ind with
  | h0 => rfl
  | h1 l x ih => rw [endL_snoc]; simp [ih]
theorem aheadL_len (f : List Nd) (t a) : (aheadL f t a).length = f.length := by
  induction f using snoc_ind with
  | h0 => rfl
  | h1 l x ih => rw [aheadL_snoc]; simp [ih]
theorem treesL_len (f : List Nd) : (treesL f).length = f.length := by
  induction f using snoc_ind with
  | h0 => rfl
  | h1 l x ih => rw [treesL_snoc]; simp [ih]
theorem valsL_len (f : List Nd) (w) : (valsL f w).length = f.length := by
  cases w with
  | nil => exact endL_len f
  | cons a w => exact aheadL_len f _ a

theorem okF_snoc {ks m} {f : List Nd} {x : Nd} (h : okF ks m (f ++ [x])) : okF ks m f ∧ okNode ks m f.length x := by
  constructor
  · intro i hi
    have := h i (by simp; omega)
    rwa [List.getElem_append_left hi] at this
  · have := h f.length (by simp)
    simpa using this

theorem getB_map (ts : List W) (w : List Int) (i : Int) (h0 : 0 ≤ i) (h : i < ts.length) :
    getB (ts.map (·.sem w)) i = (getW ts i).sem w := by
  unfold getB getW
  have hi : i.toNat < ts.length := by omega
  simp [List.getD, hi]

theorem kinds_cases {k : Int} (h : anyK k = true) : k = 0 ∨ k = 1 ∨ k = 2 ∨ k = 3 ∨ k = 4 ∨ k = 5 ∨ k = 6 ∨ k = 7 ∨ k = 8 ∨ k = 9 ∨ k = 10 ∨ k = 11 := by
  simp [anyK] at h; omega

theorem untilV_cons (f g : List Int → Bool) (a w) : untilV f g (a :: w) = (g (a :: w) || (f (a :: w) && untilV f g w)) := rfl
theorem releaseV_cons (f g : List Int → Bool) (a w) : releaseV f g (a :: w) = (g (a :: w) && (f (a :: w) || releaseV f g w)) := rfl

theorem endL_eq (m) (f : List Nd) (h : okF anyK m f) : endL f = (treesL f).map (·.sem []) := by
  induction f using snoc_ind with
  | h0 => rfl
  | h1 l x ih =>
    obtain ⟨h1, hk, ha, hb, hc⟩ := okF_snoc h
    rw [endL_snoc, treesL_snoc, List.map_append, ← ih h1]
    congr 1
    have hl := treesL_len l
    simp only [List.map_cons, List.map_nil, List.cons.injEq, and_true]
    rw [ih h1]
    rcases kinds_cases hk with e | e | e | e | e | e | e | e | e | e | e | e <;>
      simp [e, leafK, oneK, twoK] at ha hb hc <;>
      simp [stepE, mkW, e, leafK, oneK, W.sem, v0, v1, v2, isV, nextV, untilV, releaseV] <;>
      (try rw [getB_map _ _ _ (by omega) (by omega)]) <;> (try rw [getB_map _ _ _ (by omega) (by omega)])

theorem aheadL_eq (m) (g : List Nd) (w : List Int) (a : Int) (f : List Nd) (h : okF anyK m f) (r : List Nd) (hg : g = f ++ r) :
    aheadL f ((treesL g).map (·.sem w)) a = (treesL f).map (·.sem (a :: w)) := by
  induction f using snoc_ind generalizing r with
  | h0 => rfl
  | h1 l x ih =>
    obtain ⟨h1, hk, ha, hb, hc⟩ := okF_snoc h
    have ih' := ih h1 ([x] ++ r) (by simp [hg])
    rw [aheadL_snoc, treesL_snoc, List.map_append, ← ih']
    congr 1
    have hl := treesL_len l
    -- trees of g begin with those of l ++ [x]
    have pre : ∀ (p q : List Nd), ∃ s, treesL (p ++ q) = treesL p ++ s := by
      intro p q
      induction q using snoc_ind with
      | h0 => exact ⟨[], by simp⟩
      | h1 q y ihq =>
        obtain ⟨s, hs⟩ := ihq
        exact ⟨s ++ [mkW (treesL (p ++ q)) y], by rw [← List.append_assoc, treesL_snoc, hs]; simp⟩
    obtain ⟨s, hs⟩ := pre (l ++ [x]) r
    have hgt : treesL g = treesL l ++ (mkW (treesL l) x :: s) := by rw [hg, hs, treesL_snoc]; simp
    have hT : ∀ i : Int, 0 ≤ i → i < l.length → getB ((treesL g).map (·.sem w)) i = (getW (treesL l) i).sem w := by
      intro i h0 h2
      have hlen : i.toNat < (treesL l).length := by omega
      rw [getB_map _ _ _ h0 (by rw [hgt]; simp; omega)]
      unfold getW
      rw [hgt]
      simp [List.getD, List.getElem?_append_left hlen]
    have hI : ((treesL g).map (·.sem w)).getD l.length false = (mkW (treesL l) x).sem w := by
      rw [hgt]
      simp [List.getD, ← hl]
    simp only [List.map_cons, List.map_nil, List.cons.injEq, and_true]
    rw [ih']
    have hlen' : ((treesL l).map (·.sem (a :: w))).length = l.length := by simp [hl]
    rcases kinds_cases hk with e | e | e | e | e | e | e | e | e | e | e | e <;>
      simp [e, leafK, oneK, twoK] at ha hb hc <;>
      simp [e, mkW, leafK, oneK, W.sem, v2, v1] at hI <;>
      simp [stepA, mkW, e, leafK, oneK, W.sem, v0, v1, v2, isV, nextV, untilV_cons, releaseV_cons, hI, hl] <;>
      (try rw [hT _ (by omega) (by omega)]) <;>
      (try rw [getB_map _ _ _ (by omega) (by omega)]) <;> (try rw [getB_map _ _ _ (by omega) (by omega)])

theorem valsL_eq (m) (f : List Nd) (h : okF anyK m f) (w : List Int) : valsL f w = (treesL f).map (·.sem w) := by
  induction w with
  | nil => exact endL_eq m f h
  | cons a w ih =>
    show aheadL f (valsL f w) a = _
    rw [ih]
    exact aheadL_eq m f w a f h [] (by simp)

theorem holds_eq (m) (f : List Nd) (h : okF anyK m f) (hf : f ≠ []) (w : List Int) : holds f w = (tree f).sem w := by
  have hl := treesL_len f
  have hp : 0 < f.length := List.length_pos_iff.2 hf
  unfold holds lastB tree
  rw [valsL_eq m f h, ← getB_map _ _ _ (by omega) (by omega)]
  unfold getB
  congr 1
  simp [hl]

end Stile
/- plain: a tree as a list of nodes; a part in the place of another. -/
namespace Stile

def W.size : W → Nat
  | .n0 _ _ => 1
  | .n1 _ x => x.size + 1
  | .n2 _ x y => x.size + y.size + 1

/-- the nodes of a tree, behind n others -/
def W.flat : W → Nat → List Nd
  | .n0 k s, _ => [⟨k, s, 0⟩]
  | .n1 k x, n => x.flat n ++ [⟨k, (n : Int) + x.size - 1, 0⟩]
  | .n2 k x y, n => x.flat n ++ y.flat (n + x.size) ++ [⟨k, (n : Int) + x.size - 1, (n : Int) + x.size + y.size - 1⟩]

def W.ok (ks : Int → Bool) (m : Int) : W → Prop
  | .n0 k s => ks k = true ∧ leafK k = true ∧ (k = 2 → 0 ≤ s ∧ s < m) ∧ (k ≠ 2 → s = 0)
  | .n1 k x => ks k = true ∧ oneK k = true ∧ x.ok ks m
  | .n2 k x y => ks k = true ∧ twoK k = true ∧ x.ok ks m ∧ y.ok ks m

theorem W.size_pos (t : W) : 0 < t.size := by cases t <;> simp [W.size]
theorem W.flat_len (t : W) (n : Nat) : (t.flat n).length = t.size := by
  induction t generalizing n with
  | n0 k s => rfl
  | n1 k x ih => simp [W.flat, W.size, ih]
  | n2 k x y ih1 ih2 => simp [W.flat, W.size, ih1, ih2]; omega

theorem leaf_not_one {k : Int} (h : leafK k = true) : oneK k = false ∧ twoK k = false := by
  simp [leafK, oneK, twoK] at *; omega
theorem one_not_leaf {k : Int} (h : oneK k = true) : leafK k = false ∧ twoK k = false := by
  simp [leafK, oneK, twoK] at *; omega
theorem two_not_leaf {k : Int} (h : twoK k = true) : leafK k = false ∧ oneK k = false := by
  simp [leafK, oneK, twoK] at *; omega

theorem getW_last (l : List W) (t : W) (i : Int) (h : i = (l.length : Int)) (s : List W) : getW (l ++ t :: s) i = t := by
  subst h; simp [getW, List.getD]

theorem flat_trees (ks m) (t : W) (h : t.ok ks m) : ∀ (pre : List Nd),
    ∃ mid, treesL (pre ++ t.flat pre.length) = treesL pre ++ mid ++ [t] ∧ mid.length + 1 = t.size := by
  induction t with
  | n0 k s =>
    intro pre
    obtain ⟨_, h1, h2, h3⟩ := h
    refine ⟨[], ?_, rfl⟩
    rw [W.flat, treesL_snoc]
    simp only [mkW, h1, if_true, List.append_nil]
    by_cases hk : k = 2
    · simp [hk]
    · simp [hk, h3 hk]
  | n1 k x ih =>
    intro pre
    obtain ⟨_, h1, h2⟩ := h
    obtain ⟨mid, hm, hl⟩ := ih h2 pre
    refine ⟨mid ++ [x], ?_, by simp [W.size]; omega⟩
    rw [W.flat, ← List.append_assoc, treesL_snoc, hm]
    have := one_not_leaf h1
    simp only [mkW, this.1, h1]
    have hp := treesL_len pre
    have e : getW (treesL pre ++ mid ++ [x]) ((pre.length : Int) + x.size - 1) = x := getW_last _ _ _ (by simp [hp]; omega) []
    simp only [e]
    simp
  | n2 k x y ih1 ih2 =>
    intro pre
    obtain ⟨_, h1, h2, h3⟩ := h
    obtain ⟨mid, hm, hl⟩ := ih1 h2 pre
    obtain ⟨mid', hm', hl'⟩ := ih2 h3 (pre ++ x.flat pre.length)
    refine ⟨mid ++ [x] ++ mid' ++ [y], ?_, by simp [W.size]; omega⟩
    have hfl := W.flat_len x pre.length
    rw [List.length_append, hfl] at hm'
    rw [W.flat, ← List.append_assoc, ← List.append_assoc, treesL_snoc, hm', hm]
    have := two_not_leaf h1
    simp only [mkW, this.1, this.2]
    have hp := treesL_len pre
    have ex : getW (treesL pre ++ mid ++ [x] ++ mid' ++ [y]) ((pre.length : Int) + x.size - 1) = x := by
      have := getW_last (treesL pre ++ mid) x ((pre.length : Int) + x.size - 1) (by simp [hp]; omega) (mid' ++ [y])
      simpa using this
    have ey : getW (treesL pre ++ mid ++ [x] ++ mid' ++ [y]) ((pre.length : Int) + x.size + y.size - 1) = y :=
      getW_last _ _ _ (by simp [hp]; omega) []
    simp only [ex, ey]
    simp

theorem flat_tree (ks m) (t : W) (h : t.ok ks m) : tree (t.flat 0) = t := by
  obtain ⟨mid, hm, hl⟩ := flat_trees ks m t h []
  unfold tree
  have := W.flat_len t 0
  simp at hm
  rw [hm]
  exact getW_last _ _ _ (by simp [this]; omega) []

theorem okNode_mono {ks m} {i j : Int} {x : Nd} (h : okNode ks m i x) (hij : i ≤ j) : okNode ks m j x := by
  obtain ⟨a, b, c, d⟩ := h
  refine ⟨a, b, fun h => ?_, fun h => ?_⟩
  · have := c h; omega
  · have := d h; omega

theorem okF_append {ks m} {f g : List Nd} (hf : okF ks m f) (hg : ∀ i (h : i < g.length), okNode ks m (f.length + i) g[i]) : okF ks m (f ++ g) := by
  intro i hi
  by_cases h : i < f.length
  · rw [List.getElem_append_left h]; exact hf i h
  · rw [List.getElem_append_right (by omega)]
    have := hg (i - f.length) (by simp at hi; omega)
    exact okNode_mono this (by omega)

theorem flat_nodes (ks m) (t : W) (h : t.ok ks m) : ∀ (n : Nat), ∀ i (hi : i < (t.flat n).length), okNode ks m ((n : Int) + i) (t.flat n)[i] := by
  induction t with
  | n0 k s =>
    intro n i hi
    obtain ⟨h0, h1, h2, h3⟩ := h
    simp [W.flat] at hi
    subst hi
    have := leaf_not_one h1
    refine ⟨h0, fun _ => ⟨rfl, h2, h3⟩, fun h => ?_, fun h => ?_⟩ <;> simp_all [W.flat]
  | n1 k x ih =>
    intro n i hi
    obtain ⟨h0, h1, h2⟩ := h
    have hl := W.flat_len x n
    have hp := W.size_pos x
    by_cases hlt : i < (x.flat n).length
    · simp only [W.flat, List.getElem_append_left hlt]; exact ih h2 n i hlt
    · have : i = x.size := by simp [W.flat, hl] at hi; omega
      subst this
      simp only [W.flat]
      rw [List.getElem_append_right (by omega)]
      have := one_not_leaf h1
      simp only [hl, Nat.sub_self, List.getElem_cons_zero]
      refine ⟨h0, fun h => ?_, fun h => ?_, fun h => ?_⟩
      · simp_all
      · simp; omega
      · simp_all
  | n2 k x y ih1 ih2 =>
    intro n i hi
    obtain ⟨h0, h1, h2, h3⟩ := h
    have hl := W.flat_len x n
    have hl2 := W.flat_len y (n + x.size)
    have hp := W.size_pos x
    have hp2 := W.size_pos y
    by_cases hlt : i < x.size + y.size
    · simp only [W.flat]
      rw [List.getElem_append_left (by simp; omega)]
      by_cases hlt2 : i < x.size
      · rw [List.getElem_append_left (by omega)]; exact ih1 h2 n i (by omega)
      · rw [List.getElem_append_right (by omega)]
        have := ih2 h3 (n + x.size) (i - (x.flat n).length) (by omega)
        refine okNode_mono this (by omega)
    · have : i = x.size + y.size := by simp [W.flat, hl, hl2] at hi; omega
      subst this
      simp only [W.flat]
      rw [List.getElem_append_right (by simp; omega)]
      have := two_not_leaf h1
      have e : x.size + y.size - (x.flat n ++ y.flat (n + x.size)).length = 0 := by simp; omega
      simp only [e, List.getElem_cons_zero]
      refine ⟨h0, fun h => ?_, fun h => ?_, fun h => ?_⟩
      · simp_all
      · simp_all
      · simp; omega

theorem flat_ok (ks m) (t : W) (h : t.ok ks m) : okF ks m (t.flat 0) := by
  intro i hi
  have := flat_nodes ks m t h 0 i hi
  simpa using this

/-! ### the trees of a formula are sound -/
theorem trees_ok {ks m} (hks : ∀ k, ks k = true → anyK k = true) (f : List Nd) (h : okF ks m f) : ∀ t ∈ treesL f, t.ok ks m := by
  induction f using snoc_ind with
  | h0 => intro t ht; simp [treesL] at ht
  | h1 l x ih =>
    obtain ⟨h1, hk, ha, hb, hc⟩ := okF_snoc h
    have ih := ih h1
    have hl := treesL_len l
    have hg : ∀ i : Int, 0 ≤ i → i < l.length → (getW (treesL l) i).ok ks m := by
      intro i h0 h2
      have hi : i.toNat < (treesL l).length := by omega
      have : getW (treesL l) i = (treesL l)[i.toNat] := by simp [getW, List.getD, hi]
      rw [this]; exact ih _ (List.getElem_mem hi)
    intro t ht
    rw [treesL_snoc] at ht
    rcases List.mem_append.1 ht with ht | ht
    · exact ih t ht
    · simp at ht; subst ht
      have hk' := kinds_cases (hks _ hk)
      unfold mkW
      by_cases h1 : leafK x.k = true
      · simp only [h1, if_true]
        obtain ⟨a1, a2, a3⟩ := ha h1
        refine ⟨hk, h1, ?_, ?_⟩
        · intro e; simp [e]; exact a2 e
        · intro e; simp [e]
      · by_cases h2 : oneK x.k = true
        · simp only [h1, h2, if_true]
          have := hb h2
          exact ⟨hk, h2, hg _ this.1 this.2.1⟩
        · simp only [h1, h2]
          have h3 : twoK x.k = true := by simp [leafK, oneK, twoK] at *; omega
          have := hc h3
          exact ⟨hk, h3, hg _ this.1 this.2.1, hg _ this.2.2.1 this.2.2.2⟩

theorem tree_ok {ks m} (hks : ∀ k, ks k = true → anyK k = true) (f : List Nd) (h : okF ks m f) (hf : f ≠ []) : (tree f).ok ks m := by
  have hl := treesL_len f
  have hp : 0 < f.length := List.length_pos_iff.2 hf
  have hi : ((f.length : Int) - 1).toNat < (treesL f).length := by omega
  have : tree f = (treesL f)[((f.length : Int) - 1).toNat] := by unfold tree getW; rw [List.getD, List.getElem?_eq_getElem hi]; rfl
  rw [this]
  exact trees_ok hks f h _ (List.getElem_mem hi)

theorem flat_holds {ks m} (hks : ∀ k, ks k = true → anyK k = true) (t : W) (h : t.ok ks m) (w : List Int) : holds (t.flat 0) w = t.sem w := by
  have hany : okF anyK m (t.flat 0) := by
    intro i hi
    obtain ⟨a, b⟩ := flat_ok ks m t h i hi
    exact ⟨hks _ a, b⟩
  have hne : t.flat 0 ≠ [] := by
    have := W.flat_len t 0; have := W.size_pos t
    intro e; simp [e] at *; omega
  rw [holds_eq m _ hany hne, flat_tree ks m t h]

/-! ### parts, by their paths -/
def W.paths : W → List (List Bool)
  | .n0 _ _ => [[]]
  | .n1 _ x => [] :: x.paths.map (false :: ·)
  | .n2 _ x y => [] :: (x.paths.map (false :: ·) ++ y.paths.map (true :: ·))
def W.get : W → List Bool → W
  | t, [] => t
  | .n1 _ x, false :: p => x.get p
  | .n2 _ x _, false :: p => x.get p
  | .n2 _ _ y, true :: p => y.get p
  | t, _ :: _ => t
def W.put : W → List Bool → W → W
  | _, [], z => z
  | .n1 k x, false :: p, z => .n1 k (x.put p z)
  | .n2 k x y, false :: p, z => .n2 k (x.put p z) y
  | .n2 k x y, true :: p, z => .n2 k x (y.put p z)
  | t, _ :: _, _ => t

/-- x reckoned as one of n, without a sign -/
def pick (x n : Int) : Int := (x % 18446744073709551616) % n

def fitting (t : W) (by_ : W → Option W) : List (List Bool) := t.paths.filter fun p => (by_ (t.get p)).isSome
def swapT (t : W) (which : Int) (by_ : W → Option W) : Option W :=
  if (fitting t by_).length = 0 then none
  else (by_ (t.get ((fitting t by_).getD (pick which (fitting t by_).length).toNat []))).map (t.put ((fitting t by_).getD (pick which (fitting t by_).length).toNat []))

/-- two meanings agree on the words of sound letters -/
def Agree (D : Int → Prop) (f g : List Int → Bool) : Prop := ∀ w, (∀ a ∈ w, D a) → f w = g w

theorem Agree.v1 {D f g} (h : Agree D f g) (k) : Agree D (v1 k f) (v1 k g) := by
  intro w hw
  unfold Stile.v1
  have hn : ∀ e, nextV e f w = nextV e g w := by
    intro e; cases w with
    | nil => rfl
    | cons a w => exact h w (fun b hb => hw b (List.mem_cons_of_mem _ hb))
  split
  · simp [h w hw]
  · split
    · exact hn false
    · split
      · exact hn true
      · rfl

theorem Agree.v2 {D f g f' g'} (h : Agree D f g) (h' : Agree D f' g') (k) : Agree D (v2 k f f') (v2 k g g') := by
  intro w hw
  unfold Stile.v2
  have hu : untilV f f' w = untilV g g' w := by
    induction w with
    | nil => rfl
    | cons a w ih => rw [untilV_cons, untilV_cons, h _ hw, h' _ hw, ih (fun b hb => hw b (List.mem_cons_of_mem _ hb))]
  have hr : releaseV f f' w = releaseV g g' w := by
    induction w with
    | nil => rfl
    | cons a w ih =>
      have hw2 : ∀ b ∈ w, D b := fun b hb => hw b (List.mem_cons_of_mem _ hb)
      have hu2 : untilV f f' w = untilV g g' w := by
        clear ih hu hw
        induction w with
        | nil => rfl
        | cons a w ih => rw [untilV_cons, untilV_cons, h _ hw2, h' _ hw2, ih (fun b hb => hw2 b (List.mem_cons_of_mem _ hb))]
      rw [releaseV_cons, releaseV_cons, h _ hw, h' _ hw, ih hw2 hu2]
  repeat' split
  all_goals simp only [h w hw, h' w hw, hu, hr]

theorem Agree.refl {D f} : Agree D f f := fun _ _ => rfl
theorem Agree.trans {D f g h} (a : Agree D f g) (b : Agree D g h) : Agree D f h := fun w hw => (a w hw).trans (b w hw)

theorem put_agree {D} (z : W) : ∀ (t : W) (p : List Bool), p ∈ t.paths → Agree D (t.get p).sem z.sem → Agree D t.sem (t.put p z).sem := by
  intro t
  induction t with
  | n0 k s => intro p hp h; simp [W.paths] at hp; subst hp; simpa [W.get, W.put] using h
  | n1 k x ih =>
    intro p hp h
    simp [W.paths] at hp
    rcases hp with rfl | ⟨q, hq, rfl⟩
    · simpa [W.get, W.put] using h
    · simp [W.get] at h; simp only [W.put, W.sem]; exact (ih q hq h).v1 k
  | n2 k x y ih1 ih2 =>
    intro p hp h
    simp [W.paths] at hp
    rcases hp with rfl | ⟨q, hq, rfl⟩ | ⟨q, hq, rfl⟩
    · simpa [W.get, W.put] using h
    · simp [W.get] at h; simp only [W.put, W.sem]; exact (ih1 q hq h).v2 Agree.refl k
    · simp [W.get] at h; simp only [W.put, W.sem]; exact Agree.refl.v2 (ih2 q hq h) k

theorem get_ok {ks m} : ∀ (t : W) (p : List Bool), t.ok ks m → (t.get p).ok ks m := by
  intro t
  induction t with
  | n0 k s => intro p h; cases p <;> simpa [W.get] using h
  | n1 k x ih =>
    intro p h
    match p with
    | [] => simpa [W.get] using h
    | false :: q => simp [W.get]; exact ih q h.2.2
    | true :: q => simpa [W.get] using h
  | n2 k x y ih1 ih2 =>
    intro p h
    match p with
    | [] => simpa [W.get] using h
    | false :: q => simp [W.get]; exact ih1 q h.2.2.1
    | true :: q => simp [W.get]; exact ih2 q h.2.2.2

theorem put_ok {ks m} (z : W) (hz : z.ok ks m) : ∀ (t : W) (p : List Bool), t.ok ks m → (t.put p z).ok ks m := by
  intro t
  induction t with
  | n0 k s => intro p h; cases p <;> simp [W.put] <;> assumption
  | n1 k x ih =>
    intro p h
    match p with
    | [] => simpa [W.put] using hz
    | false :: q => simp [W.put]; exact ⟨h.1, h.2.1, ih q h.2.2⟩
    | true :: q => simpa [W.put] using h
  | n2 k x y ih1 ih2 =>
    intro p h
    match p with
    | [] => simpa [W.put] using hz
    | false :: q => simp [W.put]; exact ⟨h.1, h.2.1, ih1 q h.2.2.1, h.2.2.2⟩
    | true :: q => simp [W.put]; exact ⟨h.1, h.2.1, h.2.2.1, ih2 q h.2.2.2⟩

theorem pick_range {x n : Int} (h : 0 < n) : 0 ≤ pick x n ∧ pick x n < n :=
  ⟨Int.emod_nonneg _ (by omega), Int.emod_lt_of_pos _ h⟩

/-- what a swap keeps, if each rule keeps it -/
theorem swapT_spec {ks m D} {by_ : W → Option W} (hby : ∀ t u, t.ok ks m → by_ t = some u → u.ok ks m ∧ Agree D t.sem u.sem)
    {t u : W} {which : Int} (ht : t.ok ks m) (h : swapT t which by_ = some u) : u.ok ks m ∧ Agree D t.sem u.sem := by
  unfold swapT at h
  split at h
  · cases h
  · rename_i hne
    have hr := pick_range (x := which) (n := ((fitting t by_).length : Int)) (by omega)
    have hi : (pick which ((fitting t by_).length : Int)).toNat < (fitting t by_).length := by omega
    obtain ⟨p, hp⟩ : ∃ p, (fitting t by_).getD (pick which ((fitting t by_).length : Int)).toNat [] = p := ⟨_, rfl⟩
    have hmem : p ∈ fitting t by_ := by
      rw [← hp, List.getD, List.getElem?_eq_getElem hi]; exact List.getElem_mem hi
    rw [hp] at h
    obtain ⟨h1, h2⟩ := List.mem_filter.1 hmem
    obtain ⟨z, hz⟩ := Option.isSome_iff_exists.1 h2
    rw [hz] at h
    simp at h
    subst h
    obtain ⟨a, b⟩ := hby _ z (get_ok t p ht) hz
    exact ⟨put_ok z a t p ht, put_agree z t p h1 b⟩

end Stile
/- plain: what is found from a start by letters; automata. -/
namespace Stile

section
variable (st : Nat → Int → Nat) (lim : Nat)
def rowFrom (x : Nat) : Nat → Int → List Nat → List Int → Option (List Nat × List Int)
  | 0, _, ks, row => some (ks, row)
  | d + 1, a, ks, row =>
    if st x a ∈ ks then rowFrom x d (a + 1) ks (row ++ [(ks.idxOf (st x a) : Int)])
    else if lim ≤ ks.length then none
    else rowFrom x d (a + 1) (ks ++ [st x a]) (row ++ [(ks.length : Int)])
def explore (L : Nat) : Nat → Nat → List Nat → List (List Int) → Option (List Nat × List (List Int))
  | 0, _, _, _ => none
  | n + 1, i, ks, next =>
    if i < ks.length then
      match rowFrom st lim (ks.getD i 0) L 0 ks [] with
      | none => none
      | some (ks', row) => explore L n (i + 1) ks' (next ++ [row])
    else some (ks, next)
end

def Ltr (L : Nat) (a : Int) : Prop := 0 ≤ a ∧ a < L
def Wrd (L : Nat) (w : List Int) : Prop := ∀ a ∈ w, Ltr L a
def run (st : Nat → Int → Nat) (s : Nat) (w : List Int) : Nat := w.foldl st s
theorem run_snoc (st s w a) : run st s (w ++ [a]) = st (run st s w) a := by simp [run, List.foldl_append]
theorem Wrd.snoc {L w a} (h : Wrd L w) (ha : Ltr L a) : Wrd L (w ++ [a]) := by
  intro b hb; rcases List.mem_append.1 hb with hb | hb
  · exact h b hb
  · simp at hb; subst hb; exact ha
theorem Wrd.append {L v w} (h : Wrd L v) (h' : Wrd L w) : Wrd L (v ++ w) := by
  intro b hb; rcases List.mem_append.1 hb with hb | hb
  · exact h b hb
  · exact h' b hb

/-! ### what exploring keeps -/
/-- the entry of a row stands for a key -/
def RowOk (st : Nat → Int → Nat) (x : Nat) (ks : List Nat) (row : List Int) : Prop :=
  ∀ j (h : j < row.length), 0 ≤ row[j] ∧ ks[row[j].toNat]? = some (st x j)

theorem RowOk.more {st x ks row} (h : RowOk st x ks row) (r : List Nat) : RowOk st x (ks ++ r) row := by
  intro j hj
  obtain ⟨h0, h1⟩ := h j hj
  have : (row[j]).toNat < ks.length := by
    rcases Nat.lt_or_ge (row[j]).toNat ks.length with h | h
    · exact h
    · rw [List.getElem?_eq_none h] at h1; cases h1
  exact ⟨h0, by rw [List.getElem?_append_left this]; exact h1⟩

theorem rowFrom_spec {st lim x} (P : Nat → Prop) {L : Nat} (hP : ∀ a, Ltr L a → P (st x a)) : ∀ (d : Nat) (a : Int) (ks : List Nat) (row : List Int) (ks' row'),
    ks.Nodup → (∀ k ∈ ks, P k) → RowOk st x ks row → a = row.length → row.length + d = L → ks.length ≤ lim →
    rowFrom st lim x d a ks row = some (ks', row') →
    ks'.Nodup ∧ (∀ k ∈ ks', P k) ∧ RowOk st x ks' row' ∧ row'.length = L ∧ (∃ r, ks' = ks ++ r) ∧ ks'.length ≤ lim := by
  intro d
  induction d with
  | zero =>
    intro a ks row ks' row' hn hp hr ha hl hlim h
    simp [rowFrom] at h
    obtain ⟨rfl, rfl⟩ := h
    exact ⟨hn, hp, hr, by omega, ⟨[], by simp⟩, hlim⟩
  | succ d ih =>
    intro a ks row ks' row' hn hp hr ha hl hlim h
    have hLa : Ltr L a := ⟨by omega, by omega⟩
    unfold rowFrom at h
    split at h
    · rename_i hm
      refine ih _ _ _ _ _ hn hp ?_ (by simp; omega) (by simp; omega) hlim h
      intro j hj
      by_cases hjl : j < row.length
      · rw [List.getElem_append_left hjl]; exact hr j hjl
      · have : j = row.length := by simp at hj; omega
        subst this
        simp
        subst ha
        refine List.getElem?_eq_some_iff.2 ⟨List.idxOf_lt_length_iff.2 hm, ?_⟩
        exact List.getElem_idxOf _
    · rename_i hm
      split at h
      · cases h
      · rename_i hlt
        have := ih _ _ _ _ _ ?_ ?_ ?_ (by simp; omega) (by simp; omega) (by simp; omega) h
        · obtain ⟨a1, a2, a3, a4, ⟨r, a5⟩, a6⟩ := this
          exact ⟨a1, a2, a3, a4, ⟨st x a :: r, by simp [a5]⟩, a6⟩
        · rw [List.nodup_append]
          refine ⟨hn, by simp, ?_⟩
          intro b hb c hc; simp at hc; subst hc; intro e; subst e; exact hm hb
        · intro k hk
          rcases List.mem_append.1 hk with hk | hk
          · exact hp k hk
          · simp at hk; subst hk; exact hP _ hLa
        · intro j hj
          by_cases hjl : j < row.length
          · rw [List.getElem_append_left hjl]; exact hr.more _ j hjl
          · have : j = row.length := by simp at hj; omega
            subst this
            simp
            subst ha
            rfl

structure Explored (st : Nat → Int → Nat) (s L lim : Nat) (ks : List Nat) (next : List (List Int)) : Prop where
  nodup : ks.Nodup
  head : ks[0]? = some s
  reach : ∀ k ∈ ks, ∃ w, Wrd L w ∧ run st s w = k
  len : next.length = ks.length
  lenle : ks.length ≤ lim
  rows : ∀ i (h : i < next.length), next[i].length = L ∧ RowOk st (ks.getD i 0) ks next[i]

theorem explore_spec {st lim s L} : ∀ (n i : Nat) (ks : List Nat) (next : List (List Int)) (ks' next'),
    ks.Nodup → ks[0]? = some s → (∀ k ∈ ks, ∃ w, Wrd L w ∧ run st s w = k) → next.length = i → i ≤ ks.length → ks.length ≤ lim →
    (∀ i (h : i < next.length), next[i].length = L ∧ RowOk st (ks.getD i 0) ks next[i]) →
    explore st lim L n i ks next = some (ks', next') → Explored st s L lim ks' next' := by
  intro n
  induction n with
  | zero => intro i ks next ks' next' _ _ _ _ _ _ _ h; simp [explore] at h
  | succ n ih =>
    intro i ks next ks' next' hn hh hp hl hi hlim hr h
    unfold explore at h
    split at h
    · rename_i hlt
      split at h
      · cases h
      · rename_i ks1 row heq
        have hx : ks.getD i 0 ∈ ks := by rw [List.getD, List.getElem?_eq_getElem hlt]; exact List.getElem_mem hlt
        have hs := rowFrom_spec (P := fun k => ∃ w, Wrd L w ∧ run st s w = k) (L := L) (st := st) (lim := lim) (x := ks.getD i 0) (by
          intro a ha
          obtain ⟨w, hw, e⟩ := hp _ hx
          exact ⟨w ++ [a], hw.snoc ha, by rw [run_snoc, e]⟩) L 0 ks [] ks1 row hn hp (fun j hj => by simp at hj) rfl (by simp) hlim heq
        obtain ⟨a1, a2, a3, a4, ⟨r, rfl⟩, a6⟩ := hs
        refine ih _ _ _ _ _ a1 ?_ a2 (by simp; omega) (by simp; omega) a6 ?_ h
        · cases ks with
          | nil => simp at hlt
          | cons k ks => simpa using hh
        · intro j hj
          by_cases hjl : j < next.length
          · rw [List.getElem_append_left hjl]
            obtain ⟨b1, b2⟩ := hr j hjl
            refine ⟨b1, ?_⟩
            have : (ks ++ r).getD j 0 = ks.getD j 0 := by
              rw [List.getD, List.getElem?_append_left (by omega), List.getD]
            rw [this]; exact b2.more r
          · have : j = next.length := by simp at hj; omega
            subst this
            simp only [List.getElem_append_right (Nat.le_refl _), Nat.sub_self, List.getElem_cons_zero]
            have : (ks ++ r).getD next.length 0 = ks.getD i 0 := by
              rw [List.getD, List.getElem?_append_left (by omega), List.getD, hl]
            rw [this]; exact ⟨a4, a3⟩
    · rename_i hlt
      simp at h
      obtain ⟨rfl, rfl⟩ := h
      exact ⟨hn, hh, hp, by omega, hlim, hr⟩

/-- the whole of it -/
def explored (st : Nat → Int → Nat) (s L lim : Nat) : Option (List Nat × List (List Int)) := explore st lim L (lim + 1) 0 [s] []
theorem explored_spec {st s L lim ks next} (hlim : 1 ≤ lim) (h : explored st s L lim = some (ks, next)) : Explored st s L lim ks next :=
  explore_spec (lim + 1) 0 [s] [] ks next (by simp) (by simp) (by intro k hk; simp at hk; subst hk; exact ⟨[], by intro a ha; simp at ha, rfl⟩) rfl (by simp) (by simpa using hlim)
    (by intro i hi; simp at hi) h

/-- the state behind a letter -/
def go1 (next : List (List Int)) (s : Int) (a : Int) : Int := (next.getD s.toNat []).getD a.toNat 0
def goes (next : List (List Int)) (s : Int) (w : List Int) : Int := w.foldl (go1 next) s

theorem Explored.go1_ok {st s L lim ks next} (h : Explored st s L lim ks next) {q a : Int} (h0 : 0 ≤ q) (hq : q < ks.length) (ha : Ltr L a) :
    0 ≤ go1 next q a ∧ go1 next q a < ks.length ∧ ks.getD (go1 next q a).toNat 0 = st (ks.getD q.toNat 0) a := by
  have hq' : q.toNat < next.length := by have := h.len; omega
  obtain ⟨h1, h2⟩ := h.rows q.toNat hq'
  have hal : a.toNat < next[q.toNat].length := by have := ha.1; have := ha.2; omega
  obtain ⟨h3, h4⟩ := h2 a.toNat hal
  have e : go1 next q a = next[q.toNat][a.toNat] := by
    unfold go1
    rw [List.getD, List.getD, List.getElem?_eq_getElem hq']
    simp [List.getElem?_eq_getElem hal]
  rw [e]
  have hlt : (next[q.toNat][a.toNat]).toNat < ks.length := by
    rcases Nat.lt_or_ge (next[q.toNat][a.toNat]).toNat ks.length with h | h
    · exact h
    · rw [List.getElem?_eq_none h] at h4; cases h4
  refine ⟨h3, by omega, ?_⟩
  rw [List.getD, h4]
  have : ((a.toNat : Nat) : Int) = a := by have := ha.1; omega
  simp [this]

theorem Explored.pos {st s L lim ks next} (h : Explored st s L lim ks next) : 0 < ks.length := by
  have := h.head
  cases ks with
  | nil => simp at this
  | cons => simp

theorem Explored.goes_ok {st s L lim ks next} (h : Explored st s L lim ks next) (w : List Int) (hw : Wrd L w) :
    0 ≤ goes next 0 w ∧ goes next 0 w < ks.length ∧ ks.getD (goes next 0 w).toNat 0 = run st s w := by
  induction w using snoc_ind with
  | h0 => exact ⟨by simp [goes], by simpa [goes] using h.pos, by simp [goes, run, List.getD, h.head]⟩
  | h1 w a ih =>
    obtain ⟨h1, h2, h3⟩ := ih (fun b hb => hw b (List.mem_append_left _ hb))
    have := h.go1_ok h1 h2 (hw a (by simp))
    rw [run_snoc, ← h3]
    simpa [goes, List.foldl_append] using this

theorem nodup_getD_inj {ks : List Nat} (h : ks.Nodup) {i j : Nat} (hi : i < ks.length) (hj : j < ks.length) (e : ks.getD i 0 = ks.getD j 0) : i = j := by
  rw [List.getD, List.getD, List.getElem?_eq_getElem hi, List.getElem?_eq_getElem hj] at e
  have e : ks[i] = ks[j] := by simpa using e
  rw [List.Nodup, List.pairwise_iff_getElem] at h
  rcases Nat.lt_trichotomy i j with h1 | h1 | h1
  · exact absurd e (h i j hi hj h1)
  · exact h1
  · exact absurd e.symm (h j i hj hi h1)

/-! ### two that are explored side by side -/
theorem rowFrom_sim {st1 st2 : Nat → Int → Nat} {s1 s2 lim L : Nat} (H : ∀ w v, Wrd L w → Wrd L v → (run st1 s1 w = run st1 s1 v ↔ run st2 s2 w = run st2 s2 v)) (x : List Int) (hx : Wrd L x) :
    ∀ (d : Nat) (a : Int) (ws : List (List Int)) (row : List Int), 0 ≤ a → a + d ≤ L → (∀ w ∈ ws, Wrd L w) →
    (rowFrom st1 lim (run st1 s1 x) d a (ws.map (run st1 s1)) row = none ∧ rowFrom st2 lim (run st2 s2 x) d a (ws.map (run st2 s2)) row = none) ∨
    ∃ (ws' : List (List Int)) (row' : List Int), (∀ w ∈ ws', Wrd L w) ∧ rowFrom st1 lim (run st1 s1 x) d a (ws.map (run st1 s1)) row = some (ws'.map (run st1 s1), row') ∧
      rowFrom st2 lim (run st2 s2 x) d a (ws.map (run st2 s2)) row = some (ws'.map (run st2 s2), row') := by
  intro d
  induction d with
  | zero => intro a ws row _ _ hw; exact .inr ⟨ws, row, hw, rfl, rfl⟩
  | succ d ih =>
    intro a ws row h0 hL hw
    have hxa : Wrd L (x ++ [a]) := hx.snoc ⟨h0, by omega⟩
    have hmem : (st1 (run st1 s1 x) a ∈ ws.map (run st1 s1)) ↔ (st2 (run st2 s2 x) a ∈ ws.map (run st2 s2)) := by
      rw [← run_snoc st1 s1, ← run_snoc st2 s2, List.mem_map, List.mem_map]
      constructor
      · rintro ⟨v, hv, e⟩; exact ⟨v, hv, (H _ _ (hw v hv) hxa).1 e⟩
      · rintro ⟨v, hv, e⟩; exact ⟨v, hv, (H _ _ (hw v hv) hxa).2 e⟩
    have hidx : (ws.map (run st1 s1)).idxOf (st1 (run st1 s1 x) a) = (ws.map (run st2 s2)).idxOf (st2 (run st2 s2 x) a) := by
      rw [← run_snoc st1 s1, ← run_snoc st2 s2]
      clear hmem ih
      induction ws with
      | nil => rfl
      | cons v ws ihw =>
        simp only [List.map_cons, List.idxOf_cons]
        have := H v (x ++ [a]) (hw v (by simp)) hxa
        rw [ihw (fun w h => hw w (List.mem_cons_of_mem _ h))]
        by_cases e : run st1 s1 v = run st1 s1 (x ++ [a])
        · rw [show (run st1 s1 v == run st1 s1 (x ++ [a])) = true by simpa using e, show (run st2 s2 v == run st2 s2 (x ++ [a])) = true by simpa using this.1 e]
        · rw [show (run st1 s1 v == run st1 s1 (x ++ [a])) = false by simpa using e, show (run st2 s2 v == run st2 s2 (x ++ [a])) = false by simpa using fun h => e (this.2 h)]
    unfold rowFrom
    by_cases hm : st1 (run st1 s1 x) a ∈ ws.map (run st1 s1)
    · rw [if_pos hm, if_pos (hmem.1 hm), hidx]
      exact ih _ _ _ (by omega) (by omega) hw
    · rw [if_neg hm, if_neg (fun h => hm (hmem.2 h))]
      simp only [List.length_map]
      by_cases hl : lim ≤ ws.length
      · left; simp [hl]
      · rw [if_neg hl, if_neg hl]
        have e1 : ws.map (run st1 s1) ++ [st1 (run st1 s1 x) a] = (ws ++ [x ++ [a]]).map (run st1 s1) := by simp [run_snoc]
        have e2 : ws.map (run st2 s2) ++ [st2 (run st2 s2 x) a] = (ws ++ [x ++ [a]]).map (run st2 s2) := by simp [run_snoc]
        rw [e1, e2]
        refine ih _ _ _ (by omega) (by omega) ?_
        intro w hw'
        rcases List.mem_append.1 hw' with h | h
        · exact hw w h
        · simp at h; subst h; exact hxa

theorem explore_sim {st1 st2 : Nat → Int → Nat} {s1 s2 lim L : Nat} (H : ∀ w v, Wrd L w → Wrd L v → (run st1 s1 w = run st1 s1 v ↔ run st2 s2 w = run st2 s2 v)) :
    ∀ (n i : Nat) (ws : List (List Int)) (next : List (List Int)), (∀ w ∈ ws, Wrd L w) →
    (explore st1 lim L n i (ws.map (run st1 s1)) next = none ∧ explore st2 lim L n i (ws.map (run st2 s2)) next = none) ∨
    ∃ (ws' : List (List Int)) (next' : List (List Int)), (∀ w ∈ ws', Wrd L w) ∧ explore st1 lim L n i (ws.map (run st1 s1)) next = some (ws'.map (run st1 s1), next') ∧
      explore st2 lim L n i (ws.map (run st2 s2)) next = some (ws'.map (run st2 s2), next') := by
  intro n
  induction n with
  | zero => intro i ws next _; left; simp [explore]
  | succ n ih =>
    intro i ws next hw
    unfold explore
    simp only [List.length_map]
    by_cases hi : i < ws.length
    · rw [if_pos hi, if_pos hi]
      have e1 : (ws.map (run st1 s1)).getD i 0 = run st1 s1 ws[i] := by simp [List.getD, hi]
      have e2 : (ws.map (run st2 s2)).getD i 0 = run st2 s2 ws[i] := by simp [List.getD, hi]
      rw [e1, e2]
      rcases rowFrom_sim H (lim := lim) ws[i] (hw _ (List.getElem_mem hi)) L 0 ws [] (by omega) (by omega) hw with ⟨h1, h2⟩ | ⟨ws', row', hw', h1, h2⟩
      · left; rw [h1, h2]; exact ⟨rfl, rfl⟩
      · rw [h1, h2]; exact ih _ _ _ hw'
    · rw [if_neg hi, if_neg hi]
      right; exact ⟨ws, next, hw, rfl, rfl⟩

theorem explored_sim {st1 st2 : Nat → Int → Nat} {s1 s2 lim L : Nat} (H : ∀ w v, Wrd L w → Wrd L v → (run st1 s1 w = run st1 s1 v ↔ run st2 s2 w = run st2 s2 v)) :
    (explored st1 s1 L lim = none ∧ explored st2 s2 L lim = none) ∨
    ∃ (ws : List (List Int)) (next : List (List Int)), (∀ w ∈ ws, Wrd L w) ∧ explored st1 s1 L lim = some (ws.map (run st1 s1), next) ∧ explored st2 s2 L lim = some (ws.map (run st2 s2), next) := by
  have := explore_sim (lim := lim) H (lim + 1) 0 [[]] [] (by intro w hw; simp at hw; subst hw; intro a ha; simp at ha)
  exact this

/-! ### how many -/
theorem length_le_of_inj {α β : Type} [DecidableEq β] {l : List α} {m : List β} (f : α → β) (hn : l.Nodup) (hf : ∀ a ∈ l, f a ∈ m) (hi : ∀ a ∈ l, ∀ b ∈ l, f a = f b → a = b) : l.length ≤ m.length := by
  induction l generalizing m with
  | nil => simp
  | cons a l ih =>
    rw [List.nodup_cons] at hn
    have ha := hf a (by simp)
    have := ih (m := m.erase (f a)) hn.2 (by
      intro b hb
      refine (List.mem_erase_of_ne ?_).2 (hf b (List.mem_cons_of_mem _ hb))
      intro e
      have := hi b (List.mem_cons_of_mem _ hb) a (by simp) e
      subst this; exact hn.1 hb) (fun x hx y hy => hi x (List.mem_cons_of_mem _ hx) y (List.mem_cons_of_mem _ hy))
    rw [List.length_erase_of_mem ha] at this
    have hpos : 0 < m.length := List.length_pos_of_mem ha
    simp; omega

open Classical in
/-- fewer states, if words that differ here differ there -/
theorem explored_le {st1 st2 : Nat → Int → Nat} {s1 s2 lim L1 L2 : Nat} {ks1 ks2 n1 n2} (h1 : Explored st1 s1 L1 lim ks1 n1) (h2 : Explored st2 s2 L2 lim ks2 n2)
    (φ : List Int → List Int) (hφ : ∀ w, Wrd L1 w → Wrd L2 (φ w)) (H : ∀ w v, Wrd L1 w → Wrd L1 v → run st2 s2 (φ w) = run st2 s2 (φ v) → run st1 s1 w = run st1 s1 v) :
    ks1.length ≤ ks2.length := by
  refine length_le_of_inj (fun k => if h : ∃ w, Wrd L1 w ∧ run st1 s1 w = k then run st2 s2 (φ h.choose) else 0) h1.nodup ?_ ?_
  · intro k hk
    have h := h1.reach k hk
    simp only [h, dif_pos]
    obtain ⟨hw, _⟩ := h.choose_spec
    obtain ⟨a, b, c⟩ := h2.goes_ok _ (hφ _ hw)
    rw [← c, List.getD, List.getElem?_eq_getElem (by omega)]
    exact List.getElem_mem _
  · intro k hk k' hk' e
    have h := h1.reach k hk
    have h' := h1.reach k' hk'
    simp only [h, h', dif_pos] at e
    have := H _ _ h.choose_spec.1 h'.choose_spec.1 e
    rw [h.choose_spec.2, h'.choose_spec.2] at this
    exact this

end Stile
/- plain: the automaton of a formula. -/
namespace Stile

def packN : List Bool → Nat
  | [] => 0
  | b :: v => b.toNat + 2 * packN v
def unpackN (s n : Nat) : List Bool := (List.range n).map s.testBit

theorem testBit_packN (v : List Bool) (i : Nat) : (packN v).testBit i = v.getD i false := by
  induction v generalizing i with
  | nil => simp [packN, List.getD]
  | cons b v ih =>
    cases i with
    | zero => cases b <;> simp [packN, Nat.testBit_zero] <;> omega
    | succ i =>
      rw [Nat.testBit_succ, packN]
      have : (b.toNat + 2 * packN v) / 2 = packN v := by cases b <;> simp <;> omega
      rw [this, ih]; simp [List.getD]

theorem unpack_pack (v : List Bool) : unpackN (packN v) v.length = v := by
  apply List.ext_getElem
  · simp [unpackN]
  · intro i h1 h2
    simp [unpackN, testBit_packN, List.getD, h2]

theorem pack_inj {v w : List Bool} (hl : v.length = w.length) (h : packN v = packN w) : v = w := by
  rw [← unpack_pack v, ← unpack_pack w, h, hl]

theorem packN_lt (v : List Bool) : packN v < 2 ^ v.length := by
  induction v with
  | nil => simp [packN]
  | cons b v ih => simp [packN, Nat.pow_succ]; cases b <;> simp <;> omega

structure Mv where
  f : Int
  l : Int
  t : Int
  deriving DecidableEq, Repr, Inhabited

structure Da where
  letters : Int
  start : Int
  next : List (List Int)
  final : List Bool
  deriving DecidableEq, Repr, Inhabited

structure Na where
  letters : Int
  states : Int
  starts : List Int
  moves : List Mv
  final : List Int
  deriving DecidableEq, Repr, Inhabited

def setN (l : List Int) : Nat := l.foldl (fun o s => o ||| (1 <<< s.toNat)) 0
def stepN (mv : List Mv) (S : Nat) (a : Int) : Nat :=
  mv.foldl (fun t m => if m.l = a ∧ S.testBit m.f.toNat = true then t ||| (1 <<< m.t.toNat) else t) 0

def backStep (f : List Nd) (v : Nat) (a : Int) : Nat := packN (aheadL f (unpackN v f.length) a)
def backP (L : Nat) (f : List Nd) : Option Da :=
  (explored (backStep f) (packN (endL f)) L 40).map fun r =>
    { letters := L, start := 0, next := r.2, final := r.1.map fun v => v.testBit (f.length - 1) }

def rowMoves (s : Int) : Int → List Int → List Mv
  | _, [] => []
  | a, t :: row => ⟨s, a, t⟩ :: rowMoves s (a + 1) row
def nextMoves : Int → List (List Int) → List Mv
  | _, [] => []
  | s, row :: next => rowMoves s 0 row ++ nextMoves (s + 1) next
def finals : Int → List Bool → List Int
  | _, [] => []
  | s, b :: l => (if b then [s] else []) ++ finals (s + 1) l
def nfaOf (d : Da) : Na := { letters := d.letters, states := d.next.length, starts := [d.start], moves := nextMoves 0 d.next, final := finals 0 d.final }
def Mv.turn (m : Mv) : Mv := ⟨m.t, m.l, m.f⟩
def nfaMirror (n : Na) : Na := { letters := n.letters, states := n.states, starts := n.final, moves := n.moves.map Mv.turn, final := n.starts }
def nfaMake (n : Na) : Option Da :=
  (explored (stepN n.moves) (setN n.starts) n.letters.toNat 40).map fun r =>
    { letters := n.letters, start := 0, next := r.2, final := r.1.map fun s => decide (s &&& setN n.final ≠ 0) }
def makeP (L : Nat) (f : List Nd) : Option Da := (backP L f).bind fun d => nfaMake (nfaMirror (nfaOf d))

/-! ### bits -/
theorem testBit_setN (l : List Int) (q : Nat) : (setN l).testBit q = true ↔ ∃ s ∈ l, s.toNat = q := by
  have : ∀ (l : List Int) (o : Nat), (l.foldl (fun o s => o ||| (1 <<< s.toNat)) o).testBit q = true ↔ o.testBit q = true ∨ ∃ s ∈ l, s.toNat = q := by
    intro l
    induction l with
    | nil => intro o; simp
    | cons s l ih =>
      intro o
      rw [List.foldl_cons, ih]
      simp [Nat.testBit_or, Nat.testBit_shiftLeft, Nat.testBit_one_eq_true_iff_self_eq_zero]
      constructor
      · rintro ((h | ⟨h1, h2⟩) | h)
        · exact .inl h
        · exact .inr (.inl (by omega))
        · exact .inr (.inr h)
      · rintro (h | h | h)
        · exact .inl (.inl h)
        · exact .inl (.inr (by omega))
        · exact .inr h
  have := this l 0
  simpa [setN] using this

theorem testBit_stepN (mv : List Mv) (S : Nat) (a : Int) (q : Nat) : (stepN mv S a).testBit q = true ↔ ∃ m ∈ mv, m.l = a ∧ S.testBit m.f.toNat = true ∧ m.t.toNat = q := by
  have : ∀ (mv : List Mv) (o : Nat), (mv.foldl (fun t m => if m.l = a ∧ S.testBit m.f.toNat = true then t ||| (1 <<< m.t.toNat) else t) o).testBit q = true ↔
      o.testBit q = true ∨ ∃ m ∈ mv, m.l = a ∧ S.testBit m.f.toNat = true ∧ m.t.toNat = q := by
    intro l
    induction l with
    | nil => intro o; simp
    | cons s l ih =>
      intro o
      rw [List.foldl_cons, ih]
      by_cases hc : s.l = a ∧ S.testBit s.f.toNat = true
      · rw [if_pos hc]
        simp [Nat.testBit_or, Nat.testBit_shiftLeft, Nat.testBit_one_eq_true_iff_self_eq_zero, hc]
        constructor
        · rintro ((h | ⟨h1, h2⟩) | h)
          · exact .inl h
          · exact .inr (.inl (by omega))
          · exact .inr (.inr h)
        · rintro (h | h | h)
          · exact .inl (.inl h)
          · exact .inl (.inr (by omega))
          · exact .inr h
      · rw [if_neg hc]
        constructor
        · rintro (h | ⟨m, h1, h2⟩)
          · exact .inl h
          · exact .inr ⟨m, List.mem_cons_of_mem _ h1, h2⟩
        · rintro (h | ⟨m, h1, h2⟩)
          · exact .inl h
          · rcases List.mem_cons.1 h1 with rfl | h1
            · exact absurd ⟨h2.1, h2.2.1⟩ hc
            · exact .inr ⟨m, h1, h2⟩
  have := this mv 0
  simpa [stepN] using this

theorem mem_rowMoves {s : Int} {row : List Int} {a : Int} {m : Mv} : m ∈ rowMoves s a row ↔ m.f = s ∧ a ≤ m.l ∧ row[(m.l - a).toNat]? = some m.t := by
  induction row generalizing a with
  | nil => simp [rowMoves]
  | cons t row ih =>
    rw [rowMoves, List.mem_cons, ih]
    constructor
    · rintro (rfl | ⟨h1, h2, h3⟩)
      · simp
      · refine ⟨h1, by omega, ?_⟩
        rw [show (m.l - a).toNat = (m.l - (a + 1)).toNat + 1 from by omega]
        simpa using h3
    · rintro ⟨h1, h2, h3⟩
      by_cases e : m.l = a
      · left
        simp [e] at h3
        cases m; simp_all
      · right
        refine ⟨h1, by omega, ?_⟩
        rw [show (m.l - a).toNat = (m.l - (a + 1)).toNat + 1 from by omega] at h3
        simpa using h3

theorem mem_nextMoves {s : Int} {next : List (List Int)} {m : Mv} : m ∈ nextMoves s next ↔ s ≤ m.f ∧ 0 ≤ m.l ∧ ∃ row, next[(m.f - s).toNat]? = some row ∧ row[m.l.toNat]? = some m.t := by
  induction next generalizing s with
  | nil => simp [nextMoves]
  | cons r next ih =>
    rw [nextMoves, List.mem_append, ih, mem_rowMoves]
    constructor
    · rintro (⟨h1, h2, h3⟩ | ⟨h1, h2, row, h3, h4⟩)
      · refine ⟨by omega, h2, r, ?_, by simpa using h3⟩
        simp [h1]
      · refine ⟨by omega, h2, row, ?_, h4⟩
        rw [show (m.f - s).toNat = (m.f - (s + 1)).toNat + 1 from by omega]
        simpa using h3
    · rintro ⟨h1, h2, row, h3, h4⟩
      by_cases e : m.f = s
      · left
        simp [e] at h3
        subst h3
        exact ⟨e, h2, by simpa using h4⟩
      · right
        refine ⟨by omega, h2, row, ?_, h4⟩
        rw [show (m.f - s).toNat = (m.f - (s + 1)).toNat + 1 from by omega] at h3
        simpa using h3

theorem mem_finals {s : Int} {l : List Bool} {q : Int} : q ∈ finals s l ↔ s ≤ q ∧ l.getD (q - s).toNat false = true := by
  induction l generalizing s with
  | nil => simp [finals, List.getD]
  | cons b l ih =>
    rw [finals, List.mem_append, ih]
    constructor
    · rintro (h | ⟨h1, h2⟩)
      · cases b <;> simp at h
        subst h; simp [List.getD]
      · refine ⟨by omega, ?_⟩
        rw [show (q - s).toNat = (q - (s + 1)).toNat + 1 from by omega]
        simpa [List.getD] using h2
    · rintro ⟨h1, h2⟩
      by_cases e : q = s
      · subst e
        simp [List.getD] at h2
        subst h2; simp
      · right
        refine ⟨by omega, ?_⟩
        rw [show (q - s).toNat = (q - (s + 1)).toNat + 1 from by omega] at h2
        simpa [List.getD] using h2

/-! ### back: its states are the values of all nodes -/
theorem run_back (f : List Nd) (u : List Int) : run (backStep f) (packN (endL f)) u = packN (valsL f u.reverse) := by
  induction u using snoc_ind with
  | h0 => rfl
  | h1 u a ih =>
    rw [run_snoc, ih, backStep]
    simp only [List.reverse_append, List.reverse_cons, List.reverse_nil, List.nil_append, List.singleton_append]
    have : unpackN (packN (valsL f u.reverse)) f.length = valsL f u.reverse := by
      have := unpack_pack (valsL f u.reverse)
      rwa [valsL_len] at this
    rw [this]; rfl

theorem Wrd.rev {L w} (h : Wrd L w) : Wrd L w.reverse := fun a ha => h a (List.mem_reverse.1 ha)

/-- what is known of Back's automaton -/
structure BackOk (L : Nat) (f : List Nd) (d : Da) : Prop where
  letters : d.letters = L
  start : d.start = 0
  lenF : d.final.length = d.next.length
  pos : 0 < d.next.length
  le : d.next.length ≤ 40
  rowlen : ∀ row ∈ d.next, row.length = L
  rowin : ∀ row ∈ d.next, ∀ s ∈ row, 0 ≤ s ∧ s < d.next.length
  /-- every state is that of a word, and final as its value is -/
  reach : ∀ q : Nat, q < d.next.length → ∃ u, Wrd L u ∧ goes d.next 0 u.reverse = q
  fin : ∀ u, Wrd L u → 0 ≤ goes d.next 0 u.reverse ∧ goes d.next 0 u.reverse < d.next.length ∧ d.final.getD (goes d.next 0 u.reverse).toNat false = holds f u

theorem explored_rows {st : Nat → Int → Nat} {s L lim ks next} (h : Explored st s L lim ks next) :
    (∀ row ∈ next, row.length = L) ∧ (∀ row ∈ next, ∀ s ∈ row, 0 ≤ s ∧ s < next.length) := by
  constructor
  · intro row hr
    obtain ⟨i, hi, rfl⟩ := List.mem_iff_getElem.1 hr
    exact (h.rows i hi).1
  · intro row hr s hs
    obtain ⟨i, hi, rfl⟩ := List.mem_iff_getElem.1 hr
    obtain ⟨j, hj, rfl⟩ := List.mem_iff_getElem.1 hs
    obtain ⟨h0, h1⟩ := (h.rows i hi).2 j hj
    have : (next[i][j]).toNat < ks.length := by
      rcases Nat.lt_or_ge (next[i][j]).toNat ks.length with h | h
      · exact h
      · rw [List.getElem?_eq_none h] at h1; cases h1
    have := h.len
    omega

theorem backP_ok {L : Nat} {f : List Nd} {d : Da} (_ : f ≠ []) (h : backP L f = some d) : BackOk L f d := by
  unfold backP at h
  rcases he : explored (backStep f) (packN (endL f)) L 40 with _ | ⟨ks, next⟩
  · rw [he] at h; cases h
  rw [he] at h
  simp at h
  subst h
  have hx := explored_spec (by omega) he
  have hlen := hx.len
  have hle := hx.lenle
  have hpos := hx.pos
  refine ⟨rfl, rfl, by simp [hlen], by simp only []; omega, by simp only []; omega, (explored_rows hx).1, (explored_rows hx).2, ?_, ?_⟩
  · intro q hq
    simp only [] at hq ⊢
    obtain ⟨w, hw, e⟩ := hx.reach (ks.getD q 0) (by rw [List.getD, List.getElem?_eq_getElem (by omega)]; exact List.getElem_mem _)
    obtain ⟨a, b, c⟩ := hx.goes_ok w hw
    refine ⟨w.reverse, hw.rev, ?_⟩
    rw [List.reverse_reverse]
    have := nodup_getD_inj hx.nodup (i := (goes next 0 w).toNat) (j := q) (by omega) (by omega) (by rw [c, e])
    omega
  · intro u hu
    simp only []
    obtain ⟨a, b, c⟩ := hx.goes_ok u.reverse hu.rev
    refine ⟨a, by omega, ?_⟩
    rw [run_back, List.reverse_reverse] at c
    have hi : (goes next 0 u.reverse).toNat < ks.length := by omega
    rw [List.getD, List.getElem?_map, List.getElem?_eq_getElem hi]
    rw [List.getD, List.getElem?_eq_getElem hi] at c
    simp at c ⊢
    rw [c, testBit_packN, holds, lastB, valsL_len]

theorem goes_snoc (next s w a) : goes next s (w ++ [a]) = go1 next (goes next s w) a := by simp [goes, List.foldl_append]
theorem goes_append (next s v w) : goes next s (v ++ w) = goes next (goes next s v) w := by simp [goes, List.foldl_append]

/-- the automaton's sets, read from the front: which states of Back lead to a final one -/
theorem run_make {L : Nat} {f : List Nd} {d : Da} (h : BackOk L f d) : ∀ (w : List Int), Wrd L w → ∀ u, Wrd L u →
    (run (stepN (nfaMirror (nfaOf d)).moves) (setN (nfaMirror (nfaOf d)).starts) w).testBit (goes d.next 0 u.reverse).toNat = holds f (w ++ u) := by
  intro w
  induction w using snoc_ind with
  | h0 =>
    intro _ u hu
    obtain ⟨a, b, c⟩ := h.fin u hu
    rw [List.nil_append, ← c, Bool.eq_iff_iff]
    show (setN (finals 0 d.final)).testBit _ = true ↔ _
    rw [testBit_setN]
    constructor
    · rintro ⟨s, hs, e⟩
      rw [mem_finals] at hs
      rw [show (goes d.next 0 u.reverse).toNat = (s - 0).toNat from by omega]
      exact hs.2
    · intro hh
      exact ⟨goes d.next 0 u.reverse, mem_finals.2 ⟨a, by simpa using hh⟩, rfl⟩
  | h1 w a ih =>
    intro hw u hu
    have hw' : Wrd L w := fun b hb => hw b (List.mem_append_left _ hb)
    have ha : Ltr L a := hw a (by simp)
    have hau : Wrd L (a :: u) := by
      intro b hb; rcases List.mem_cons.1 hb with rfl | hb
      · exact ha
      · exact hu b hb
    have := ih hw' (a :: u) hau
    rw [List.append_assoc, List.singleton_append, ← this, run_snoc, Bool.eq_iff_iff, testBit_stepN]
    obtain ⟨p1, p2, p3⟩ := h.fin u hu
    obtain ⟨q1, q2, q3⟩ := h.fin (a :: u) hau
    simp only [List.reverse_cons, goes_snoc] at q1 q2 ⊢
    generalize goes d.next 0 u.reverse = p at *
    have hp : p.toNat < d.next.length := by omega
    have hrow := h.rowlen _ (List.getElem_mem hp)
    have hal : a.toNat < d.next[p.toNat].length := by have := ha.1; have := ha.2; omega
    have hg : go1 d.next p a = d.next[p.toNat][a.toNat] := by
      unfold go1
      rw [List.getD, List.getD, List.getElem?_eq_getElem hp]
      simp [List.getElem?_eq_getElem hal]
    constructor
    · rintro ⟨m, hm, h1, h2, h3⟩
      simp only [nfaMirror, nfaOf, List.mem_map] at hm
      obtain ⟨m', hm', rfl⟩ := hm
      rw [mem_nextMoves] at hm'
      obtain ⟨r1, r2, row, r3, r4⟩ := hm'
      simp only [Mv.turn] at h1 h2 h3
      subst h1
      have e : p.toNat = (m'.f - 0).toNat := by omega
      rw [← e, List.getElem?_eq_getElem hp] at r3
      simp at r3; subst r3
      rw [List.getElem?_eq_getElem hal] at r4
      simp at r4
      rw [hg, r4]; exact h2
    · intro h2
      refine ⟨⟨go1 d.next p a, a, p⟩, ?_, rfl, h2, rfl⟩
      simp only [nfaMirror, nfaOf, List.mem_map]
      refine ⟨⟨p, a, go1 d.next p a⟩, mem_nextMoves.2 ⟨p1, ha.1, d.next[p.toNat], ?_, ?_⟩, rfl⟩
      · simp [List.getElem?_eq_getElem hp]
      · rw [hg]; exact List.getElem?_eq_getElem hal

/-- no bit beyond the states -/
theorem run_make_high {L : Nat} {f : List Nd} {d : Da} (h : BackOk L f d) (w : List Int) (q : Nat) (hq : d.next.length ≤ q) :
    (run (stepN (nfaMirror (nfaOf d)).moves) (setN (nfaMirror (nfaOf d)).starts) w).testBit q = false := by
  induction w using snoc_ind with
  | h0 =>
    rw [Bool.eq_false_iff]
    show ¬ (setN (finals 0 d.final)).testBit _ = true
    rw [testBit_setN]
    rintro ⟨s, hs, e⟩
    rw [mem_finals] at hs
    have := h.lenF
    rw [List.getD, List.getElem?_eq_none (by omega)] at hs
    simp at hs
  | h1 w a ih =>
    rw [Bool.eq_false_iff, run_snoc]
    intro hh
    rw [testBit_stepN] at hh
    obtain ⟨m, hm, h1, h2, h3⟩ := hh
    simp only [nfaMirror, nfaOf, List.mem_map] at hm
    obtain ⟨m', hm', rfl⟩ := hm
    rw [mem_nextMoves] at hm'
    obtain ⟨r1, r2, row, r3, r4⟩ := hm'
    simp only [Mv.turn] at h3
    rw [show (m'.f - 0).toNat = q from by omega, List.getElem?_eq_none hq] at r3
    cases r3

/-- two words lead to one set exactly if they have the same words behind them -/
theorem run_make_eq {L : Nat} {f : List Nd} {d : Da} (h : BackOk L f d) {w v : List Int} (hw : Wrd L w) (hv : Wrd L v) :
    run (stepN (nfaMirror (nfaOf d)).moves) (setN (nfaMirror (nfaOf d)).starts) w = run (stepN (nfaMirror (nfaOf d)).moves) (setN (nfaMirror (nfaOf d)).starts) v ↔
      ∀ u, Wrd L u → holds f (w ++ u) = holds f (v ++ u) := by
  constructor
  · intro e u hu
    rw [← run_make h w hw u hu, ← run_make h v hv u hu, e]
  · intro e
    apply Nat.eq_of_testBit_eq
    intro q
    by_cases hq : q < d.next.length
    · obtain ⟨u, hu, rfl⟩ : ∃ u, Wrd L u ∧ (goes d.next 0 u.reverse).toNat = q := by
        obtain ⟨u, hu, e⟩ := h.reach q hq
        exact ⟨u, hu, by omega⟩
      rw [run_make h w hw u hu, run_make h v hv u hu, e u hu]
    · rw [run_make_high h w q (by omega), run_make_high h v q (by omega)]

/-- what is known of Make's automaton -/
structure MakeOk (L : Nat) (f : List Nd) (d : Da) : Prop where
  letters : d.letters = L
  start : d.start = 0
  lenF : d.final.length = d.next.length
  pos : 0 < d.next.length
  le : d.next.length ≤ 40
  rowlen : ∀ row ∈ d.next, row.length = L
  rowin : ∀ row ∈ d.next, ∀ s ∈ row, 0 ≤ s ∧ s < d.next.length
  acc : ∀ w, Wrd L w → 0 ≤ goes d.next 0 w ∧ goes d.next 0 w < d.next.length ∧ d.final.getD (goes d.next 0 w).toNat false = holds f w

theorem goes_nil (next s) : goes next s [] = s := rfl

theorem final_bit {L : Nat} {f : List Nd} {d : Da} (h : BackOk L f d) {w} (hw : Wrd L w) :
    decide (run (stepN (nfaMirror (nfaOf d)).moves) (setN (nfaMirror (nfaOf d)).starts) w &&& setN (nfaMirror (nfaOf d)).final ≠ 0) = holds f w := by
  have h1 : setN (nfaMirror (nfaOf d)).final = 1 := by simp [nfaMirror, nfaOf, setN, h.start]
  have h2 := run_make h w hw [] (by intro a ha; simp at ha)
  rw [List.append_nil] at h2
  simp only [List.reverse_nil, goes_nil] at h2
  rw [h1, ← h2]
  generalize run (stepN (nfaMirror (nfaOf d)).moves) (setN (nfaMirror (nfaOf d)).starts) w = x
  rw [Nat.and_one_is_mod]
  simp [Nat.testBit_zero]

theorem makeP_ok {L : Nat} {f : List Nd} {d : Da} (hf : f ≠ []) (h : makeP L f = some d) : MakeOk L f d := by
  unfold makeP at h
  rcases hb : backP L f with _ | b
  · rw [hb] at h; cases h
  rw [hb] at h
  simp only [Option.bind_some] at h
  have hB := backP_ok hf hb
  unfold nfaMake at h
  have hL : (nfaMirror (nfaOf b)).letters.toNat = L := by simp [nfaMirror, nfaOf, hB.letters]
  rw [hL] at h
  rcases he : explored (stepN (nfaMirror (nfaOf b)).moves) (setN (nfaMirror (nfaOf b)).starts) L 40 with _ | ⟨ks, next⟩
  · rw [he] at h; cases h
  rw [he] at h
  simp at h
  subst h
  have hx := explored_spec (by omega) he
  have hlen := hx.len
  have hle := hx.lenle
  have hpos := hx.pos
  refine ⟨by simp [nfaMirror, nfaOf, hB.letters], rfl, by simp [hlen], by simp only []; omega, by simp only []; omega, (explored_rows hx).1, (explored_rows hx).2, ?_⟩
  intro w hw
  simp only []
  obtain ⟨a, b', c⟩ := hx.goes_ok w hw
  refine ⟨a, by omega, ?_⟩
  have hi : (goes next 0 w).toNat < ks.length := by omega
  rw [List.getD, List.getElem?_map, List.getElem?_eq_getElem hi]
  rw [List.getD, List.getElem?_eq_getElem hi] at c
  rw [Option.getD_some] at c
  simp only [Option.map_some, Option.getD_some, c]
  have := final_bit hB hw
  simpa using this

/-- formulas that hold of the same words have one automaton -/
theorem makeP_same {L : Nat} {f g : List Nd} {d e : Da} (hf : f ≠ []) (hg : g ≠ []) (H : ∀ w, Wrd L w → holds f w = holds g w)
    (h1 : makeP L f = some d) (h2 : makeP L g = some e) : d = e := by
  unfold makeP at h1 h2
  rcases hb1 : backP L f with _ | b1
  · rw [hb1] at h1; cases h1
  rcases hb2 : backP L g with _ | b2
  · rw [hb2] at h2; cases h2
  rw [hb1] at h1
  rw [hb2] at h2
  simp only [Option.bind_some] at h1 h2
  have hB1 := backP_ok hf hb1
  have hB2 := backP_ok hg hb2
  unfold nfaMake at h1 h2
  have hL1 : (nfaMirror (nfaOf b1)).letters.toNat = L := by simp [nfaMirror, nfaOf, hB1.letters]
  have hL2 : (nfaMirror (nfaOf b2)).letters.toNat = L := by simp [nfaMirror, nfaOf, hB2.letters]
  rw [hL1] at h1
  rw [hL2] at h2
  rcases explored_sim (lim := 40) (L := L) (st1 := stepN (nfaMirror (nfaOf b1)).moves) (st2 := stepN (nfaMirror (nfaOf b2)).moves) (s1 := setN (nfaMirror (nfaOf b1)).starts) (s2 := setN (nfaMirror (nfaOf b2)).starts) (by
    intro w v hw hv
    rw [run_make_eq hB1 hw hv, run_make_eq hB2 hw hv]
    constructor
    · intro h u hu; rw [← H _ (hw.append hu), ← H _ (hv.append hu)]; exact h u hu
    · intro h u hu; rw [H _ (hw.append hu), H _ (hv.append hu)]; exact h u hu) with ⟨e1, _⟩ | ⟨ws, next, hws, e1, e2⟩
  · rw [e1] at h1; cases h1
  · rw [e1] at h1
    rw [e2] at h2
    simp only [Option.map_some, Option.some.injEq, List.map_map] at h1 h2
    subst h1; subst h2
    have e3 : (nfaMirror (nfaOf b1)).letters = (nfaMirror (nfaOf b2)).letters := by simp [nfaMirror, nfaOf, hB1.letters, hB2.letters]
    rw [e3]
    congr 1
    apply List.map_congr_left
    intro w hw
    simp only [Function.comp]
    rw [final_bit hB1 (hws w hw), final_bit hB2 (hws w hw), H w (hws w hw)]

/-- as many states at least, if words that differ here differ there -/
theorem makeP_le {L M : Nat} {f g : List Nd} {d e : Da} (hf : f ≠ []) (hg : g ≠ []) (φ : Int → Int) (hφ : ∀ a, Ltr L a → Ltr M (φ a))
    (H : ∀ w, Wrd L w → holds f w = holds g (w.map φ)) (h1 : makeP L f = some d) (h2 : makeP M g = some e) : d.next.length ≤ e.next.length := by
  unfold makeP at h1 h2
  rcases hb1 : backP L f with _ | b1
  · rw [hb1] at h1; cases h1
  rcases hb2 : backP M g with _ | b2
  · rw [hb2] at h2; cases h2
  rw [hb1] at h1
  rw [hb2] at h2
  simp only [Option.bind_some] at h1 h2
  have hB1 := backP_ok hf hb1
  have hB2 := backP_ok hg hb2
  unfold nfaMake at h1 h2
  have hL1 : (nfaMirror (nfaOf b1)).letters.toNat = L := by simp [nfaMirror, nfaOf, hB1.letters]
  have hL2 : (nfaMirror (nfaOf b2)).letters.toNat = M := by simp [nfaMirror, nfaOf, hB2.letters]
  rw [hL1] at h1
  rw [hL2] at h2
  rcases he1 : explored (stepN (nfaMirror (nfaOf b1)).moves) (setN (nfaMirror (nfaOf b1)).starts) L 40 with _ | ⟨ks1, n1⟩
  · rw [he1] at h1; cases h1
  rcases he2 : explored (stepN (nfaMirror (nfaOf b2)).moves) (setN (nfaMirror (nfaOf b2)).starts) M 40 with _ | ⟨ks2, n2⟩
  · rw [he2] at h2; cases h2
  rw [he1] at h1
  rw [he2] at h2
  simp only [Option.map_some, Option.some.injEq] at h1 h2
  subst h1; subst h2
  have hx1 := explored_spec (by omega) he1
  have hx2 := explored_spec (by omega) he2
  simp only []
  rw [hx1.len, hx2.len]
  have hw' : ∀ w, Wrd L w → Wrd M (w.map φ) := by
    intro w hw a ha
    obtain ⟨b, hb, rfl⟩ := List.mem_map.1 ha
    exact hφ b (hw b hb)
  refine explored_le hx1 hx2 (List.map φ) hw' ?_
  intro w v hw hv h
  rw [run_make_eq hB2 (hw' w hw) (hw' v hv)] at h
  rw [run_make_eq hB1 hw hv]
  intro u hu
  rw [H _ (hw.append hu), H _ (hv.append hu), List.map_append, List.map_append]
  exact h _ (hw' u hu)

end Stile
/- plain: where words lead to from a state. -/
namespace Stile
def ReachS (L : Nat) (next : List (List Int)) (s q : Nat) : Prop := ∃ w, Wrd L w ∧ goes next s w = (q : Int)
/-- the set of states that words lead to, as a number -/
noncomputable def fromN (L : Nat) (next : List (List Int)) (s : Nat) : Nat := Classical.epsilon fun S => ∀ q, S.testBit q = true ↔ ReachS L next s q
theorem from_unique {L : Nat} {next : List (List Int)} {s S : Nat} (h : ∀ q, S.testBit q = true ↔ ReachS L next s q) : fromN L next s = S := by
  have h2 : ∀ q, (fromN L next s).testBit q = true ↔ ReachS L next s q := Classical.epsilon_spec (p := fun S : Nat => ∀ q, S.testBit q = true ↔ ReachS L next s q) ⟨S, h⟩
  apply Nat.eq_of_testBit_eq
  intro i
  rw [Bool.eq_iff_iff, h2 i, h i]
theorem closed_goes {L : Nat} {next : List (List Int)} {s : Nat} {its : List Nat} (hs : s ∈ its) (hc : ∀ y ∈ its, ∀ a : Nat, a < L → ∃ z ∈ its, (next.getD y []).getD a 0 = ((z : Nat) : Int)) : ∀ w, Wrd L w → ∃ z ∈ its, goes next s w = (z : Int) := by
  intro w
  induction w using snoc_ind with
  | h0 => intro _; exact ⟨s, hs, rfl⟩
  | h1 w a ih =>
    intro hw
    obtain ⟨y, hy, e⟩ := ih (fun b hb => hw b (by simp [hb]))
    have ha := hw a (by simp)
    obtain ⟨A, rfl⟩ : ∃ A : Nat, a = A := ⟨a.toNat, by have := ha.1; omega⟩
    obtain ⟨z, hz, e2⟩ := hc y hy A (by have := ha.2; omega)
    refine ⟨z, hz, ?_⟩
    rw [goes_snoc, go1, e]
    simpa using e2
/-- the states that have been come to, and how many of them have been left -/
structure Bfs (L n : Nat) (next : List (List Int)) (s S : Nat) (its : List Nat) : Prop where
  nodup : its.Nodup
  start : s ∈ its
  lt : ∀ y ∈ its, y < n
  reach : ∀ y ∈ its, ReachS L next s y
  bits : ∀ q, S.testBit q = true ↔ q ∈ its
theorem Bfs.len {L n : Nat} {next : List (List Int)} {s S : Nat} {its : List Nat} (h : Bfs L n next s S its) : its.length ≤ n := by
  have := length_le_of_inj (m := List.range n) id h.nodup (fun a ha => by simpa using h.lt a ha) (fun a _ b _ e => e)
  simpa using this
theorem Bfs.begin (L n : Nat) (next : List (List Int)) (s : Nat) (hs : s < n) : Bfs L n next s (1 <<< s) [s] := by
  refine ⟨by simp, by simp, by simpa using hs, ?_, ?_⟩
  · intro y hy
    obtain rfl : y = s := by simpa using hy
    exact ⟨[], (fun a h => by simp at h), rfl⟩
  · intro q
    rw [Nat.one_shiftLeft, Nat.testBit_two_pow]
    simp [eq_comm]
theorem Bfs.push {L n : Nat} {next : List (List Int)} {s S : Nat} {its : List Nat} (h : Bfs L n next s S its) {x y a : Nat} (hx : x ∈ its) (ha : a < L) (hy : y < n) (e : (next.getD x []).getD a 0 = (y : Int)) (hb : S.testBit y = false) : Bfs L n next s (S ||| (1 <<< y)) (its ++ [y]) := by
  have hyn : y ∉ its := fun hm => by rw [(h.bits y).2 hm] at hb; cases hb
  refine ⟨?_, by simp [h.start], ?_, ?_, ?_⟩
  · rw [List.nodup_append]
    refine ⟨h.nodup, by simp, ?_⟩
    intro c hc b hb ecb
    obtain rfl : b = y := by simpa using hb
    exact hyn (ecb ▸ hc)
  · intro z hz
    rcases List.mem_append.1 hz with hz | hz
    · exact h.lt z hz
    · obtain rfl : z = y := by simpa using hz
      exact hy
  · intro z hz
    rcases List.mem_append.1 hz with hz | hz
    · exact h.reach z hz
    · obtain rfl : z = y := by simpa using hz
      obtain ⟨w, hw, hg⟩ := h.reach x hx
      refine ⟨w ++ [(a : Int)], ?_, ?_⟩
      · intro b hb
        rcases List.mem_append.1 hb with hb | hb
        · exact hw b hb
        · obtain rfl : b = (a : Int) := by simpa using hb
          exact ⟨by omega, by omega⟩
      · rw [goes_snoc, go1, hg]; simpa using e
  · intro q
    rw [Nat.testBit_or, Bool.or_eq_true, h.bits, Nat.one_shiftLeft, Nat.testBit_two_pow, List.mem_append]
    simp [eq_comm]
theorem Bfs.done {L n : Nat} {next : List (List Int)} {s S : Nat} {its : List Nat} (h : Bfs L n next s S its) (hc : ∀ y ∈ its, ∀ a : Nat, a < L → ∃ z ∈ its, (next.getD y []).getD a 0 = ((z : Nat) : Int)) : fromN L next s = S := by
  refine from_unique fun q => ?_
  rw [h.bits]
  constructor
  · exact h.reach q
  · rintro ⟨w, hw, e⟩
    obtain ⟨z, hz, e2⟩ := closed_goes h.start hc w hw
    have : z = q := by omega
    exact this ▸ hz
end Stile
/- plain: formulas as texts. -/
namespace Stile
def signs : List UInt8 := [116, 102, 91, 33, 38, 124, 88, 87, 85, 82]
def signB (k : Int) : UInt8 := signs.getD k.toNat 0
def digB (a : Nat) : UInt8 := UInt8.ofNat (48 + a)
def setTxt (s : Int) (n : Nat) : List UInt8 := ((List.range n).filter fun a => s.toNat.testBit a).map digB
def W.txt : W → List UInt8
  | .n0 k s => if k = 2 then 91 :: (setTxt s 6 ++ [93]) else [signB k]
  | .n1 k x => signB k :: x.txt
  | .n2 k x y => 40 :: (x.txt ++ (signB k :: (y.txt ++ [41])))
theorem setTxt_succ (s : Int) (n : Nat) : setTxt s (n + 1) = setTxt s n ++ (if s.toNat.testBit n then [digB n] else []) := by
  unfold setTxt
  rw [List.range_succ, List.filter_append, List.map_append]
  congr 1
  by_cases h : s.toNat.testBit n = true <;> simp [h]
theorem setTxt_le (s : Int) (n : Nat) : (setTxt s n).length ≤ n := by
  unfold setTxt
  rw [List.length_map]
  exact Nat.le_trans (List.length_filter_le _ _) (by simp)
end Stile
/- plain: the rule of FormTwice. -/
namespace Stile
def twRule (ahead : Bool) : W → Option W
  | .n2 k x y => if k = 8 ∧ ahead = true then some (.n2 8 (.n2 8 x y) y) else if k = 8 ∨ k = 9 then some (.n2 k x (.n2 k x y)) else none
  | _ => none
theorem until_ahead (f g : List Int → Bool) : ∀ w, untilV (untilV f g) g w = untilV f g w
  | [] => rfl
  | a :: w => by
    have ih := until_ahead f g w
    simp only [untilV, ih]
    cases g (a :: w) <;> cases f (a :: w) <;> cases untilV f g w <;> rfl
theorem until_twice (f g : List Int → Bool) : ∀ w, untilV f (untilV f g) w = untilV f g w
  | [] => rfl
  | a :: w => by
    have ih := until_twice f g w
    simp only [untilV, ih]
    cases g (a :: w) <;> cases f (a :: w) <;> cases untilV f g w <;> rfl
theorem release_twice (f g : List Int → Bool) : ∀ w, releaseV f (releaseV f g) w = releaseV f g w
  | [] => rfl
  | a :: w => by
    have ih := release_twice f g w
    simp only [releaseV, ih]
    cases g (a :: w) <;> cases f (a :: w) <;> cases releaseV f g w <;> rfl
theorem tw_spec {m : Int} {D : Int → Prop} (ahead : Bool) (t u : W) (h : t.ok futK m) (e : twRule ahead t = some u) : u.ok futK m ∧ Agree D t.sem u.sem := by
  cases t with
  | n0 k s => cases e
  | n1 k x => cases e
  | n2 k x y =>
    obtain ⟨h1, h2, h3, h4⟩ := h
    replace e : (if k = 8 ∧ ahead = true then some (W.n2 8 (.n2 8 x y) y) else if k = 8 ∨ k = 9 then some (.n2 k x (.n2 k x y)) else none) = some u := e
    split at e
    · rename_i hk
      obtain ⟨rfl, _⟩ := hk
      injection e with e
      subst e
      exact ⟨⟨h1, h2, ⟨h1, h2, h3, h4⟩, h4⟩, fun w _ => (until_ahead _ _ w).symm⟩
    · split at e
      · rename_i hk
        injection e with e
        subst e
        rcases hk with rfl | rfl
        · exact ⟨⟨h1, h2, h3, ⟨h1, h2, h3, h4⟩⟩, fun w _ => (until_twice _ _ w).symm⟩
        · exact ⟨⟨h1, h2, h3, ⟨h1, h2, h3, h4⟩⟩, fun w _ => (release_twice _ _ w).symm⟩
      · cases e
theorem tw_size (ahead : Bool) (t u : W) (e : twRule ahead t = some u) (ht : t.size ≤ 100) : u.size ≤ 1000 := by
  cases t with
  | n0 k s => cases e
  | n1 k x => cases e
  | n2 k x y =>
    replace e : (if k = 8 ∧ ahead = true then some (W.n2 8 (.n2 8 x y) y) else if k = 8 ∨ k = 9 then some (.n2 k x (.n2 k x y)) else none) = some u := e
    split at e
    · injection e with e; subst e; simp [W.size] at *; omega
    · split at e
      · injection e with e; subst e; simp [W.size] at *; omega
      · cases e
end Stile
/- plain: the rules of the laws of a formula that is changed. -/
namespace Stile
/-- what holds for each word that is not empty -/
def anyW : W := .n1 6 (.n0 0 0)
theorem any_ok (m : Int) : anyW.ok futK m := ⟨rfl, rfl, rfl, rfl, by simp, by simp⟩
theorem no_ok (m : Int) : (W.n0 1 0).ok futK m := ⟨rfl, rfl, by simp, by simp⟩
theorem yes_ok (m : Int) : (W.n0 0 0).ok futK m := ⟨rfl, rfl, by simp, by simp⟩
/-! ### FormDenied -/
def dnRule (j : Int) (t : W) : Option W :=
  some (if j = 0 then .n1 3 (.n1 3 t) else if j = 1 then .n2 4 t (.n0 0 0) else if j = 2 then .n2 4 (.n0 0 0) t else if j = 3 then .n2 5 t (.n0 1 0) else if j = 4 then .n2 5 (.n0 1 0) t else if j = 5 then .n2 4 t t else .n2 5 t t)
theorem dn_cases (j : Int) (t : W) : dnRule j t = some (.n1 3 (.n1 3 t)) ∨ dnRule j t = some (.n2 4 t (.n0 0 0)) ∨ dnRule j t = some (.n2 4 (.n0 0 0) t) ∨ dnRule j t = some (.n2 5 t (.n0 1 0)) ∨ dnRule j t = some (.n2 5 (.n0 1 0) t) ∨ dnRule j t = some (.n2 4 t t) ∨ dnRule j t = some (.n2 5 t t) := by
  unfold dnRule
  split
  · simp
  split
  · simp
  split
  · simp
  split
  · simp
  split
  · simp
  split <;> simp
theorem dn_spec {m : Int} {D : Int → Prop} (j : Int) (t u : W) (ht : t.ok futK m) (h : dnRule j t = some u) : u.ok futK m ∧ Agree D t.sem u.sem := by
  rcases dn_cases j t with e | e | e | e | e | e | e <;> rw [e] at h <;> injection h with h <;> subst h
  · exact ⟨⟨rfl, rfl, rfl, rfl, ht⟩, fun w _ => by simp [W.sem, v1]⟩
  · exact ⟨⟨rfl, rfl, ht, yes_ok m⟩, fun w _ => by simp [W.sem, v2, v0]⟩
  · exact ⟨⟨rfl, rfl, yes_ok m, ht⟩, fun w _ => by simp [W.sem, v2, v0]⟩
  · exact ⟨⟨rfl, rfl, ht, no_ok m⟩, fun w _ => by simp [W.sem, v2, v0]⟩
  · exact ⟨⟨rfl, rfl, no_ok m, ht⟩, fun w _ => by simp [W.sem, v2, v0]⟩
  · exact ⟨⟨rfl, rfl, ht, ht⟩, fun w _ => by simp [W.sem, v2]⟩
  · exact ⟨⟨rfl, rfl, ht, ht⟩, fun w _ => by simp [W.sem, v2]⟩
theorem dn_size (j : Int) (t u : W) (h : dnRule j t = some u) (ht : t.size ≤ 100) : u.size ≤ 1000 := by
  rcases dn_cases j t with e | e | e | e | e | e | e <;> rw [e] at h <;> injection h with h <;> subst h <;> simp [W.size] at * <;> omega
/-! ### FormSides -/
def othK (k : Int) : Int := if k = 4 then 5 else if k = 5 then 4 else if k = 6 then 7 else if k = 7 then 6 else if k = 8 then 9 else if k = 9 then 8 else 0
def sdRule : W → Option W
  | .n0 _ _ => none
  | .n1 k x => if othK k = 0 then none else some (.n1 3 (.n1 (othK k) (.n1 3 x)))
  | .n2 k x y => if othK k = 0 then none else some (.n1 3 (.n2 (othK k) (.n1 3 x) (.n1 3 y)))
theorem until_side (f g : List Int → Bool) : ∀ w, (!releaseV (fun w => !f w) (fun w => !g w) w) = untilV f g w
  | [] => rfl
  | a :: w => by
    have ih := until_side f g w
    simp only [untilV, releaseV, ← ih]
    cases g (a :: w) <;> cases f (a :: w) <;> simp
theorem release_side (f g : List Int → Bool) : ∀ w, (!untilV (fun w => !f w) (fun w => !g w) w) = releaseV f g w
  | [] => rfl
  | a :: w => by
    have ih := release_side f g w
    simp only [untilV, releaseV, ← ih]
    cases g (a :: w) <;> cases f (a :: w) <;> simp
theorem sd_spec {m : Int} {D : Int → Prop} (t u : W) (ht : t.ok futK m) (h : sdRule t = some u) : u.ok futK m ∧ Agree D t.sem u.sem := by
  cases t with
  | n0 k s => cases h
  | n1 k x =>
    obtain ⟨h1, h2, h3⟩ := ht
    replace h : (if othK k = 0 then none else some (W.n1 3 (.n1 (othK k) (.n1 3 x)))) = some u := h
    split at h
    · cases h
    · rename_i hk
      injection h with h
      subst h
      have hk2 : k = 6 ∨ k = 7 := by
        simp [oneK] at h2
        rcases h2 with ((rfl | rfl) | rfl) | rfl
        · exact absurd rfl hk
        · exact .inl rfl
        · exact .inr rfl
        · exact absurd rfl hk
      rcases hk2 with rfl | rfl
      · exact ⟨⟨rfl, rfl, rfl, rfl, rfl, rfl, h3⟩, fun w _ => by cases w <;> simp [W.sem, v1, othK, nextV]⟩
      · exact ⟨⟨rfl, rfl, rfl, rfl, rfl, rfl, h3⟩, fun w _ => by cases w <;> simp [W.sem, v1, othK, nextV]⟩
  | n2 k x y =>
    obtain ⟨h1, h2, h3, h4⟩ := ht
    replace h : (if othK k = 0 then none else some (W.n1 3 (.n2 (othK k) (.n1 3 x) (.n1 3 y)))) = some u := h
    split at h
    · cases h
    · rename_i hk
      injection h with h
      subst h
      have hk2 : k = 4 ∨ k = 5 ∨ k = 8 ∨ k = 9 := by
        simp [twoK] at h2
        rcases h2 with (((rfl | rfl) | rfl) | rfl) | rfl
        · simp
        · simp
        · simp
        · simp
        · exact absurd rfl hk
      rcases hk2 with rfl | rfl | rfl | rfl
      · exact ⟨⟨rfl, rfl, rfl, rfl, ⟨rfl, rfl, h3⟩, rfl, rfl, h4⟩, fun w _ => by simp [W.sem, v1, v2, othK]⟩
      · exact ⟨⟨rfl, rfl, rfl, rfl, ⟨rfl, rfl, h3⟩, rfl, rfl, h4⟩, fun w _ => by simp [W.sem, v1, v2, othK]⟩
      · exact ⟨⟨rfl, rfl, rfl, rfl, ⟨rfl, rfl, h3⟩, rfl, rfl, h4⟩, fun w _ => (until_side _ _ w).symm⟩
      · exact ⟨⟨rfl, rfl, rfl, rfl, ⟨rfl, rfl, h3⟩, rfl, rfl, h4⟩, fun w _ => (release_side _ _ w).symm⟩
theorem sd_size (t u : W) (h : sdRule t = some u) (ht : t.size ≤ 100) : u.size ≤ 1000 := by
  cases t with
  | n0 k s => cases h
  | n1 k x =>
    replace h : (if othK k = 0 then none else some (W.n1 3 (.n1 (othK k) (.n1 3 x)))) = some u := h
    split at h
    · cases h
    · injection h with h; subst h; simp [W.size] at *; omega
  | n2 k x y =>
    replace h : (if othK k = 0 then none else some (W.n1 3 (.n2 (othK k) (.n1 3 x) (.n1 3 y)))) = some u := h
    split at h
    · cases h
    · injection h with h; subst h; simp [W.size] at *; omega
/-! ### FormUnrolled -/
def urRule : W → Option W
  | .n2 k x y => if k = 8 then some (.n2 5 (.n2 4 anyW y) (.n2 4 x (.n1 6 (.n2 8 x y)))) else if k = 9 then some (.n2 4 (.n2 5 (.n1 3 anyW) y) (.n2 5 x (.n1 7 (.n2 9 x y)))) else none
  | _ => none
theorem ur_spec {m : Int} {D : Int → Prop} (t u : W) (ht : t.ok futK m) (h : urRule t = some u) : u.ok futK m ∧ Agree D t.sem u.sem := by
  cases t with
  | n0 k s => cases h
  | n1 k x => cases h
  | n2 k x y =>
    have ha := any_ok m
    obtain ⟨h1, h2, h3, h4⟩ := id ht
    replace h : (if k = 8 then some (W.n2 5 (.n2 4 anyW y) (.n2 4 x (.n1 6 (.n2 8 x y)))) else if k = 9 then some (.n2 4 (.n2 5 (.n1 3 anyW) y) (.n2 5 x (.n1 7 (.n2 9 x y)))) else none) = some u := h
    split at h
    · rename_i hk
      subst hk
      injection h with h
      subst h
      refine ⟨⟨rfl, rfl, ⟨rfl, rfl, ha, h4⟩, rfl, rfl, h3, rfl, rfl, ht⟩, fun w _ => ?_⟩
      cases w with
      | nil => simp [W.sem, anyW, v2, v1, v0, untilV, nextV]
      | cons a w => simp [W.sem, anyW, v2, v1, v0, untilV_cons, nextV]
    · split at h
      · rename_i hk
        subst hk
        injection h with h
        subst h
        refine ⟨⟨rfl, rfl, ⟨rfl, rfl, ⟨rfl, rfl, ha⟩, h4⟩, rfl, rfl, h3, rfl, rfl, ht⟩, fun w _ => ?_⟩
        cases w with
        | nil => simp [W.sem, anyW, v2, v1, v0, releaseV, nextV]
        | cons a w => simp [W.sem, anyW, v2, v1, v0, releaseV_cons, nextV]
      · cases h
theorem ur_size (t u : W) (h : urRule t = some u) (ht : t.size ≤ 100) : u.size ≤ 1000 := by
  cases t with
  | n0 k s => cases h
  | n1 k x => cases h
  | n2 k x y =>
    replace h : (if k = 8 then some (W.n2 5 (.n2 4 anyW y) (.n2 4 x (.n1 6 (.n2 8 x y)))) else if k = 9 then some (.n2 4 (.n2 5 (.n1 3 anyW) y) (.n2 5 x (.n1 7 (.n2 9 x y)))) else none) = some u := h
    split at h
    · injection h with h; subst h; simp [W.size, anyW] at *; omega
    · split at h
      · injection h with h; subst h; simp [W.size, anyW] at *; omega
      · cases h
/-! ### FormDistributed -/
/-- the parts of a node of two parts of that kind -/
def asTwo (k : Int) : W → Option (W × W)
  | .n2 j x y => if j = k then some (x, y) else none
  | _ => none
theorem asTwo_some {k : Int} {t x y : W} (h : asTwo k t = some (x, y)) : t = .n2 k x y := by
  cases t with
  | n0 j s => cases h
  | n1 j z => cases h
  | n2 j a b =>
    replace h : (if j = k then some (a, b) else none) = some (x, y) := h
    split at h
    · rename_i e; subst e; injection h with h; injection h with h1 h2; subst h1; subst h2; rfl
    · cases h
def dsTwo (k i j : Int) (a b : W) : Option W :=
  match asTwo i a with
  | some (p, q) => some (.n2 i (.n2 k p b) (.n2 k q b))
  | none => match asTwo j b with
    | some (p, q) => some (.n2 j (.n2 k a p) (.n2 k a q))
    | none => none
def dsRule : W → Option W
  | .n0 _ _ => none
  | .n1 k x => if k = 6 ∨ k = 7 then (match asTwo 4 x with
    | some (p, q) => some (.n2 4 (.n1 k p) (.n1 k q))
    | none => match asTwo 5 x with
      | some (p, q) => some (.n2 5 (.n1 k p) (.n1 k q))
      | none => none) else none
  | .n2 k a b => if k = 8 then dsTwo 8 4 5 a b else if k = 9 then dsTwo 9 5 4 a b else none
theorem next_and (e : Bool) (f g : List Int → Bool) : ∀ w, nextV e (fun w => f w && g w) w = (nextV e f w && nextV e g w)
  | [] => by cases e <;> rfl
  | _ :: _ => rfl
theorem next_or (e : Bool) (f g : List Int → Bool) : ∀ w, nextV e (fun w => f w || g w) w = (nextV e f w || nextV e g w)
  | [] => by cases e <;> rfl
  | _ :: _ => rfl
theorem until_and (f g h : List Int → Bool) : ∀ w, untilV (fun w => f w && g w) h w = (untilV f h w && untilV g h w)
  | [] => rfl
  | a :: w => by
    have ih := until_and f g h w
    simp only [untilV, ih]
    cases h (a :: w) <;> cases f (a :: w) <;> cases g (a :: w) <;> simp
theorem until_or (f g h : List Int → Bool) : ∀ w, untilV f (fun w => g w || h w) w = (untilV f g w || untilV f h w)
  | [] => rfl
  | a :: w => by
    have ih := until_or f g h w
    simp only [untilV, ih]
    cases h (a :: w) <;> cases f (a :: w) <;> cases g (a :: w) <;> simp
theorem release_or (f g h : List Int → Bool) : ∀ w, releaseV (fun w => f w || g w) h w = (releaseV f h w || releaseV g h w)
  | [] => rfl
  | a :: w => by
    have ih := release_or f g h w
    simp only [releaseV, ih]
    cases h (a :: w) <;> cases f (a :: w) <;> cases g (a :: w) <;> simp
theorem release_and (f g h : List Int → Bool) : ∀ w, releaseV f (fun w => g w && h w) w = (releaseV f g w && releaseV f h w)
  | [] => rfl
  | a :: w => by
    have ih := release_and f g h w
    simp only [releaseV, ih]
    cases h (a :: w) <;> cases f (a :: w) <;> cases g (a :: w) <;> simp
theorem dsTwo_cases {k i j : Int} {a b u : W} (h : dsTwo k i j a b = some u) : (∃ p q, a = .n2 i p q ∧ u = .n2 i (.n2 k p b) (.n2 k q b)) ∨ (∃ p q, b = .n2 j p q ∧ u = .n2 j (.n2 k a p) (.n2 k a q)) := by
  unfold dsTwo at h
  split at h
  · rename_i p q e
    injection h with h
    exact .inl ⟨p, q, asTwo_some e, h.symm⟩
  · split at h
    · rename_i p q e
      injection h with h
      exact .inr ⟨p, q, asTwo_some e, h.symm⟩
    · cases h
theorem dsOne_cases {k : Int} {x u : W} (h : dsRule (.n1 k x) = some u) : (k = 6 ∨ k = 7) ∧ ∃ j p q, (j = 4 ∨ j = 5) ∧ x = .n2 j p q ∧ u = .n2 j (.n1 k p) (.n1 k q) := by
  replace h : (if k = 6 ∨ k = 7 then (match asTwo 4 x with
    | some (p, q) => some (W.n2 4 (.n1 k p) (.n1 k q))
    | none => match asTwo 5 x with
      | some (p, q) => some (.n2 5 (.n1 k p) (.n1 k q))
      | none => none) else none) = some u := h
  split at h
  · rename_i hk
    refine ⟨hk, ?_⟩
    split at h
    · rename_i p q e
      injection h with h
      exact ⟨4, p, q, .inl rfl, asTwo_some e, h.symm⟩
    · split at h
      · rename_i p q e
        injection h with h
        exact ⟨5, p, q, .inr rfl, asTwo_some e, h.symm⟩
      · cases h
  · cases h
theorem ds_spec {m : Int} {D : Int → Prop} (t u : W) (ht : t.ok futK m) (h : dsRule t = some u) : u.ok futK m ∧ Agree D t.sem u.sem := by
  cases t with
  | n0 k s => cases h
  | n1 k x =>
    obtain ⟨hk, j, p, q, hj, rfl, rfl⟩ := dsOne_cases h
    obtain ⟨h1, h2, h3, h4, h5, h6⟩ := ht
    rcases hk with rfl | rfl <;> rcases hj with rfl | rfl <;> refine ⟨⟨rfl, rfl, ⟨rfl, rfl, h5⟩, rfl, rfl, h6⟩, fun w _ => ?_⟩
    · exact next_and false _ _ w
    · exact next_or false _ _ w
    · exact next_and true _ _ w
    · exact next_or true _ _ w
  | n2 k a b =>
    replace h : (if k = 8 then dsTwo 8 4 5 a b else if k = 9 then dsTwo 9 5 4 a b else none) = some u := h
    split at h
    · rename_i hk
      subst hk
      rcases dsTwo_cases h with ⟨p, q, rfl, rfl⟩ | ⟨p, q, rfl, rfl⟩
      · obtain ⟨h1, h2, ⟨_, _, h5, h6⟩, h4⟩ := ht
        exact ⟨⟨rfl, rfl, ⟨rfl, rfl, h5, h4⟩, rfl, rfl, h6, h4⟩, fun w _ => until_and _ _ _ w⟩
      · obtain ⟨h1, h2, h3, ⟨_, _, h5, h6⟩⟩ := ht
        exact ⟨⟨rfl, rfl, ⟨rfl, rfl, h3, h5⟩, rfl, rfl, h3, h6⟩, fun w _ => until_or _ _ _ w⟩
    · split at h
      · rename_i hk
        subst hk
        rcases dsTwo_cases h with ⟨p, q, rfl, rfl⟩ | ⟨p, q, rfl, rfl⟩
        · obtain ⟨h1, h2, ⟨_, _, h5, h6⟩, h4⟩ := ht
          exact ⟨⟨rfl, rfl, ⟨rfl, rfl, h5, h4⟩, rfl, rfl, h6, h4⟩, fun w _ => release_or _ _ _ w⟩
        · obtain ⟨h1, h2, h3, ⟨_, _, h5, h6⟩⟩ := ht
          exact ⟨⟨rfl, rfl, ⟨rfl, rfl, h3, h5⟩, rfl, rfl, h3, h6⟩, fun w _ => release_and _ _ _ w⟩
      · cases h
theorem ds_size (t u : W) (h : dsRule t = some u) (ht : t.size ≤ 100) : u.size ≤ 1000 := by
  cases t with
  | n0 k s => cases h
  | n1 k x =>
    obtain ⟨hk, j, p, q, hj, rfl, rfl⟩ := dsOne_cases h
    simp [W.size] at *; omega
  | n2 k a b =>
    replace h : (if k = 8 then dsTwo 8 4 5 a b else if k = 9 then dsTwo 9 5 4 a b else none) = some u := h
    split at h
    · rcases dsTwo_cases h with ⟨p, q, rfl, rfl⟩ | ⟨p, q, rfl, rfl⟩ <;> simp [W.size] at * <;> omega
    · split at h
      · rcases dsTwo_cases h with ⟨p, q, rfl, rfl⟩ | ⟨p, q, rfl, rfl⟩ <;> simp [W.size] at * <;> omega
      · cases h
/-! ### FormCrossed -/
def crTwo (k o : Int) (a b : W) : Option W :=
  match asTwo o b with
  | some (p, q) => some (.n2 o (.n2 k a p) (.n2 k a q))
  | none => match asTwo o a with
    | some (p, q) => some (.n2 o (.n2 k p b) (.n2 k q b))
    | none => none
def crRule : W → Option W
  | .n2 k a b => if k = 4 then crTwo 4 5 a b else if k = 5 then crTwo 5 4 a b else none
  | _ => none
theorem crTwo_cases {k o : Int} {a b u : W} (h : crTwo k o a b = some u) : (∃ p q, b = .n2 o p q ∧ u = .n2 o (.n2 k a p) (.n2 k a q)) ∨ (∃ p q, a = .n2 o p q ∧ u = .n2 o (.n2 k p b) (.n2 k q b)) := by
  unfold crTwo at h
  split at h
  · rename_i p q e
    injection h with h
    exact .inl ⟨p, q, asTwo_some e, h.symm⟩
  · split at h
    · rename_i p q e
      injection h with h
      exact .inr ⟨p, q, asTwo_some e, h.symm⟩
    · cases h
theorem cr_spec {m : Int} {D : Int → Prop} (t u : W) (ht : t.ok futK m) (h : crRule t = some u) : u.ok futK m ∧ Agree D t.sem u.sem := by
  cases t with
  | n0 k s => cases h
  | n1 k x => cases h
  | n2 k a b =>
    replace h : (if k = 4 then crTwo 4 5 a b else if k = 5 then crTwo 5 4 a b else none) = some u := h
    split at h
    · rename_i hk
      subst hk
      rcases crTwo_cases h with ⟨p, q, rfl, rfl⟩ | ⟨p, q, rfl, rfl⟩
      · obtain ⟨h1, h2, h3, ⟨_, _, h5, h6⟩⟩ := ht
        refine ⟨⟨rfl, rfl, ⟨rfl, rfl, h3, h5⟩, rfl, rfl, h3, h6⟩, fun w _ => ?_⟩
        simp only [W.sem, v2]
        simp [Bool.and_or_distrib_left]
      · obtain ⟨h1, h2, ⟨_, _, h5, h6⟩, h4⟩ := ht
        refine ⟨⟨rfl, rfl, ⟨rfl, rfl, h5, h4⟩, rfl, rfl, h6, h4⟩, fun w _ => ?_⟩
        simp only [W.sem, v2]
        simp [Bool.and_or_distrib_right]
    · split at h
      · rename_i hk
        subst hk
        rcases crTwo_cases h with ⟨p, q, rfl, rfl⟩ | ⟨p, q, rfl, rfl⟩
        · obtain ⟨h1, h2, h3, ⟨_, _, h5, h6⟩⟩ := ht
          refine ⟨⟨rfl, rfl, ⟨rfl, rfl, h3, h5⟩, rfl, rfl, h3, h6⟩, fun w _ => ?_⟩
          simp only [W.sem, v2]
          simp [Bool.or_and_distrib_left]
        · obtain ⟨h1, h2, ⟨_, _, h5, h6⟩, h4⟩ := ht
          refine ⟨⟨rfl, rfl, ⟨rfl, rfl, h5, h4⟩, rfl, rfl, h6, h4⟩, fun w _ => ?_⟩
          simp only [W.sem, v2]
          simp [Bool.or_and_distrib_right]
      · cases h
theorem cr_size (t u : W) (h : crRule t = some u) (ht : t.size ≤ 100) : u.size ≤ 1000 := by
  cases t with
  | n0 k s => cases h
  | n1 k x => cases h
  | n2 k a b =>
    replace h : (if k = 4 then crTwo 4 5 a b else if k = 5 then crTwo 5 4 a b else none) = some u := h
    split at h
    · rcases crTwo_cases h with ⟨p, q, rfl, rfl⟩ | ⟨p, q, rfl, rfl⟩ <;> simp [W.size] at * <;> omega
    · split at h
      · rcases crTwo_cases h with ⟨p, q, rfl, rfl⟩ | ⟨p, q, rfl, rfl⟩ <;> simp [W.size] at * <;> omega
      · cases h
/-! ### FormAbsorbed -/
def abRule (both : Bool) (y t : W) : Option W := some (if both = true then .n2 4 t (.n2 5 t y) else .n2 5 t (.n2 4 t y))
theorem ab_spec {m : Int} {D : Int → Prop} (both : Bool) (y : W) (hy : y.ok futK m) (t u : W) (ht : t.ok futK m) (h : abRule both y t = some u) : u.ok futK m ∧ Agree D t.sem u.sem := by
  unfold abRule at h
  injection h with h
  subst h
  cases both
  · refine ⟨⟨rfl, rfl, ht, rfl, rfl, ht, hy⟩, fun w _ => ?_⟩
    simp [W.sem, v2]
    cases t.sem w <;> simp
  · refine ⟨⟨rfl, rfl, ht, rfl, rfl, ht, hy⟩, fun w _ => ?_⟩
    simp [W.sem, v2]
    cases t.sem w <;> simp
theorem ab_size (both : Bool) (y t u : W) (hy : y.size ≤ 100) (h : abRule both y t = some u) (ht : t.size ≤ 100) : u.size ≤ 1000 := by
  unfold abRule at h
  injection h with h
  subst h
  cases both <;> simp [W.size] at * <;> omega
/-! ### FormTurned -/
def tuTwo (group : Bool) (k : Int) (a b : W) : W :=
  if group = true then (match asTwo k a with
    | some (p, q) => .n2 k p (.n2 k q b)
    | none => match asTwo k b with
      | some (p, q) => .n2 k (.n2 k a p) q
      | none => .n2 k b a) else .n2 k b a
def tuRule (group : Bool) : W → Option W
  | .n2 k a b => if k = 4 ∨ k = 5 then some (tuTwo group k a b) else none
  | _ => none
theorem tuTwo_cases (group : Bool) (k : Int) (a b : W) : (∃ p q, a = .n2 k p q ∧ tuTwo group k a b = .n2 k p (.n2 k q b)) ∨ (∃ p q, b = .n2 k p q ∧ tuTwo group k a b = .n2 k (.n2 k a p) q) ∨ tuTwo group k a b = .n2 k b a := by
  unfold tuTwo
  split
  · split
    · rename_i p q e
      exact .inl ⟨p, q, asTwo_some e, rfl⟩
    · split
      · rename_i p q e
        exact .inr (.inl ⟨p, q, asTwo_some e, rfl⟩)
      · exact .inr (.inr rfl)
  · exact .inr (.inr rfl)
theorem tu_spec {m : Int} {D : Int → Prop} (group : Bool) (t u : W) (ht : t.ok futK m) (h : tuRule group t = some u) : u.ok futK m ∧ Agree D t.sem u.sem := by
  cases t with
  | n0 k s => cases h
  | n1 k x => cases h
  | n2 k a b =>
    replace h : (if k = 4 ∨ k = 5 then some (tuTwo group k a b) else none) = some u := h
    split at h
    · rename_i hk
      injection h with h
      subst h
      rcases tuTwo_cases group k a b with ⟨p, q, rfl, e⟩ | ⟨p, q, rfl, e⟩ | e <;> rw [e]
      · obtain ⟨h1, h2, ⟨_, _, h5, h6⟩, h4⟩ := ht
        refine ⟨⟨h1, h2, h5, h1, h2, h6, h4⟩, fun w _ => ?_⟩
        rcases hk with rfl | rfl <;> simp [W.sem, v2, Bool.and_assoc, Bool.or_assoc]
      · obtain ⟨h1, h2, h3, ⟨_, _, h5, h6⟩⟩ := ht
        refine ⟨⟨h1, h2, ⟨h1, h2, h3, h5⟩, h6⟩, fun w _ => ?_⟩
        rcases hk with rfl | rfl <;> simp [W.sem, v2, Bool.and_assoc, Bool.or_assoc]
      · obtain ⟨h1, h2, h3, h4⟩ := ht
        refine ⟨⟨h1, h2, h4, h3⟩, fun w _ => ?_⟩
        rcases hk with rfl | rfl <;> simp [W.sem, v2, Bool.and_comm, Bool.or_comm]
    · cases h
theorem tu_size (group : Bool) (t u : W) (h : tuRule group t = some u) (ht : t.size ≤ 100) : u.size ≤ 1000 := by
  cases t with
  | n0 k s => cases h
  | n1 k x => cases h
  | n2 k a b =>
    replace h : (if k = 4 ∨ k = 5 then some (tuTwo group k a b) else none) = some u := h
    split at h
    · injection h with h
      subst h
      rcases tuTwo_cases group k a b with ⟨p, q, rfl, e⟩ | ⟨p, q, rfl, e⟩ | e <;> rw [e] <;> simp [W.size] at * <;> omega
    · cases h
/-! ### FormLettersParted -/
/-- a set whose letters stand in neither more nor fewer of the two -/
def ptRule (c : Int) (f g : Int → Int) (others : Bool) : W → Option W
  | .n0 k s => if k = 2 then some (if others = true then .n2 4 anyW (.n1 3 (.n0 2 (c - s))) else .n2 5 (.n0 2 (f s)) (.n0 2 (g s))) else none
  | _ => none
theorem pt_spec {m : Int} {D : Int → Prop} (c : Int) (f g : Int → Int) (others : Bool)
    (hc : ∀ s, 0 ≤ s → s < m → 0 ≤ c - s ∧ c - s < m ∧ ∀ a, D a → bit (c - s) a = !bit s a)
    (hf : ∀ s, 0 ≤ s → s < m → (0 ≤ f s ∧ f s < m) ∧ (0 ≤ g s ∧ g s < m) ∧ ∀ a, D a → (bit (f s) a || bit (g s) a) = bit s a)
    (t u : W) (ht : t.ok futK m) (h : ptRule c f g others t = some u) : u.ok futK m ∧ Agree D t.sem u.sem := by
  cases t with
  | n1 k x => cases h
  | n2 k x y => cases h
  | n0 k s =>
    obtain ⟨h1, h2, h3, h4⟩ := ht
    replace h : (if k = 2 then some (if others = true then W.n2 4 anyW (.n1 3 (.n0 2 (c - s))) else .n2 5 (.n0 2 (f s)) (.n0 2 (g s))) else none) = some u := h
    split at h
    · rename_i hk
      subst hk
      obtain ⟨h5, h6⟩ := h3 rfl
      injection h with h
      subst h
      cases others
      · obtain ⟨q1, q2, q3⟩ := hf s h5 h6
        refine ⟨⟨rfl, rfl, ⟨rfl, rfl, fun _ => q1, by simp⟩, rfl, rfl, fun _ => q2, by simp⟩, fun w hw => ?_⟩
        cases w with
        | nil => simp [W.sem, v2, v0, isV]
        | cons a w => simp [W.sem, v2, v0, isV, q3 a (hw a (by simp))]
      · obtain ⟨q1, q2, q3⟩ := hc s h5 h6
        refine ⟨⟨rfl, rfl, any_ok m, rfl, rfl, rfl, rfl, fun _ => ⟨q1, q2⟩, by simp⟩, fun w hw => ?_⟩
        cases w with
        | nil => simp [W.sem, anyW, v2, v1, v0, isV, nextV]
        | cons a w => simp [W.sem, anyW, v2, v1, v0, isV, nextV, q3 a (hw a (by simp))]
    · cases h
theorem pt_size (c : Int) (f g : Int → Int) (others : Bool) (t u : W) (h : ptRule c f g others t = some u) (ht : t.size ≤ 100) : u.size ≤ 1000 := by
  cases t with
  | n1 k x => cases h
  | n2 k x y => cases h
  | n0 k s =>
    replace h : (if k = 2 then some (if others = true then W.n2 4 anyW (.n1 3 (.n0 2 (c - s))) else .n2 5 (.n0 2 (f s)) (.n0 2 (g s))) else none) = some u := h
    split at h
    · injection h with h
      subst h
      cases others <;> simp [W.size, anyW]
    · cases h
end Stile
