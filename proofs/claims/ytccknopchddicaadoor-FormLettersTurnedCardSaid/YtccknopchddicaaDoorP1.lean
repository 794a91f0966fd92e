/- plain: formulas as trees and as lists; what they mean. -/
namespace Stile

structure Nd where
  k : Int
  a : Int
  b : Int
  deriving DecidableEq, Repr, Inhabited

/-- a node with its parts -/
inductive W where
  | n0 (k s : Int)
  | n1 (k : Int) (x : W)
  | n2 (k : Int) (x y : W)
  deriving DecidableEq, Repr, Inhabited

/-- bit a of a set (both at least 0 where it matters) -/
def bit (s a : Int) : Bool := s.toNat.testBit a.toNat

def isV (s : Int) : List Int → Bool
  | [] => false
  | a :: _ => bit s a
def nextV (e : Bool) (f : List Int → Bool) : List Int → Bool
  | [] => e
  | _ :: w => f w
def untilV (f g : List Int → Bool) : List Int → Bool
  | [] => false
  | a :: w => g (a :: w) || (f (a :: w) && untilV f g w)
def releaseV (f g : List Int → Bool) : List Int → Bool
  | [] => true
  | a :: w => g (a :: w) && (f (a :: w) || releaseV f g w)

def v0 (k s : Int) : List Int → Bool :=
  if k = 0 then fun _ => true else if k = 2 then isV s else fun _ => false
def v1 (k : Int) (f : List Int → Bool) : List Int → Bool :=
  if k = 3 then fun w => !f w else if k = 6 ∨ k = 10 then nextV false f else if k = 7 then nextV true f else fun _ => false
def v2 (k : Int) (f g : List Int → Bool) : List Int → Bool :=
  if k = 4 then fun w => f w && g w else if k = 5 then fun w => f w || g w
  else if k = 8 ∨ k = 11 then untilV f g else if k = 9 then releaseV f g else fun _ => false

def W.sem : W → List Int → Bool
  | .n0 k s => v0 k s
  | .n1 k x => v1 k x.sem
  | .n2 k x y => v2 k x.sem y.sem

/-! ### values, node by node -/
def getB (v : List Bool) (i : Int) : Bool := v.getD i.toNat false

def stepE (v : List Bool) (x : Nd) : Bool :=
  if x.k = 0 ∨ x.k = 7 ∨ x.k = 9 then true
  else if x.k = 3 then !getB v x.a
  else if x.k = 4 then getB v x.a && getB v x.b
  else if x.k = 5 then getB v x.a || getB v x.b
  else false

def stepA (a : Int) (t v : List Bool) (x : Nd) : Bool :=
  if x.k = 0 then true
  else if x.k = 2 then bit x.a a
  else if x.k = 3 then !getB v x.a
  else if x.k = 4 then getB v x.a && getB v x.b
  else if x.k = 5 then getB v x.a || getB v x.b
  else if x.k = 6 ∨ x.k = 7 ∨ x.k = 10 then getB t x.a
  else if x.k = 8 ∨ x.k = 11 then getB v x.b || (getB v x.a && t.getD v.length false)
  else if x.k = 9 then getB v x.b && (getB v x.a || t.getD v.length false)
  else false

def endL (f : List Nd) : List Bool := f.foldl (fun v x => v ++ [stepE v x]) []
def aheadL (f : List Nd) (t : List Bool) (a : Int) : List Bool := f.foldl (fun v x => v ++ [stepA a t v x]) []
/-- the values of all nodes; the outermost letter first -/
def valsL (f : List Nd) (w : List Int) : List Bool := w.foldr (fun a t => aheadL f t a) (endL f)
def lastB (v : List Bool) : Bool := v.getD (v.length - 1) false
def holds (f : List Nd) (w : List Int) : Bool := lastB (valsL f w)

/-! ### trees of all nodes -/
def leafK (k : Int) : Bool := k == 0 || k == 1 || k == 2
def oneK (k : Int) : Bool := k == 3 || k == 6 || k == 7 || k == 10
def twoK (k : Int) : Bool := k == 4 || k == 5 || k == 8 || k == 9 || k == 11
def getW (ts : List W) (i : Int) : W := ts.getD i.toNat default
def mkW (ts : List W) (x : Nd) : W :=
  if leafK x.k then .n0 x.k (if x.k = 2 then x.a else 0)
  else if oneK x.k then .n1 x.k (getW ts x.a)
  else .n2 x.k (getW ts x.a) (getW ts x.b)
def treesL (f : List Nd) : List W := f.foldl (fun ts x => ts ++ [mkW ts x]) []
def tree (f : List Nd) : W := getW (treesL f) ((f.length : Int) - 1)

/-! ### what a formula must be -/
def okNode (ks : Int → Bool) (m i : Int) (x : Nd) : Prop :=
  ks x.k = true ∧
  (leafK x.k = true → x.b = 0 ∧ (x.k = 2 → 0 ≤ x.a ∧ x.a < m) ∧ (x.k ≠ 2 → x.a = 0)) ∧
  (oneK x.k = true → 0 ≤ x.a ∧ x.a < i ∧ x.b = 0) ∧
  (twoK x.k = true → 0 ≤ x.a ∧ x.a < i ∧ 0 ≤ x.b ∧ x.b < i)
def futK (k : Int) : Bool := decide (0 ≤ k) && decide (k ≤ 9)
def pastK (k : Int) : Bool := (decide (0 ≤ k) && decide (k ≤ 5)) || k == 10 || k == 11
def anyK (k : Int) : Bool := decide (0 ≤ k) && decide (k ≤ 11)
def okF (ks : Int → Bool) (m : Int) (f : List Nd) : Prop := ∀ i (h : i < f.length), okNode ks m i f[i]

theorem snoc_ind {α : Type} {P : List α → Prop} (h0 : P []) (h1 : ∀ l x, P l → P (l ++ [x])) : ∀ l, P l := by
  intro l
  have : ∀ r : List α, P r.reverse := by
    intro r; induction r with
    | nil => exact h0
    | cons x r ih => rw [List.reverse_cons]; exact h1 _ _ ih
  simpa using this l.reverse

theorem endL_snoc (f : List Nd) (x : Nd) : endL (f ++ [x]) = endL f ++ [stepE (endL f) x] := by
  simp [endL, List.foldl_append]
theorem aheadL_snoc (f : List Nd) (x : Nd) (t a) : aheadL (f ++ [x]) t a = aheadL f t a ++ [stepA a t (aheadL f t a) x] := by
  simp [aheadL, List.foldl_append]
theorem treesL_snoc (f : List Nd) (x : Nd) : treesL (f ++ [x]) = treesL f ++ [mkW (treesL f) x] := by
  simp [treesL, List.foldl_append]
theorem endL_len (f : List Nd) : (endL f).length = f.length := by
  induction f using snoc_ind with
  | h0 => rfl
  | h1 l x ih => rw [endL_snoc]; simp [ih]
theorem aheadL_len (f : List Nd) (t a) : (aheadL f t a).length = f.length := by
  induction f using snoc_ind with
  | h0 => rfl
  | h1 l x ih => rw [aheadL_snoc]; simp [ih]
theorem treesL_len (f : List Nd) : (treesL f).length = f.length := by
  induction f using snoc_ind with
  | h0 => rfl
  | h1 l x ih => rw [treesL_snoc]; simp [ih]
theorem valsL_len (f : List Nd) (w) : (valsL f w).length = f.length := by
  cases w with
  | nil => exact endL_len f
  | cons a w => exact aheadL_len f _ a

theorem okF_snoc {ks m} {f : List Nd} {x : Nd} (h : okF ks m (f ++ [x])) : okF ks m f ∧ okNode ks m f.length x := by
  constructor
  · intro i hi
    have := h i (by simp; omega)
    rwa [List.getElem_append_left hi] at this
  · have := h f.length (by simp)
    simpa using this

theorem getB_map (ts : List W) (w : List Int) (i : Int) (h0 : 0 ≤ i) (h : i < ts.length) :
    getB (ts.map (·.sem w)) i = (getW ts i).sem w := by
  unfold getB getW
  have hi : i.toNat < ts.length := by omega
  simp [List.getD, hi]

theorem kinds_cases {k : Int} (h : anyK k = true) : k = 0 ∨ k = 1 ∨ k = 2 ∨ k = 3 ∨ k = 4 ∨ k = 5 ∨ k = 6 ∨ k = 7 ∨ k = 8 ∨ k = 9 ∨ k = 10 ∨ k = 11 := by
  simp [anyK] at h; omega

theorem untilV_cons (f g : List Int → Bool) (a w) : untilV f g (a :: w) = (g (a :: w) || (f (a :: w) && untilV f g w)) := rfl
theorem releaseV_cons (f g : List Int → Bool) (a w) : releaseV f g (a :: w) = (g (a :: w) && (f (a :: w) || releaseV f g w)) := rfl

theorem endL_eq (m) (f : List Nd) (h : okF anyK m f) : endL f = (treesL f).map (·.sem []) := by
  induction f using snoc_ind with
  | h0 => rfl
  | h1 l x ih =>
    obtain ⟨h1, hk, ha, hb, hc⟩ := okF_snoc h
    rw [endL_snoc, treesL_snoc, List.map_append, ← ih h1]
    congr 1
    have hl := treesL_len l
    simp only [List.map_cons, List.map_nil, List.cons.injEq, and_true]
    rw [ih h1]
    rcases kinds_cases hk with e | e | e | e | e | e | e | e | e | e | e | e <;>
      simp [e, leafK, oneK, twoK] at ha hb hc <;>
      simp [stepE, mkW, e, leafK, oneK, W.sem, v0, v1, v2, isV, nextV, untilV, releaseV] <;>
      (try rw [getB_map _ _ _ (by omega) (by omega)]) <;> (try rw [getB_map _ _ _ (by omega) (by omega)])

theorem aheadL_eq (m) (g : List Nd) (w : List Int) (a : Int) (f : List Nd) (h : okF anyK m f) (r : List Nd) (hg : g = f ++ r) :
    aheadL f ((treesL g).map (·.sem w)) a = (treesL f).map (·.sem (a :: w)) := by
  induction f using snoc_ind generalizing r with
  | h0 => rfl
  | h1 l x ih =>
    obtain ⟨h1, hk, ha, hb, hc⟩ := okF_snoc h
    have ih' := ih h1 ([x] ++ r) (by simp [hg])
    rw [aheadL_snoc, treesL_snoc, List.map_append, ← ih']
    congr 1
    have hl := treesL_len l
    -- trees of g begin with those of l ++ [x]
    have pre : ∀ (p q : List Nd), ∃ s, treesL (p ++ q) = treesL p ++ s := by
      intro p q
      induction q using snoc_ind with
      | h0 => exact ⟨[], by simp⟩
      | h1 q y ihq =>
        obtain ⟨s, hs⟩ := ihq
        exact ⟨s ++ [mkW (treesL (p ++ q)) y], by rw [← List.append_assoc, treesL_snoc, hs]; simp⟩
    obtain ⟨s, hs⟩ := pre (l ++ [x]) r
    have hgt : treesL g = treesL l ++ (mkW (treesL l) x :: s) := by rw [hg, hs, treesL_snoc]; simp
    have hT : ∀ i : Int, 0 ≤ i → i < l.length → getB ((treesL g).map (·.sem w)) i = (getW (treesL l) i).sem w := by
      intro i h0 h2
      have hlen : i.toNat < (treesL l).length := by omega
      rw [getB_map _ _ _ h0 (by rw [hgt]; simp; omega)]
      unfold getW
      rw [hgt]
      simp [List.getD, List.getElem?_append_left hlen]
    have hI : ((treesL g).map (·.sem w)).getD l.length false = (mkW (treesL l) x).sem w := by
      rw [hgt]
      simp [List.getD, ← hl]
    simp only [List.map_cons, List.map_nil, List.cons.injEq, and_true]
    rw [ih']
    have hlen' : ((treesL l).map (·.sem (a :: w))).length = l.length := by simp [hl]
    rcases kinds_cases hk with e | e | e | e | e | e | e | e | e | e | e | e <;>
      simp [e, leafK, oneK, twoK] at ha hb hc <;>
      simp [e, mkW, leafK, oneK, W.sem, v2, v1] at hI <;>
      simp [stepA, mkW, e, leafK, oneK, W.sem, v0, v1, v2, isV, nextV, untilV_cons, releaseV_cons, hI, hl] <;>
      (try rw [hT _ (by omega) (by omega)]) <;>
      (try rw [getB_map _ _ _ (by omega) (by omega)]) <;> (try rw [getB_map _ _ _ (by omega) (by omega)])

theorem valsL_eq (m) (f : List Nd) (h : okF anyK m f) (w : List Int) : valsL f w = (treesL f).map (·.sem w) := by
  induction w with
  | nil => exact endL_eq m f h
  | cons a w ih =>
    show aheadL f (valsL f w) a = _
    rw [ih]
    exact aheadL_eq m f w a f h [] (by simp)

theorem holds_eq (m) (f : List Nd) (h : okF anyK m f) (hf : f ≠ []) (w : List Int) : holds f w = (tree f).sem w := by
  have hl := treesL_len f
  have hp : 0 < f.length := List.length_pos_iff.2 hf
  unfold holds lastB tree
  rw [valsL_eq m f h, ← getB_map _ _ _ (by omega) (by omega)]
  unfold getB
  congr 1
  simp [hl]

end Stile
