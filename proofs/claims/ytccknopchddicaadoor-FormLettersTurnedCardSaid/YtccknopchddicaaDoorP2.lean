import Derived.Test.YtccknopchddicaaDoorP1
/- plain: a tree as a list of nodes; a part in the place of another. -/
namespace Stile

def W.size : W → Nat
  | .n0 _ _ => 1
  | .n1 _ x => x.size + 1
  | .n2 _ x y => x.size + y.size + 1

/-- the nodes of a tree, behind n others -/
def W.flat : W → Nat → List Nd
  | .n0 k s, _ => [⟨k, s, 0⟩]
  | .n1 k x, n => x.flat n ++ [⟨k, (n : Int) + x.size - 1, 0⟩]
  | .n2 k x y, n => x.flat n ++ y.flat (n + x.size) ++ [⟨k, (n : Int) + x.size - 1, (n : Int) + x.size + y.size - 1⟩]

def W.ok (ks : Int → Bool) (m : Int) : W → Prop
  | .n0 k s => ks k = true ∧ leafK k = true ∧ (k = 2 → 0 ≤ s ∧ s < m) ∧ (k ≠ 2 → s = 0)
  | .n1 k x => ks k = true ∧ oneK k = true ∧ x.ok ks m
  | .n2 k x y => ks k = true ∧ twoK k = true ∧ x.ok ks m ∧ y.ok ks m

theorem W.size_pos (t : W) : 0 < t.size := by cases t <;> simp [W.size]
theorem W.flat_len (t : W) (n : Nat) : (t.flat n).length = t.size := by
  induction t generalizing n with
  | n0 k s => rfl
  | n1 k x ih => simp [W.flat, W.size, ih]
  | n2 k x y ih1 ih2 => simp [W.flat, W.size, ih1, ih2]; omega

theorem leaf_not_one {k : Int} (h : leafK k = true) : oneK k = false ∧ twoK k = false := by
  simp [leafK, oneK, twoK] at *; omega
theorem one_not_leaf {k : Int} (h : oneK k = true) : leafK k = false ∧ twoK k = false := by
  simp [leafK, oneK, twoK] at *; omega
theorem two_not_leaf {k : Int} (h : twoK k = true) : leafK k = false ∧ oneK k = false := by
  simp [leafK, oneK, twoK] at *; omega

theorem getW_last (l : List W) (t : W) (i : Int) (h : i = (l.length : Int)) (s : List W) : getW (l ++ t :: s) i = t := by
  subst h; simp [getW, List.getD]

theorem flat_trees (ks m) (t : W) (h : t.ok ks m) : ∀ (pre : List Nd),
    ∃ mid, treesL (pre ++ t.flat pre.length) = treesL pre ++ mid ++ [t] ∧ mid.length + 1 = t.size := by
  induction t with
  | n0 k s =>
    intro pre
    obtain ⟨_, h1, h2, h3⟩ := h
    refine ⟨[], ?_, rfl⟩
    rw [W.flat, treesL_snoc]
    simp only [mkW, h1, if_true, List.append_nil]
    by_cases hk : k = 2
    · simp [hk]
    · simp [hk, h3 hk]
  | n1 k x ih =>
    intro pre
    obtain ⟨_, h1, h2⟩ := h
    obtain ⟨mid, hm, hl⟩ := ih h2 pre
    refine ⟨mid ++ [x], ?_, by simp [W.size]; omega⟩
    rw [W.flat, ← List.append_assoc, treesL_snoc, hm]
    have := one_not_leaf h1
    simp only [mkW, this.1, h1]
    have hp := treesL_len pre
    have e : getW (treesL pre ++ mid ++ [x]) ((pre.length : Int) + x.size - 1) = x := getW_last _ _ _ (by simp [hp]; omega) []
    simp only [e]
    simp
  | n2 k x y ih1 ih2 =>
    intro pre
    obtain ⟨_, h1, h2, h3⟩ := h
    obtain ⟨mid, hm, hl⟩ := ih1 h2 pre
    obtain ⟨mid', hm', hl'⟩ := ih2 h3 (pre ++ x.flat pre.length)
    refine ⟨mid ++ [x] ++ mid' ++ [y], ?_, by simp [W.size]; omega⟩
    have hfl := W.flat_len x pre.length
    rw [List.length_append, hfl] at hm'
    rw [W.flat, ← List.append_assoc, ← List.append_assoc, treesL_snoc, hm', hm]
    have := two_not_leaf h1
    simp only [mkW, this.1, this.2]
    have hp := treesL_len pre
    have ex : getW (treesL pre ++ mid ++ [x] ++ mid' ++ [y]) ((pre.length : Int) + x.size - 1) = x := by
      have := getW_last (treesL pre ++ mid) x ((pre.length : Int) + x.size - 1) (by simp [hp]; omega) (mid' ++ [y])
      simpa using this
    have ey : getW (treesL pre ++ mid ++ [x] ++ mid' ++ [y]) ((pre.length : Int) + x.size + y.size - 1) = y :=
      getW_last _ _ _ (by simp [hp]; omega) []
    simp only [ex, ey]
    simp

theorem flat_tree (ks m) (t : W) (h : t.ok ks m) : tree (t.flat 0) = t := by
  obtain ⟨mid, hm, hl⟩ := flat_trees ks m t h []
  unfold tree
  have := W.flat_len t 0
  simp at hm
  rw [hm]
  exact getW_last _ _ _ (by simp [this]; omega) []

theorem okNode_mono {ks m} {i j : Int} {x : Nd} (h : okNode ks m i x) (hij : i ≤ j) : okNode ks m j x := by
  obtain ⟨a, b, c, d⟩ := h
  refine ⟨a, b, fun h => ?_, fun h => ?_⟩
  · have := c h; omega
  · have := d h; omega

theorem okF_append {ks m} {f g : List Nd} (hf : okF ks m f) (hg : ∀ i (h : i < g.length), okNode ks m (f.length + i) g[i]) : okF ks m (f ++ g) := by
  intro i hi
  by_cases h : i < f.length
  · rw [List.getElem_append_left h]; exact hf i h
  · rw [List.getElem_append_right (by omega)]
    have := hg (i - f.length) (by simp at hi; omega)
    exact okNode_mono this (by omega)

theorem flat_nodes (ks m) (t : W) (h : t.ok ks m) : ∀ (n : Nat), ∀ i (hi : i < (t.flat n).length), okNode ks m ((n : Int) + i) (t.flat n)[i] := by
  induction t with
  | n0 k s =>
    intro n i hi
    obtain ⟨h0, h1, h2, h3⟩ := h
    simp [W.flat] at hi
    subst hi
    have := leaf_not_one h1
    refine ⟨h0, fun _ => ⟨rfl, h2, h3⟩, fun h => ?_, fun h => ?_⟩ <;> simp_all [W.flat]
  | n1 k x ih =>
    intro n i hi
    obtain ⟨h0, h1, h2⟩ := h
    have hl := W.flat_len x n
    have hp := W.size_pos x
    by_cases hlt : i < (x.flat n).length
    · simp only [W.flat, List.getElem_append_left hlt]; exact ih h2 n i hlt
    · have : i = x.size := by simp [W.flat, hl] at hi; omega
      subst this
      simp only [W.flat]
      rw [List.getElem_append_right (by omega)]
      have := one_not_leaf h1
      simp only [hl, Nat.sub_self, List.getElem_cons_zero]
      refine ⟨h0, fun h => ?_, fun h => ?_, fun h => ?_⟩
      · simp_all
      · simp; omega
      · simp_all
  | n2 k x y ih1 ih2 =>
    intro n i hi
    obtain ⟨h0, h1, h2, h3⟩ := h
    have hl := W.flat_len x n
    have hl2 := W.flat_len y (n + x.size)
    have hp := W.size_pos x
    have hp2 := W.size_pos y
    by_cases hlt : i < x.size + y.size
    · simp only [W.flat]
      rw [List.getElem_append_left (by simp; omega)]
      by_cases hlt2 : i < x.size
      · rw [List.getElem_append_left (by omega)]; exact ih1 h2 n i (by omega)
      · rw [List.getElem_append_right (by omega)]
        have := ih2 h3 (n + x.size) (i - (x.flat n).length) (by omega)
        refine okNode_mono this (by omega)
    · have : i = x.size + y.size := by simp [W.flat, hl, hl2] at hi; omega
      subst this
      simp only [W.flat]
      rw [List.getElem_append_right (by simp; omega)]
      have := two_not_leaf h1
      have e : x.size + y.size - (x.flat n ++ y.flat (n + x.size)).length = 0 := by simp; omega
      simp only [e, List.getElem_cons_zero]
      refine ⟨h0, fun h => ?_, fun h => ?_, fun h => ?_⟩
      · simp_all
      · simp_all
      · simp; omega

theorem flat_ok (ks m) (t : W) (h : t.ok ks m) : okF ks m (t.flat 0) := by
  intro i hi
  have := flat_nodes ks m t h 0 i hi
  simpa using this

/-! ### the trees of a formula are sound -/
theorem trees_ok {ks m} (hks : ∀ k, ks k = true → anyK k = true) (f : List Nd) (h : okF ks m f) : ∀ t ∈ treesL f, t.ok ks m := by
  induction f using snoc_ind with
  | h0 => intro t ht; simp [treesL] at ht
  | h1 l x ih =>
    obtain ⟨h1, hk, ha, hb, hc⟩ := okF_snoc h
    have ih := ih h1
    have hl := treesL_len l
    have hg : ∀ i : Int, 0 ≤ i → i < l.length → (getW (treesL l) i).ok ks m := by
      intro i h0 h2
      have hi : i.toNat < (treesL l).length := by omega
      have : getW (treesL l) i = (treesL l)[i.toNat] := by simp [getW, List.getD, hi]
      rw [this]; exact ih _ (List.getElem_mem hi)
    intro t ht
    rw [treesL_snoc] at ht
    rcases List.mem_append.1 ht with ht | ht
    · exact ih t ht
    · simp at ht; subst ht
      have hk' := kinds_cases (hks _ hk)
      unfold mkW
      by_cases h1 : leafK x.k = true
      · simp only [h1, if_true]
        obtain ⟨a1, a2, a3⟩ := ha h1
        refine ⟨hk, h1, ?_, ?_⟩
        · intro e; simp [e]; exact a2 e
        · intro e; simp [e]
      · by_cases h2 : oneK x.k = true
        · simp only [h1, h2, if_true]
          have := hb h2
          exact ⟨hk, h2, hg _ this.1 this.2.1⟩
        · simp only [h1, h2]
          have h3 : twoK x.k = true := by simp [leafK, oneK, twoK] at *; omega
          have := hc h3
          exact ⟨hk, h3, hg _ this.1 this.2.1, hg _ this.2.2.1 this.2.2.2⟩

theorem tree_ok {ks m} (hks : ∀ k, ks k = true → anyK k = true) (f : List Nd) (h : okF ks m f) (hf : f ≠ []) : (tree f).ok ks m := by
  have hl := treesL_len f
  have hp : 0 < f.length := List.length_pos_iff.2 hf
  have hi : ((f.length : Int) - 1).toNat < (treesL f).length := by omega
  have : tree f = (treesL f)[((f.length : Int) - 1).toNat] := by unfold tree getW; rw [List.getD, List.getElem?_eq_getElem hi]; rfl
  rw [this]
  exact trees_ok hks f h _ (List.getElem_mem hi)

theorem flat_holds {ks m} (hks : ∀ k, ks k = true → anyK k = true) (t : W) (h : t.ok ks m) (w : List Int) : holds (t.flat 0) w = t.sem w := by
  have hany : okF anyK m (t.flat 0) := by
    intro i hi
    obtain ⟨a, b⟩ := flat_ok ks m t h i hi
    exact ⟨hks _ a, b⟩
  have hne : t.flat 0 ≠ [] := by
    have := W.flat_len t 0; have := W.size_pos t
    intro e; simp [e] at *; omega
  rw [holds_eq m _ hany hne, flat_tree ks m t h]

/-! ### parts, by their paths -/
def W.paths : W → List (List Bool)
  | .n0 _ _ => [[]]
  | .n1 _ x => [] :: x.paths.map (false :: ·)
  | .n2 _ x y => [] :: (x.paths.map (false :: ·) ++ y.paths.map (true :: ·))
def W.get : W → List Bool → W
  | t, [] => t
  | .n1 _ x, false :: p => x.get p
  | .n2 _ x _, false :: p => x.get p
  | .n2 _ _ y, true :: p => y.get p
  | t, _ :: _ => t
def W.put : W → List Bool → W → W
  | _, [], z => z
  | .n1 k x, false :: p, z => .n1 k (x.put p z)
  | .n2 k x y, false :: p, z => .n2 k (x.put p z) y
  | .n2 k x y, true :: p, z => .n2 k x (y.put p z)
  | t, _ :: _, _ => t

/-- x reckoned as one of n, without a sign -/
def pick (x n : Int) : Int := (x % 18446744073709551616) % n

def fitting (t : W) (by_ : W → Option W) : List (List Bool) := t.paths.filter fun p => (by_ (t.get p)).isSome
def swapT (t : W) (which : Int) (by_ : W → Option W) : Option W :=
  if (fitting t by_).length = 0 then none
  else (by_ (t.get ((fitting t by_).getD (pick which (fitting t by_).length).toNat []))).map (t.put ((fitting t by_).getD (pick which (fitting t by_).length).toNat []))

/-- two meanings agree on the words of sound letters -/
def Agree (D : Int → Prop) (f g : List Int → Bool) : Prop := ∀ w, (∀ a ∈ w, D a) → f w = g w

theorem Agree.v1 {D f g} (h : Agree D f g) (k) : Agree D (v1 k f) (v1 k g) := by
  intro w hw
  unfold Stile.v1
  have hn : ∀ e, nextV e f w = nextV e g w := by
    intro e; cases w with
    | nil => rfl
    | cons a w => exact h w (fun b hb => hw b (List.mem_cons_of_mem _ hb))
  split
  · simp [h w hw]
  · split
    · exact hn false
    · split
      · exact hn true
      · rfl

theorem Agree.v2 {D f g f' g'} (h : Agree D f g) (h' : Agree D f' g') (k) : Agree D (v2 k f f') (v2 k g g') := by
  intro w hw
  unfold Stile.v2
  have hu : untilV f f' w = untilV g g' w := by
    induction w with
    | nil => rfl
    | cons a w ih => rw [untilV_cons, untilV_cons, h _ hw, h' _ hw, ih (fun b hb => hw b (List.mem_cons_of_mem _ hb))]
  have hr : releaseV f f' w = releaseV g g' w := by
    induction w with
    | nil => rfl
    | cons a w ih =>
      have hw2 : ∀ b ∈ w, D b := fun b hb => hw b (List.mem_cons_of_mem _ hb)
      have hu2 : untilV f f' w = untilV g g' w := by
        clear ih hu hw
        induction w with
        | nil => rfl
        | cons a w ih => rw [untilV_cons, untilV_cons, h _ hw2, h' _ hw2, ih (fun b hb => hw2 b (List.mem_cons_of_mem _ hb))]
      rw [releaseV_cons, releaseV_cons, h _ hw, h' _ hw, ih hw2 hu2]
  repeat' split
  all_goals simp only [h w hw, h' w hw, hu, hr]

theorem Agree.refl {D f} : Agree D f f := fun _ _ => rfl
theorem Agree.trans {D f g h} (a : Agree D f g) (b : Agree D g h) : Agree D f h := fun w hw => (a w hw).trans (b w hw)

theorem put_agree {D} (z : W) : ∀ (t : W) (p : List Bool), p ∈ t.paths → Agree D (t.get p).sem z.sem → Agree D t.sem (t.put p z).sem := by
  intro t
  induction t with
  | n0 k s => intro p hp h; simp [W.paths] at hp; subst hp; simpa [W.get, W.put] using h
  | n1 k x ih =>
    intro p hp h
    simp [W.paths] at hp
    rcases hp with rfl | ⟨q, hq, rfl⟩
    · simpa [W.get, W.put] using h
    · simp [W.get] at h; simp only [W.put, W.sem]; exact (ih q hq h).v1 k
  | n2 k x y ih1 ih2 =>
    intro p hp h
    simp [W.paths] at hp
    rcases hp with rfl | ⟨q, hq, rfl⟩ | ⟨q, hq, rfl⟩
    · simpa [W.get, W.put] using h
    · simp [W.get] at h; simp only [W.put, W.sem]; exact (ih1 q hq h).v2 Agree.refl k
    · simp [W.get] at h; simp only [W.put, W.sem]; exact Agree.refl.v2 (ih2 q hq h) k

theorem get_ok {ks m} : ∀ (t : W) (p : List Bool), t.ok ks m → (t.get p).ok ks m := by
  intro t
  induction t with
  | n0 k s => intro p h; cases p <;> simpa [W.get] using h
  | n1 k x ih =>
    intro p h
    match p with
    | [] => simpa [W.get] using h
    | false :: q => simp [W.get]; exact ih q h.2.2
    | true :: q => simpa [W.get] using h
  | n2 k x y ih1 ih2 =>
    intro p h
    match p with
    | [] => simpa [W.get] using h
    | false :: q => simp [W.get]; exact ih1 q h.2.2.1
    | true :: q => simp [W.get]; exact ih2 q h.2.2.2

theorem put_ok {ks m} (z : W) (hz : z.ok ks m) : ∀ (t : W) (p : List Bool), t.ok ks m → (t.put p z).ok ks m := by
  intro t
  induction t with
  | n0 k s => intro p h; cases p <;> simp [W.put] <;> assumption
  | n1 k x ih =>
    intro p h
    match p with
    | [] => simpa [W.put] using hz
    | false :: q => simp [W.put]; exact ⟨h.1, h.2.1, ih q h.2.2⟩
    | true :: q => simpa [W.put] using h
  | n2 k x y ih1 ih2 =>
    intro p h
    match p with
    | [] => simpa [W.put] using hz
    | false :: q => simp [W.put]; exact ⟨h.1, h.2.1, ih1 q h.2.2.1, h.2.2.2⟩
    | true :: q => simp [W.put]; exact ⟨h.1, h.2.1, h.2.2.1, ih2 q h.2.2.2⟩

theorem pick_range {x n : Int} (h : 0 < n) : 0 ≤ pick x n ∧ pick x n < n :=
  ⟨Int.emod_nonneg _ (by omega), Int.emod_lt_of_pos _ h⟩

/-- what a swap keeps, if each rule keeps it -/
theorem swapT_spec {ks m D} {by_ : W → Option W} (hby : ∀ t u, t.ok ks m → by_ t = some u → u.ok ks m ∧ Agree D t.sem u.sem)
    {t u : W} {which : Int} (ht : t.ok ks m) (h : swapT t which by_ = some u) : u.ok ks m ∧ Agree D t.sem u.sem := by
  unfold swapT at h
  split at h
  · cases h
  · rename_i hne
    have hr := pick_range (x := which) (n := ((fitting t by_).length : Int)) (by omega)
    have hi : (pick which ((fitting t by_).length : Int)).toNat < (fitting t by_).length := by omega
    obtain ⟨p, hp⟩ : ∃ p, (fitting t by_).getD (pick which ((fitting t by_).length : Int)).toNat [] = p := ⟨_, rfl⟩
    have hmem : p ∈ fitting t by_ := by
      rw [← hp, List.getD, List.getElem?_eq_getElem hi]; exact List.getElem_mem hi
    rw [hp] at h
    obtain ⟨h1, h2⟩ := List.mem_filter.1 hmem
    obtain ⟨z, hz⟩ := Option.isSome_iff_exists.1 h2
    rw [hz] at h
    simp at h
    subst h
    obtain ⟨a, b⟩ := hby _ z (get_ok t p ht) hz
    exact ⟨put_ok z a t p ht, put_agree z t p h1 b⟩

end Stile
