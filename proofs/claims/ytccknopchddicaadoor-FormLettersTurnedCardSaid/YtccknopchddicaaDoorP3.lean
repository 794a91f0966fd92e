import Derived.Test.YtccknopchddicaaDoorP2
/- plain: what is found from a start by letters; automata. -/
namespace Stile

section
variable (st : Nat → Int → Nat) (lim : Nat)
def rowFrom (x : Nat) : Nat → Int → List Nat → List Int → Option (List Nat × List Int)
  | 0, _, ks, row => some (ks, row)
  | d + 1, a, ks, row =>
    if st x a ∈ ks then rowFrom x d (a + 1) ks (row ++ [(ks.idxOf (st x a) : Int)])
    else if lim ≤ ks.length then none
    else rowFrom x d (a + 1) (ks ++ [st x a]) (row ++ [(ks.length : Int)])
def explore (L : Nat) : Nat → Nat → List Nat → List (List Int) → Option (List Nat × List (List Int))
  | 0, _, _, _ => none
  | n + 1, i, ks, next =>
    if i < ks.length then
      match rowFrom st lim (ks.getD i 0) L 0 ks [] with
      | none => none
      | some (ks', row) => explore L n (i + 1) ks' (next ++ [row])
    else some (ks, next)
end

def Ltr (L : Nat) (a : Int) : Prop := 0 ≤ a ∧ a < L
def Wrd (L : Nat) (w : List Int) : Prop := ∀ a ∈ w, Ltr L a
def run (st : Nat → Int → Nat) (s : Nat) (w : List Int) : Nat := w.foldl st s
theorem run_snoc (st s w a) : run st s (w ++ [a]) = st (run st s w) a := by simp [run, List.foldl_append]
theorem Wrd.snoc {L w a} (h : Wrd L w) (ha : Ltr L a) : Wrd L (w ++ [a]) := by
  intro b hb; rcases List.mem_append.1 hb with hb | hb
  · exact h b hb
  · simp at hb; subst hb; exact ha
theorem Wrd.append {L v w} (h : Wrd L v) (h' : Wrd L w) : Wrd L (v ++ w) := by
  intro b hb; rcases List.mem_append.1 hb with hb | hb
  · exact h b hb
  · exact h' b hb

/-! ### what exploring keeps -/
/-- the entry of a row stands for a key -/
def RowOk (st : Nat → Int → Nat) (x : Nat) (ks : List Nat) (row : List Int) : Prop :=
  ∀ j (h : j < row.length), 0 ≤ row[j] ∧ ks[row[j].toNat]? = some (st x j)

theorem RowOk.more {st x ks row} (h : RowOk st x ks row) (r : List Nat) : RowOk st x (ks ++ r) row := by
  intro j hj
  obtain ⟨h0, h1⟩ := h j hj
  have : (row[j]).toNat < ks.length := by
    rcases Nat.lt_or_ge (row[j]).toNat ks.length with h | h
    · exact h
    · rw [List.getElem?_eq_none h] at h1; cases h1
  exact ⟨h0, by rw [List.getElem?_append_left this]; exact h1⟩

theorem rowFrom_spec {st lim x} (P : Nat → Prop) {L : Nat} (hP : ∀ a, Ltr L a → P (st x a)) : ∀ (d : Nat) (a : Int) (ks : List Nat) (row : List Int) (ks' row'),
    ks.Nodup → (∀ k ∈ ks, P k) → RowOk st x ks row → a = row.length → row.length + d = L → ks.length ≤ lim →
    rowFrom st lim x d a ks row = some (ks', row') →
    ks'.Nodup ∧ (∀ k ∈ ks', P k) ∧ RowOk st x ks' row' ∧ row'.length = L ∧ (∃ r, ks' = ks ++ r) ∧ ks'.length ≤ lim := by
  intro d
  induction d with
  | zero =>
    intro a ks row ks' row' hn hp hr ha hl hlim h
    simp [rowFrom] at h
    obtain ⟨rfl, rfl⟩ := h
    exact ⟨hn, hp, hr, by omega, ⟨[], by simp⟩, hlim⟩
  | succ d ih =>
    intro a ks row ks' row' hn hp hr ha hl hlim h
    have hLa : Ltr L a := ⟨by omega, by omega⟩
    unfold rowFrom at h
    split at h
    · rename_i hm
      refine ih _ _ _ _ _ hn hp ?_ (by simp; omega) (by simp; omega) hlim h
      intro j hj
      by_cases hjl : j < row.length
      · rw [List.getElem_append_left hjl]; exact hr j hjl
      · have : j = row.length := by simp at hj; omega
        subst this
        simp
        subst ha
        refine List.getElem?_eq_some_iff.2 ⟨List.idxOf_lt_length_iff.2 hm, ?_⟩
        exact List.getElem_idxOf _
    · rename_i hm
      split at h
      · cases h
      · rename_i hlt
        have := ih _ _ _ _ _ ?_ ?_ ?_ (by simp; omega) (by simp; omega) (by simp; omega) h
        · obtain ⟨a1, a2, a3, a4, ⟨r, a5⟩, a6⟩ := this
          exact ⟨a1, a2, a3, a4, ⟨st x a :: r, by simp [a5]⟩, a6⟩
        · rw [List.nodup_append]
          refine ⟨hn, by simp, ?_⟩
          intro b hb c hc; simp at hc; subst hc; intro e; subst e; exact hm hb
        · intro k hk
          rcases List.mem_append.1 hk with hk | hk
          · exact hp k hk
          · simp at hk; subst hk; exact hP _ hLa
        · intro j hj
          by_cases hjl : j < row.length
          · rw [List.getElem_append_left hjl]; exact hr.more _ j hjl
          · have : j = row.length := by simp at hj; omega
            subst this
            simp
            subst ha
            rfl

structure Explored (st : Nat → Int → Nat) (s L lim : Nat) (ks : List Nat) (next : List (List Int)) : Prop where
  nodup : ks.Nodup
  head : ks[0]? = some s
  reach : ∀ k ∈ ks, ∃ w, Wrd L w ∧ run st s w = k
  len : next.length = ks.length
  lenle : ks.length ≤ lim
  rows : ∀ i (h : i < next.length), next[i].length = L ∧ RowOk st (ks.getD i 0) ks next[i]

theorem explore_spec {st lim s L} : ∀ (n i : Nat) (ks : List Nat) (next : List (List Int)) (ks' next'),
    ks.Nodup → ks[0]? = some s → (∀ k ∈ ks, ∃ w, Wrd L w ∧ run st s w = k) → next.length = i → i ≤ ks.length → ks.length ≤ lim →
    (∀ i (h : i < next.length), next[i].length = L ∧ RowOk st (ks.getD i 0) ks next[i]) →
    explore st lim L n i ks next = some (ks', next') → Explored st s L lim ks' next' := by
  intro n
  induction n with
  | zero => intro i ks next ks' next' _ _ _ _ _ _ _ h; simp [explore] at h
  | succ n ih =>
    intro i ks next ks' next' hn hh hp hl hi hlim hr h
    unfold explore at h
    split at h
    · rename_i hlt
      split at h
      · cases h
      · rename_i ks1 row heq
        have hx : ks.getD i 0 ∈ ks := by rw [List.getD, List.getElem?_eq_getElem hlt]; exact List.getElem_mem hlt
        have hs := rowFrom_spec (P := fun k => ∃ w, Wrd L w ∧ run st s w = k) (L := L) (st := st) (lim := lim) (x := ks.getD i 0) (by
          intro a ha
          obtain ⟨w, hw, e⟩ := hp _ hx
          exact ⟨w ++ [a], hw.snoc ha, by rw [run_snoc, e]⟩) L 0 ks [] ks1 row hn hp (fun j hj => by simp at hj) rfl (by simp) hlim heq
        obtain ⟨a1, a2, a3, a4, ⟨r, rfl⟩, a6⟩ := hs
        refine ih _ _ _ _ _ a1 ?_ a2 (by simp; omega) (by simp; omega) a6 ?_ h
        · cases ks with
          | nil => simp at hlt
          | cons k ks => simpa using hh
        · intro j hj
          by_cases hjl : j < next.length
          · rw [List.getElem_append_left hjl]
            obtain ⟨b1, b2⟩ := hr j hjl
            refine ⟨b1, ?_⟩
            have : (ks ++ r).getD j 0 = ks.getD j 0 := by
              rw [List.getD, List.getElem?_append_left (by omega), List.getD]
            rw [this]; exact b2.more r
          · have : j = next.length := by simp at hj; omega
            subst this
            simp only [List.getElem_append_right (Nat.le_refl _), Nat.sub_self, List.getElem_cons_zero]
            have : (ks ++ r).getD next.length 0 = ks.getD i 0 := by
              rw [List.getD, List.getElem?_append_left (by omega), List.getD, hl]
            rw [this]; exact ⟨a4, a3⟩
    · rename_i hlt
      simp at h
      obtain ⟨rfl, rfl⟩ := h
      exact ⟨hn, hh, hp, by omega, hlim, hr⟩

/-- the whole of it -/
def explored (st : Nat → Int → Nat) (s L lim : Nat) : Option (List Nat × List (List Int)) := explore st lim L (lim + 1) 0 [s] []
theorem explored_spec {st s L lim ks next} (hlim : 1 ≤ lim) (h : explored st s L lim = some (ks, next)) : Explored st s L lim ks next :=
  explore_spec (lim + 1) 0 [s] [] ks next (by simp) (by simp) (by intro k hk; simp at hk; subst hk; exact ⟨[], by intro a ha; simp at ha, rfl⟩) rfl (by simp) (by simpa using hlim)
    (by intro i hi; simp at hi) h

/-- the state behind a letter -/
def go1 (next : List (List Int)) (s : Int) (a : Int) : Int := (next.getD s.toNat []).getD a.toNat 0
def goes (next : List (List Int)) (s : Int) (w : List Int) : Int := w.foldl (go1 next) s

theorem Explored.go1_ok {st s L lim ks next} (h : Explored st s L lim ks next) {q a : Int} (h0 : 0 ≤ q) (hq : q < ks.length) (ha : Ltr L a) :
    0 ≤ go1 next q a ∧ go1 next q a < ks.length ∧ ks.getD (go1 next q a).toNat 0 = st (ks.getD q.toNat 0) a := by
  have hq' : q.toNat < next.length := by have := h.len; omega
  obtain ⟨h1, h2⟩ := h.rows q.toNat hq'
  have hal : a.toNat < next[q.toNat].length := by have := ha.1; have := ha.2; omega
  obtain ⟨h3, h4⟩ := h2 a.toNat hal
  have e : go1 next q a = next[q.toNat][a.toNat] := by
    unfold go1
    rw [List.getD, List.getD, List.getElem?_eq_getElem hq']
    simp [List.getElem?_eq_getElem hal]
  rw [e]
  have hlt : (next[q.toNat][a.toNat]).toNat < ks.length := by
    rcases Nat.lt_or_ge (next[q.toNat][a.toNat]).toNat ks.length with h | h
    · exact h
    · rw [List.getElem?_eq_none h] at h4; cases h4
  refine ⟨h3, by omega, ?_⟩
  rw [List.getD, h4]
  have : ((a.toNat : Nat) : Int) = a := by have := ha.1; omega
  simp [this]

theorem Explored.pos {st s L lim ks next} (h : Explored st s L lim ks next) : 0 < ks.length := by
  have := h.head
  cases ks with
  | nil => simp at this
  | cons => simp

theorem Explored.goes_ok {st s L lim ks next} (h : Explored st s L lim ks next) (w : List Int) (hw : Wrd L w) :
    0 ≤ goes next 0 w ∧ goes next 0 w < ks.length ∧ ks.getD (goes next 0 w).toNat 0 = run st s w := by
  induction w using snoc_ind with
  | h0 => exact ⟨by simp [goes], by simpa [goes] using h.pos, by simp [goes, run, List.getD, h.head]⟩
  | h1 w a ih =>
    obtain ⟨h1, h2, h3⟩ := ih (fun b hb => hw b (List.mem_append_left _ hb))
    have := h.go1_ok h1 h2 (hw a (by simp))
    rw [run_snoc, ← h3]
    simpa [goes, List.foldl_append] using this

theorem nodup_getD_inj {ks : List Nat} (h : ks.Nodup) {i j : Nat} (hi : i < ks.length) (hj : j < ks.length) (e : ks.getD i 0 = ks.getD j 0) : i = j := by
  rw [List.getD, List.getD, List.getElem?_eq_getElem hi, List.getElem?_eq_getElem hj] at e
  have e : ks[i] = ks[j] := by simpa using e
  rw [List.Nodup, List.pairwise_iff_getElem] at h
  rcases Nat.lt_trichotomy i j with h1 | h1 | h1
  · exact absurd e (h i j hi hj h1)
  · exact h1
  · exact absurd e.symm (h j i hj hi h1)

/-! ### two that are explored side by side -/
theorem rowFrom_sim {st1 st2 : Nat → Int → Nat} {s1 s2 lim L : Nat} (H : ∀ w v, Wrd L w → Wrd L v → (run st1 s1 w = run st1 s1 v ↔ run st2 s2 w = run st2 s2 v)) (x : List Int) (hx : Wrd L x) :
    ∀ (d : Nat) (a : Int) (ws : List (List Int)) (row : List Int), 0 ≤ a → a + d ≤ L → (∀ w ∈ ws, Wrd L w) →
    (rowFrom st1 lim (run st1 s1 x) d a (ws.map (run st1 s1)) row = none ∧ rowFrom st2 lim (run st2 s2 x) d a (ws.map (run st2 s2)) row = none) ∨
    ∃ (ws' : List (List Int)) (row' : List Int), (∀ w ∈ ws', Wrd L w) ∧ rowFrom st1 lim (run st1 s1 x) d a (ws.map (run st1 s1)) row = some (ws'.map (run st1 s1), row') ∧
      rowFrom st2 lim (run st2 s2 x) d a (ws.map (run st2 s2)) row = some (ws'.map (run st2 s2), row') := by
  intro d
  induction d with
  | zero => intro a ws row _ _ hw; exact .inr ⟨ws, row, hw, rfl, rfl⟩
  | succ d ih =>
    intro a ws row h0 hL hw
    have hxa : Wrd L (x ++ [a]) := hx.snoc ⟨h0, by omega⟩
    have hmem : (st1 (run st1 s1 x) a ∈ ws.map (run st1 s1)) ↔ (st2 (run st2 s2 x) a ∈ ws.map (run st2 s2)) := by
      rw [← run_snoc st1 s1, ← run_snoc st2 s2, List.mem_map, List.mem_map]
      constructor
      · rintro ⟨v, hv, e⟩; exact ⟨v, hv, (H _ _ (hw v hv) hxa).1 e⟩
      · rintro ⟨v, hv, e⟩; exact ⟨v, hv, (H _ _ (hw v hv) hxa).2 e⟩
    have hidx : (ws.map (run st1 s1)).idxOf (st1 (run st1 s1 x) a) = (ws.map (run st2 s2)).idxOf (st2 (run st2 s2 x) a) := by
      rw [← run_snoc st1 s1, ← run_snoc st2 s2]
      clear hmem ih
      induction ws with
      | nil => rfl
      | cons v ws ihw =>
        simp only [List.map_cons, List.idxOf_cons]
        have := H v (x ++ [a]) (hw v (by simp)) hxa
        rw [ihw (fun w h => hw w (List.mem_cons_of_mem _ h))]
        by_cases e : run st1 s1 v = run st1 s1 (x ++ [a])
        · rw [show (run st1 s1 v == run st1 s1 (x ++ [a])) = true by simpa using e, show (run st2 s2 v == run st2 s2 (x ++ [a])) = true by simpa using this.1 e]
        · rw [show (run st1 s1 v == run st1 s1 (x ++ [a])) = false by simpa using e, show (run st2 s2 v == run st2 s2 (x ++ [a])) = false by simpa using fun h => e (this.2 h)]
    unfold rowFrom
    by_cases hm : st1 (run st1 s1 x) a ∈ ws.map (run st1 s1)
    · rw [if_pos hm, if_pos (hmem.1 hm), hidx]
      exact ih _ _ _ (by omega) (by omega) hw
    · rw [if_neg hm, if_neg (fun h => hm (hmem.2 h))]
      simp only [List.length_map]
      by_cases hl : lim ≤ ws.length
      · left; simp [hl]
      · rw [if_neg hl, if_neg hl]
        have e1 : ws.map (run st1 s1) ++ [st1 (run st1 s1 x) a] = (ws ++ [x ++ [a]]).map (run st1 s1) := by simp [run_snoc]
        have e2 : ws.map (run st2 s2) ++ [st2 (run st2 s2 x) a] = (ws ++ [x ++ [a]]).map (run st2 s2) := by simp [run_snoc]
        rw [e1, e2]
        refine ih _ _ _ (by omega) (by omega) ?_
        intro w hw'
        rcases List.mem_append.1 hw' with h | h
        · exact hw w h
        · simp at h; subst h; exact hxa

theorem explore_sim {st1 st2 : Nat → Int → Nat} {s1 s2 lim L : Nat} (H : ∀ w v, Wrd L w → Wrd L v → (run st1 s1 w = run st1 s1 v ↔ run st2 s2 w = run st2 s2 v)) :
    ∀ (n i : Nat) (ws : List (List Int)) (next : List (List Int)), (∀ w ∈ ws, Wrd L w) →
    (explore st1 lim L n i (ws.map (run st1 s1)) next = none ∧ explore st2 lim L n i (ws.map (run st2 s2)) next = none) ∨
    ∃ (ws' : List (List Int)) (next' : List (List Int)), (∀ w ∈ ws', Wrd L w) ∧ explore st1 lim L n i (ws.map (run st1 s1)) next = some (ws'.map (run st1 s1), next') ∧
      explore st2 lim L n i (ws.map (run st2 s2)) next = some (ws'.map (run st2 s2), next') := by
  intro n
  induction n with
  | zero => intro i ws next _; left; simp [explore]
  | succ n ih =>
    intro i ws next hw
    unfold explore
    simp only [List.length_map]
    by_cases hi : i < ws.length
    · rw [if_pos hi, if_pos hi]
      have e1 : (ws.map (run st1 s1)).getD i 0 = run st1 s1 ws[i] := by simp [List.getD, hi]
      have e2 : (ws.map (run st2 s2)).getD i 0 = run st2 s2 ws[i] := by simp [List.getD, hi]
      rw [e1, e2]
      rcases rowFrom_sim H (lim := lim) ws[i] (hw _ (List.getElem_mem hi)) L 0 ws [] (by omega) (by omega) hw with ⟨h1, h2⟩ | ⟨ws', row', hw', h1, h2⟩
      · left; rw [h1, h2]; exact ⟨rfl, rfl⟩
      · rw [h1, h2]; exact ih _ _ _ hw'
    · rw [if_neg hi, if_neg hi]
      right; exact ⟨ws, next, hw, rfl, rfl⟩

theorem explored_sim {st1 st2 : Nat → Int → Nat} {s1 s2 lim L : Nat} (H : ∀ w v, Wrd L w → Wrd L v → (run st1 s1 w = run st1 s1 v ↔ run st2 s2 w = run st2 s2 v)) :
    (explored st1 s1 L lim = none ∧ explored st2 s2 L lim = none) ∨
    ∃ (ws : List (List Int)) (next : List (List Int)), (∀ w ∈ ws, Wrd L w) ∧ explored st1 s1 L lim = some (ws.map (run st1 s1), next) ∧ explored st2 s2 L lim = some (ws.map (run st2 s2), next) := by
  have := explore_sim (lim := lim) H (lim + 1) 0 [[]] [] (by intro w hw; simp at hw; subst hw; intro a ha; simp at ha)
  exact this

/-! ### how many -/
theorem length_le_of_inj {α β : Type} [DecidableEq β] {l : List α} {m : List β} (f : α → β) (hn : l.Nodup) (hf : ∀ a ∈ l, f a ∈ m) (hi : ∀ a ∈ l, ∀ b ∈ l, f a = f b → a = b) : l.length ≤ m.length := by
  induction l generalizing m with
  | nil => simp
  | cons a l ih =>
    rw [List.nodup_cons] at hn
    have ha := hf a (by simp)
    have := ih (m := m.erase (f a)) hn.2 (by
      intro b hb
      refine (List.mem_erase_of_ne ?_).2 (hf b (List.mem_cons_of_mem _ hb))
      intro e
      have := hi b (List.mem_cons_of_mem _ hb) a (by simp) e
      subst this; exact hn.1 hb) (fun x hx y hy => hi x (List.mem_cons_of_mem _ hx) y (List.mem_cons_of_mem _ hy))
    rw [List.length_erase_of_mem ha] at this
    have hpos : 0 < m.length := List.length_pos_of_mem ha
    simp; omega

open Classical in
/-- fewer states, if words that differ here differ there -/
theorem explored_le {st1 st2 : Nat → Int → Nat} {s1 s2 lim L1 L2 : Nat} {ks1 ks2 n1 n2} (h1 : Explored st1 s1 L1 lim ks1 n1) (h2 : Explored st2 s2 L2 lim ks2 n2)
    (φ : List Int → List Int) (hφ : ∀ w, Wrd L1 w → Wrd L2 (φ w)) (H : ∀ w v, Wrd L1 w → Wrd L1 v → run st2 s2 (φ w) = run st2 s2 (φ v) → run st1 s1 w = run st1 s1 v) :
    ks1.length ≤ ks2.length := by
  refine length_le_of_inj (fun k => if h : ∃ w, Wrd L1 w ∧ run st1 s1 w = k then run st2 s2 (φ h.choose) else 0) h1.nodup ?_ ?_
  · intro k hk
    have h := h1.reach k hk
    simp only [h, dif_pos]
    obtain ⟨hw, _⟩ := h.choose_spec
    obtain ⟨a, b, c⟩ := h2.goes_ok _ (hφ _ hw)
    rw [← c, List.getD, List.getElem?_eq_getElem (by omega)]
    exact List.getElem_mem _
  · intro k hk k' hk' e
    have h := h1.reach k hk
    have h' := h1.reach k' hk'
    simp only [h, h', dif_pos] at e
    have := H _ _ h.choose_spec.1 h'.choose_spec.1 e
    rw [h.choose_spec.2, h'.choose_spec.2] at this
    exact this

end Stile
