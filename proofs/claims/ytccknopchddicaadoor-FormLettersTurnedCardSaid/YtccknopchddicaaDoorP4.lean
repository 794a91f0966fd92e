import Derived.Test.YtccknopchddicaaDoorP3
/- plain: the automaton of a formula. -/
namespace Stile

def packN : List Bool → Nat
  | [] => 0
  | b :: v => b.toNat + 2 * packN v
def unpackN (s n : Nat) : List Bool := (List.range n).map s.testBit

theorem testBit_packN (v : List Bool) (i : Nat) : (packN v).testBit i = v.getD i false := by
  induction v generalizing i with
  | nil => simp [packN, List.getD]
  | cons b v ih =>
    cases i with
    | zero => cases b <;> simp [packN, Nat.testBit_zero] <;> omega
    | succ i =>
      rw [Nat.testBit_succ, packN]
      have : (b.toNat + 2 * packN v) / 2 = packN v := by cases b <;> simp <;> omega
      rw [this, ih]; simp [List.getD]

theorem unpack_pack (v : List Bool) : unpackN (packN v) v.length = v := by
  apply List.ext_getElem
  · simp [unpackN]
  · intro i h1 h2
    simp [unpackN, testBit_packN, List.getD, h2]

theorem pack_inj {v w : List Bool} (hl : v.length = w.length) (h : packN v = packN w) : v = w := by
  rw [← unpack_pack v, ← unpack_pack w, h, hl]

theorem packN_lt (v : List Bool) : packN v < 2 ^ v.length := by
  induction v with
  | nil => simp [packN]
  | cons b v ih => simp [packN, Nat.pow_succ]; cases b <;> simp <;> omega

structure Mv where
  f : Int
  l : Int
  t : Int
  deriving DecidableEq, Repr, Inhabited

structure Da where
  letters : Int
  start : Int
  next : List (List Int)
  final : List Bool
  deriving DecidableEq, Repr, Inhabited

structure Na where
  letters : Int
  states : Int
  starts : List Int
  moves : List Mv
  final : List Int
  deriving DecidableEq, Repr, Inhabited

def setN (l : List Int) : Nat := l.foldl (fun o s => o ||| (1 <<< s.toNat)) 0
def stepN (mv : List Mv) (S : Nat) (a : Int) : Nat :=
  mv.foldl (fun t m => if m.l = a ∧ S.testBit m.f.toNat = true then t ||| (1 <<< m.t.toNat) else t) 0

def backStep (f : List Nd) (v : Nat) (a : Int) : Nat := packN (aheadL f (unpackN v f.length) a)
def backP (L : Nat) (f : List Nd) : Option Da :=
  (explored (backStep f) (packN (endL f)) L 40).map fun r =>
    { letters := L, start := 0, next := r.2, final := r.1.map fun v => v.testBit (f.length - 1) }

def rowMoves (s : Int) : Int → List Int → List Mv
  | _, [] => []
  | a, t :: row => ⟨s, a, t⟩ :: rowMoves s (a + 1) row
def nextMoves : Int → List (List Int) → List Mv
  | _, [] => []
  | s, row :: next => rowMoves s 0 row ++ nextMoves (s + 1) next
def finals : Int → List Bool → List Int
  | _, [] => []
  | s, b :: l => (if b then [s] else []) ++ finals (s + 1) l
def nfaOf (d : Da) : Na := { letters := d.letters, states := d.next.length, starts := [d.start], moves := nextMoves 0 d.next, final := finals 0 d.final }
def Mv.turn (m : Mv) : Mv := ⟨m.t, m.l, m.f⟩
def nfaMirror (n : Na) : Na := { letters := n.letters, states := n.states, starts := n.final, moves := n.moves.map Mv.turn, final := n.starts }
def nfaMake (n : Na) : Option Da :=
  (explored (stepN n.moves) (setN n.starts) n.letters.toNat 40).map fun r =>
    { letters := n.letters, start := 0, next := r.2, final := r.1.map fun s => decide (s &&& setN n.final ≠ 0) }
def makeP (L : Nat) (f : List Nd) : Option Da := (backP L f).bind fun d => nfaMake (nfaMirror (nfaOf d))

/-! ### bits -/
theorem testBit_setN (l : List Int) (q : Nat) : (setN l).testBit q = true ↔ ∃ s ∈ l, s.toNat = q := by
  have : ∀ (l : List Int) (o : Nat), (l.foldl (fun o s => o ||| (1 <<< s.toNat)) o).testBit q = true ↔ o.testBit q = true ∨ ∃ s ∈ l, s.toNat = q := by
    intro l
    induction l with
    | nil => intro o; simp
    | cons s l ih =>
      intro o
      rw [List.foldl_cons, ih]
      simp [Nat.testBit_or, Nat.testBit_shiftLeft, Nat.testBit_one_eq_true_iff_self_eq_zero]
      constructor
      · rintro ((h | ⟨h1, h2⟩) | h)
        · exact .inl h
        · exact .inr (.inl (by omega))
        · exact .inr (.inr h)
      · rintro (h | h | h)
        · exact .inl (.inl h)
        · exact .inl (.inr (by omega))
        · exact .inr h
  have := this l 0
  simpa [setN] using this

theorem testBit_stepN (mv : List Mv) (S : Nat) (a : Int) (q : Nat) : (stepN mv S a).testBit q = true ↔ ∃ m ∈ mv, m.l = a ∧ S.testBit m.f.toNat = true ∧ m.t.toNat = q := by
  have : ∀ (mv : List Mv) (o : Nat), (mv.foldl (fun t m => if m.l = a ∧ S.testBit m.f.toNat = true then t ||| (1 <<< m.t.toNat) else t) o).testBit q = true ↔
      o.testBit q = true ∨ ∃ m ∈ mv, m.l = a ∧ S.testBit m.f.toNat = true ∧ m.t.toNat = q := by
    intro l
    induction l with
    | nil => intro o; simp
    | cons s l ih =>
      intro o
      rw [List.foldl_cons, ih]
      by_cases hc : s.l = a ∧ S.testBit s.f.toNat = true
      · rw [if_pos hc]
        simp [Nat.testBit_or, Nat.testBit_shiftLeft, Nat.testBit_one_eq_true_iff_self_eq_zero, hc]
        constructor
        · rintro ((h | ⟨h1, h2⟩) | h)
          · exact .inl h
          · exact .inr (.inl (by omega))
          · exact .inr (.inr h)
        · rintro (h | h | h)
          · exact .inl (.inl h)
          · exact .inl (.inr (by omega))
          · exact .inr h
      · rw [if_neg hc]
        constructor
        · rintro (h | ⟨m, h1, h2⟩)
          · exact .inl h
          · exact .inr ⟨m, List.mem_cons_of_mem _ h1, h2⟩
        · rintro (h | ⟨m, h1, h2⟩)
          · exact .inl h
          · rcases List.mem_cons.1 h1 with rfl | h1
            · exact absurd ⟨h2.1, h2.2.1⟩ hc
            · exact .inr ⟨m, h1, h2⟩
  have := this mv 0
  simpa [stepN] using this

theorem mem_rowMoves {s : Int} {row : List Int} {a : Int} {m : Mv} : m ∈ rowMoves s a row ↔ m.f = s ∧ a ≤ m.l ∧ row[(m.l - a).toNat]? = some m.t := by
  induction row generalizing a with
  | nil => simp [rowMoves]
  | cons t row ih =>
    rw [rowMoves, List.mem_cons, ih]
    constructor
    · rintro (rfl | ⟨h1, h2, h3⟩)
      · simp
      · refine ⟨h1, by omega, ?_⟩
        rw [show (m.l - a).toNat = (m.l - (a + 1)).toNat + 1 from by omega]
        simpa using h3
    · rintro ⟨h1, h2, h3⟩
      by_cases e : m.l = a
      · left
        simp [e] at h3
        cases m; simp_all
      · right
        refine ⟨h1, by omega, ?_⟩
        rw [show (m.l - a).toNat = (m.l - (a + 1)).toNat + 1 from by omega] at h3
        simpa using h3

theorem mem_nextMoves {s : Int} {next : List (List Int)} {m : Mv} : m ∈ nextMoves s next ↔ s ≤ m.f ∧ 0 ≤ m.l ∧ ∃ row, next[(m.f - s).toNat]? = some row ∧ row[m.l.toNat]? = some m.t := by
  induction next generalizing s with
  | nil => simp [nextMoves]
  | cons r next ih =>
    rw [nextMoves, List.mem_append, ih, mem_rowMoves]
    constructor
    · rintro (⟨h1, h2, h3⟩ | ⟨h1, h2, row, h3, h4⟩)
      · refine ⟨by omega, h2, r, ?_, by simpa using h3⟩
        simp [h1]
      · refine ⟨by omega, h2, row, ?_, h4⟩
        rw [show (m.f - s).toNat = (m.f - (s + 1)).toNat + 1 from by omega]
        simpa using h3
    · rintro ⟨h1, h2, row, h3, h4⟩
      by_cases e : m.f = s
      · left
        simp [e] at h3
        subst h3
        exact ⟨e, h2, by simpa using h4⟩
      · right
        refine ⟨by omega, h2, row, ?_, h4⟩
        rw [show (m.f - s).toNat = (m.f - (s + 1)).toNat + 1 from by omega] at h3
        simpa using h3

theorem mem_finals {s : Int} {l : List Bool} {q : Int} : q ∈ finals s l ↔ s ≤ q ∧ l.getD (q - s).toNat false = true := by
  induction l generalizing s with
  | nil => simp [finals, List.getD]
  | cons b l ih =>
    rw [finals, List.mem_append, ih]
    constructor
    · rintro (h | ⟨h1, h2⟩)
      · cases b <;> simp at h
        subst h; simp [List.getD]
      · refine ⟨by omega, ?_⟩
        rw [show (q - s).toNat = (q - (s + 1)).toNat + 1 from by omega]
        simpa [List.getD] using h2
    · rintro ⟨h1, h2⟩
      by_cases e : q = s
      · subst e
        simp [List.getD] at h2
        subst h2; simp
      · right
        refine ⟨by omega, ?_⟩
        rw [show (q - s).toNat = (q - (s + 1)).toNat + 1 from by omega] at h2
        simpa [List.getD] using h2

/-! ### back: its states are the values of all nodes -/
theorem run_back (f : List Nd) (u : List Int) : run (backStep f) (packN (endL f)) u = packN (valsL f u.reverse) := by
  induction u using snoc_ind with
  | h0 => rfl
  | h1 u a ih =>
    rw [run_snoc, ih, backStep]
    simp only [List.reverse_append, List.reverse_cons, List.reverse_nil, List.nil_append, List.singleton_append]
    have : unpackN (packN (valsL f u.reverse)) f.length = valsL f u.reverse := by
      have := unpack_pack (valsL f u.reverse)
      rwa [valsL_len] at this
    rw [this]; rfl

theorem Wrd.rev {L w} (h : Wrd L w) : Wrd L w.reverse := fun a ha => h a (List.mem_reverse.1 ha)

/-- what is known of Back's automaton -/
structure BackOk (L : Nat) (f : List Nd) (d : Da) : Prop where
  letters : d.letters = L
  start : d.start = 0
  lenF : d.final.length = d.next.length
  pos : 0 < d.next.length
  le : d.next.length ≤ 40
  rowlen : ∀ row ∈ d.next, row.length = L
  rowin : ∀ row ∈ d.next, ∀ s ∈ row, 0 ≤ s ∧ s < d.next.length
  /-- every state is that of a word, and final as its value is -/
  reach : ∀ q : Nat, q < d.next.length → ∃ u, Wrd L u ∧ goes d.next 0 u.reverse = q
  fin : ∀ u, Wrd L u → 0 ≤ goes d.next 0 u.reverse ∧ goes d.next 0 u.reverse < d.next.length ∧ d.final.getD (goes d.next 0 u.reverse).toNat false = holds f u

theorem explored_rows {st : Nat → Int → Nat} {s L lim ks next} (h : Explored st s L lim ks next) :
    (∀ row ∈ next, row.length = L) ∧ (∀ row ∈ next, ∀ s ∈ row, 0 ≤ s ∧ s < next.length) := by
  constructor
  · intro row hr
    obtain ⟨i, hi, rfl⟩ := List.mem_iff_getElem.1 hr
    exact (h.rows i hi).1
  · intro row hr s hs
    obtain ⟨i, hi, rfl⟩ := List.mem_iff_getElem.1 hr
    obtain ⟨j, hj, rfl⟩ := List.mem_iff_getElem.1 hs
    obtain ⟨h0, h1⟩ := (h.rows i hi).2 j hj
    have : (next[i][j]).toNat < ks.length := by
      rcases Nat.lt_or_ge (next[i][j]).toNat ks.length with h | h
      · exact h
      · rw [List.getElem?_eq_none h] at h1; cases h1
    have := h.len
    omega

theorem backP_ok {L : Nat} {f : List Nd} {d : Da} (_ : f ≠ []) (h : backP L f = some d) : BackOk L f d := by
  unfold backP at h
  rcases he : explored (backStep f) (packN (endL f)) L 40 with _ | ⟨ks, next⟩
  · rw [he] at h; cases h
  rw [he] at h
  simp at h
  subst h
  have hx := explored_spec (by omega) he
  have hlen := hx.len
  have hle := hx.lenle
  have hpos := hx.pos
  refine ⟨rfl, rfl, by simp [hlen], by simp only []; omega, by simp only []; omega, (explored_rows hx).1, (explored_rows hx).2, ?_, ?_⟩
  · intro q hq
    simp only [] at hq ⊢
    obtain ⟨w, hw, e⟩ := hx.reach (ks.getD q 0) (by rw [List.getD, List.getElem?_eq_getElem (by omega)]; exact List.getElem_mem _)
    obtain ⟨a, b, c⟩ := hx.goes_ok w hw
    refine ⟨w.reverse, hw.rev, ?_⟩
    rw [List.reverse_reverse]
    have := nodup_getD_inj hx.nodup (i := (goes next 0 w).toNat) (j := q) (by omega) (by omega) (by rw [c, e])
    omega
  · intro u hu
    simp only []
    obtain ⟨a, b, c⟩ := hx.goes_ok u.reverse hu.rev
    refine ⟨a, by omega, ?_⟩
    rw [run_back, List.reverse_reverse] at c
    have hi : (goes next 0 u.reverse).toNat < ks.length := by omega
    rw [List.getD, List.getElem?_map, List.getElem?_eq_getElem hi]
    rw [List.getD, List.getElem?_eq_getElem hi] at c
    simp at c ⊢
    rw [c, testBit_packN, holds, lastB, valsL_len]

theorem goes_snoc (next s w a) : goes next s (w ++ [a]) = go1 next (goes next s w) a := by simp [goes, List.foldl_append]
theorem goes_append (next s v w) : goes next s (v ++ w) = goes next (goes next s v) w := by simp [goes, List.foldl_append]

/-- the automaton's sets, read from the front: which states of Back lead to a final one -/
theorem run_make {L : Nat} {f : List Nd} {d : Da} (h : BackOk L f d) : ∀ (w : List Int), Wrd L w → ∀ u, Wrd L u →
    (run (stepN (nfaMirror (nfaOf d)).moves) (setN (nfaMirror (nfaOf d)).starts) w).testBit (goes d.next 0 u.reverse).toNat = holds f (w ++ u) := by
  intro w
  induction w using snoc_ind with
  | h0 =>
    intro _ u hu
    obtain ⟨a, b, c⟩ := h.fin u hu
    rw [List.nil_append, ← c, Bool.eq_iff_iff]
    show (setN (finals 0 d.final)).testBit _ = true ↔ _
    rw [testBit_setN]
    constructor
    · rintro ⟨s, hs, e⟩
      rw [mem_finals] at hs
      rw [show (goes d.next 0 u.reverse).toNat = (s - 0).toNat from by omega]
      exact hs.2
    · intro hh
      exact ⟨goes d.next 0 u.reverse, mem_finals.2 ⟨a, by simpa using hh⟩, rfl⟩
  | h1 w a ih =>
    intro hw u hu
    have hw' : Wrd L w := fun b hb => hw b (List.mem_append_left _ hb)
    have ha : Ltr L a := hw a (by simp)
    have hau : Wrd L (a :: u) := by
      intro b hb; rcases List.mem_cons.1 hb with rfl | hb
      · exact ha
      · exact hu b hb
    have := ih hw' (a :: u) hau
    rw [List.append_assoc, List.singleton_append, ← this, run_snoc, Bool.eq_iff_iff, testBit_stepN]
    obtain ⟨p1, p2, p3⟩ := h.fin u hu
    obtain ⟨q1, q2, q3⟩ := h.fin (a :: u) hau
    simp only [List.reverse_cons, goes_snoc] at q1 q2 ⊢
    generalize goes d.next 0 u.reverse = p at *
    have hp : p.toNat < d.next.length := by omega
    have hrow := h.rowlen _ (List.getElem_mem hp)
    have hal : a.toNat < d.next[p.toNat].length := by have := ha.1; have := ha.2; omega
    have hg : go1 d.next p a = d.next[p.toNat][a.toNat] := by
      unfold go1
      rw [List.getD, List.getD, List.getElem?_eq_getElem hp]
      simp [List.getElem?_eq_getElem hal]
    constructor
    · rintro ⟨m, hm, h1, h2, h3⟩
      simp only [nfaMirror, nfaOf, List.mem_map] at hm
      obtain ⟨m', hm', rfl⟩ := hm
      rw [mem_nextMoves] at hm'
      obtain ⟨r1, r2, row, r3, r4⟩ := hm'
      simp only [Mv.turn] at h1 h2 h3
      subst h1
      have e : p.toNat = (m'.f - 0).toNat := by omega
      rw [← e, List.getElem?_eq_getElem hp] at r3
      simp at r3; subst r3
      rw [List.getElem?_eq_getElem hal] at r4
      simp at r4
      rw [hg, r4]; exact h2
    · intro h2
      refine ⟨⟨go1 d.next p a, a, p⟩, ?_, rfl, h2, rfl⟩
      simp only [nfaMirror, nfaOf, List.mem_map]
      refine ⟨⟨p, a, go1 d.next p a⟩, mem_nextMoves.2 ⟨p1, ha.1, d.next[p.toNat], ?_, ?_⟩, rfl⟩
      · simp [List.getElem?_eq_getElem hp]
      · rw [hg]; exact List.getElem?_eq_getElem hal

/-- no bit beyond the states -/
theorem run_make_high {L : Nat} {f : List Nd} {d : Da} (h : BackOk L f d) (w : List Int) (q : Nat) (hq : d.next.length ≤ q) :
    (run (stepN (nfaMirror (nfaOf d)).moves) (setN (nfaMirror (nfaOf d)).starts) w).testBit q = false := by
  induction w using snoc_ind with
  | h0 =>
    rw [Bool.eq_false_iff]
    show ¬ (setN (finals 0 d.final)).testBit _ = true
    rw [testBit_setN]
    rintro ⟨s, hs, e⟩
    rw [mem_finals] at hs
    have := h.lenF
    rw [List.getD, List.getElem?_eq_none (by omega)] at hs
    simp at hs
  | h1 w a ih =>
    rw [Bool.eq_false_iff, run_snoc]
    intro hh
    rw [testBit_stepN] at hh
    obtain ⟨m, hm, h1, h2, h3⟩ := hh
    simp only [nfaMirror, nfaOf, List.mem_map] at hm
    obtain ⟨m', hm', rfl⟩ := hm
    rw [mem_nextMoves] at hm'
    obtain ⟨r1, r2, row, r3, r4⟩ := hm'
    simp only [Mv.turn] at h3
    rw [show (m'.f - 0).toNat = q from by omega, List.getElem?_eq_none hq] at r3
    cases r3

/-- two words lead to one set exactly if they have the same words behind them -/
theorem run_make_eq {L : Nat} {f : List Nd} {d : Da} (h : BackOk L f d) {w v : List Int} (hw : Wrd L w) (hv : Wrd L v) :
    run (stepN (nfaMirror (nfaOf d)).moves) (setN (nfaMirror (nfaOf d)).starts) w = run (stepN (nfaMirror (nfaOf d)).moves) (setN (nfaMirror (nfaOf d)).starts) v ↔
      ∀ u, Wrd L u → holds f (w ++ u) = holds f (v ++ u) := by
  constructor
  · intro e u hu
    rw [← run_make h w hw u hu, ← run_make h v hv u hu, e]
  · intro e
    apply Nat.eq_of_testBit_eq
    intro q
    by_cases hq : q < d.next.length
    · obtain ⟨u, hu, rfl⟩ : ∃ u, Wrd L u ∧ (goes d.next 0 u.reverse).toNat = q := by
        obtain ⟨u, hu, e⟩ := h.reach q hq
        exact ⟨u, hu, by omega⟩
      rw [run_make h w hw u hu, run_make h v hv u hu, e u hu]
    · rw [run_make_high h w q (by omega), run_make_high h v q (by omega)]

/-- what is known of Make's automaton -/
structure MakeOk (L : Nat) (f : List Nd) (d : Da) : Prop where
  letters : d.letters = L
  start : d.start = 0
  lenF : d.final.length = d.next.length
  pos : 0 < d.next.length
  le : d.next.length ≤ 40
  rowlen : ∀ row ∈ d.next, row.length = L
  rowin : ∀ row ∈ d.next, ∀ s ∈ row, 0 ≤ s ∧ s < d.next.length
  acc : ∀ w, Wrd L w → 0 ≤ goes d.next 0 w ∧ goes d.next 0 w < d.next.length ∧ d.final.getD (goes d.next 0 w).toNat false = holds f w

theorem goes_nil (next s) : goes next s [] = s := rfl

theorem final_bit {L : Nat} {f : List Nd} {d : Da} (h : BackOk L f d) {w} (hw : Wrd L w) :
    decide (run (stepN (nfaMirror (nfaOf d)).moves) (setN (nfaMirror (nfaOf d)).starts) w &&& setN (nfaMirror (nfaOf d)).final ≠ 0) = holds f w := by
  have h1 : setN (nfaMirror (nfaOf d)).final = 1 := by simp [nfaMirror, nfaOf, setN, h.start]
  have h2 := run_make h w hw [] (by intro a ha; simp at ha)
  rw [List.append_nil] at h2
  simp only [List.reverse_nil, goes_nil] at h2
  rw [h1, ← h2]
  generalize run (stepN (nfaMirror (nfaOf d)).moves) (setN (nfaMirror (nfaOf d)).starts) w = x
  rw [Nat.and_one_is_mod]
  simp [Nat.testBit_zero]

theorem makeP_ok {L : Nat} {f : List Nd} {d : Da} (hf : f ≠ []) (h : makeP L f = some d) : MakeOk L f d := by
  unfold makeP at h
  rcases hb : backP L f with _ | b
  · rw [hb] at h; cases h
  rw [hb] at h
  simp only [Option.bind_some] at h
  have hB := backP_ok hf hb
  unfold nfaMake at h
  have hL : (nfaMirror (nfaOf b)).letters.toNat = L := by simp [nfaMirror, nfaOf, hB.letters]
  rw [hL] at h
  rcases he : explored (stepN (nfaMirror (nfaOf b)).moves) (setN (nfaMirror (nfaOf b)).starts) L 40 with _ | ⟨ks, next⟩
  · rw [he] at h; cases h
  rw [he] at h
  simp at h
  subst h
  have hx := explored_spec (by omega) he
  have hlen := hx.len
  have hle := hx.lenle
  have hpos := hx.pos
  refine ⟨by simp [nfaMirror, nfaOf, hB.letters], rfl, by simp [hlen], by simp only []; omega, by simp only []; omega, (explored_rows hx).1, (explored_rows hx).2, ?_⟩
  intro w hw
  simp only []
  obtain ⟨a, b', c⟩ := hx.goes_ok w hw
  refine ⟨a, by omega, ?_⟩
  have hi : (goes next 0 w).toNat < ks.length := by omega
  rw [List.getD, List.getElem?_map, List.getElem?_eq_getElem hi]
  rw [List.getD, List.getElem?_eq_getElem hi] at c
  rw [Option.getD_some] at c
  simp only [Option.map_some, Option.getD_some, c]
  have := final_bit hB hw
  simpa using this

/-- formulas that hold of the same words have one automaton -/
theorem makeP_same {L : Nat} {f g : List Nd} {d e : Da} (hf : f ≠ []) (hg : g ≠ []) (H : ∀ w, Wrd L w → holds f w = holds g w)
    (h1 : makeP L f = some d) (h2 : makeP L g = some e) : d = e := by
  unfold makeP at h1 h2
  rcases hb1 : backP L f with _ | b1
  · rw [hb1] at h1; cases h1
  rcases hb2 : backP L g with _ | b2
  · rw [hb2] at h2; cases h2
  rw [hb1] at h1
  rw [hb2] at h2
  simp only [Option.bind_some] at h1 h2
  have hB1 := backP_ok hf hb1
  have hB2 := backP_ok hg hb2
  unfold nfaMake at h1 h2
  have hL1 : (nfaMirror (nfaOf b1)).letters.toNat = L := by simp [nfaMirror, nfaOf, hB1.letters]
  have hL2 : (nfaMirror (nfaOf b2)).letters.toNat = L := by simp [nfaMirror, nfaOf, hB2.letters]
  rw [hL1] at h1
  rw [hL2] at h2
  rcases explored_sim (lim := 40) (L := L) (st1 := stepN (nfaMirror (nfaOf b1)).moves) (st2 := stepN (nfaMirror (nfaOf b2)).moves) (s1 := setN (nfaMirror (nfaOf b1)).starts) (s2 := setN (nfaMirror (nfaOf b2)).starts) (by
    intro w v hw hv
    rw [run_make_eq hB1 hw hv, run_make_eq hB2 hw hv]
    constructor
    · intro h u hu; rw [← H _ (hw.append hu), ← H _ (hv.append hu)]; exact h u hu
    · intro h u hu; rw [H _ (hw.append hu), H _ (hv.append hu)]; exact h u hu) with ⟨e1, _⟩ | ⟨ws, next, hws, e1, e2⟩
  · rw [e1] at h1; cases h1
  · rw [e1] at h1
    rw [e2] at h2
    simp only [Option.map_some, Option.some.injEq, List.map_map] at h1 h2
    subst h1; subst h2
    have e3 : (nfaMirror (nfaOf b1)).letters = (nfaMirror (nfaOf b2)).letters := by simp [nfaMirror, nfaOf, hB1.letters, hB2.letters]
    rw [e3]
    congr 1
    apply List.map_congr_left
    intro w hw
    simp only [Function.comp]
    rw [final_bit hB1 (hws w hw), final_bit hB2 (hws w hw), H w (hws w hw)]

/-- as many states at least, if words that differ here differ there -/
theorem makeP_le {L M : Nat} {f g : List Nd} {d e : Da} (hf : f ≠ []) (hg : g ≠ []) (φ : Int → Int) (hφ : ∀ a, Ltr L a → Ltr M (φ a))
    (H : ∀ w, Wrd L w → holds f w = holds g (w.map φ)) (h1 : makeP L f = some d) (h2 : makeP M g = some e) : d.next.length ≤ e.next.length := by
  unfold makeP at h1 h2
  rcases hb1 : backP L f with _ | b1
  · rw [hb1] at h1; cases h1
  rcases hb2 : backP M g with _ | b2
  · rw [hb2] at h2; cases h2
  rw [hb1] at h1
  rw [hb2] at h2
  simp only [Option.bind_some] at h1 h2
  have hB1 := backP_ok hf hb1
  have hB2 := backP_ok hg hb2
  unfold nfaMake at h1 h2
  have hL1 : (nfaMirror (nfaOf b1)).letters.toNat = L := by simp [nfaMirror, nfaOf, hB1.letters]
  have hL2 : (nfaMirror (nfaOf b2)).letters.toNat = M := by simp [nfaMirror, nfaOf, hB2.letters]
  rw [hL1] at h1
  rw [hL2] at h2
  rcases he1 : explored (stepN (nfaMirror (nfaOf b1)).moves) (setN (nfaMirror (nfaOf b1)).starts) L 40 with _ | ⟨ks1, n1⟩
  · rw [he1] at h1; cases h1
  rcases he2 : explored (stepN (nfaMirror (nfaOf b2)).moves) (setN (nfaMirror (nfaOf b2)).starts) M 40 with _ | ⟨ks2, n2⟩
  · rw [he2] at h2; cases h2
  rw [he1] at h1
  rw [he2] at h2
  simp only [Option.map_some, Option.some.injEq] at h1 h2
  subst h1; subst h2
  have hx1 := explored_spec (by omega) he1
  have hx2 := explored_spec (by omega) he2
  simp only []
  rw [hx1.len, hx2.len]
  have hw' : ∀ w, Wrd L w → Wrd M (w.map φ) := by
    intro w hw a ha
    obtain ⟨b, hb, rfl⟩ := List.mem_map.1 ha
    exact hφ b (hw b hb)
  refine explored_le hx1 hx2 (List.map φ) hw' ?_
  intro w v hw hv h
  rw [run_make_eq hB2 (hw' w hw) (hw' v hv)] at h
  rw [run_make_eq hB1 hw hv]
  intro u hu
  rw [H _ (hw.append hu), H _ (hv.append hu), List.map_append, List.map_append]
  exact h _ (hw' u hu)

end Stile
