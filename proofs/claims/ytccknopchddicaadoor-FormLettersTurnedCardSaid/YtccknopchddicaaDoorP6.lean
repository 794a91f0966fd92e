import Derived.Test.YtccknopchddicaaDoorP4
/- plain: other letters in the place of the first ones. -/
namespace Stile
/-- the other letter -/
def atT (L : Nat) (h a : Int) : Int :=
  if h.tmod 2 = 0 then (L : Int) - 1 - (a + pick (h.tdiv 2) L) % L else (a + pick (h.tdiv 2) L) % L
/-- the letter whose other letter it is -/
def atI (L : Nat) (h b : Int) : Int :=
  if h.tmod 2 = 0 then ((L : Int) - 1 - b - pick (h.tdiv 2) L) % L else (b - pick (h.tdiv 2) L) % L
theorem atT_in {L : Nat} {h a : Int} (hL : 0 < L) : 0 ≤ atT L h a ∧ atT L h a < L := by
  unfold atT
  have h1 := Int.emod_nonneg (a + pick (h.tdiv 2) L) (show (L : Int) ≠ 0 by omega)
  have h2 := Int.emod_lt_of_pos (a + pick (h.tdiv 2) L) (show (0 : Int) < L by omega)
  split <;> omega
theorem atI_in {L : Nat} {h a : Int} (hL : 0 < L) : 0 ≤ atI L h a ∧ atI L h a < L := by
  unfold atI
  split
  · exact ⟨Int.emod_nonneg _ (by omega), Int.emod_lt_of_pos _ (by omega)⟩
  · exact ⟨Int.emod_nonneg _ (by omega), Int.emod_lt_of_pos _ (by omega)⟩
theorem atT_atI {L : Nat} {h b : Int} (hb : 0 ≤ b ∧ b < L) : atT L h (atI L h b) = b := by
  unfold atT atI
  generalize pick (h.tdiv 2) L = p
  split
  · rw [Int.emod_add_emod, show (L : Int) - 1 - b - p + p = (L : Int) - 1 - b by omega, Int.emod_eq_of_lt (by omega) (by omega)]; omega
  · rw [Int.emod_add_emod, show b - p + p = b by omega, Int.emod_eq_of_lt (by omega) (by omega)]
theorem atI_atT {L : Nat} {h a : Int} (ha : 0 ≤ a ∧ a < L) : atI L h (atT L h a) = a := by
  unfold atT atI
  generalize pick (h.tdiv 2) L = p
  split
  · rw [show (L : Int) - 1 - ((L : Int) - 1 - (a + p) % L) - p = (a + p) % L - p by omega, Int.emod_sub_emod, show a + p - p = a by omega, Int.emod_eq_of_lt (by omega) (by omega)]
  · rw [Int.emod_sub_emod, show a + p - p = a by omega, Int.emod_eq_of_lt (by omega) (by omega)]
theorem atT_inj {L : Nat} {h a b : Int} (ha : 0 ≤ a ∧ a < L) (hb : 0 ≤ b ∧ b < L) (e : atT L h a = atT L h b) : a = b := by
  rw [← atI_atT (h := h) ha, e, atI_atT hb]
/-- the other letters of those letters below k that stand in the set -/
def turnBits (φ : Int → Int) (s : Int) : Nat → Nat
  | 0 => 0
  | k + 1 => if bit s k then turnBits φ s k ||| (1 <<< (φ k).toNat) else turnBits φ s k
theorem turnBits_bit (φ : Int → Int) (s : Int) (q : Nat) : ∀ k : Nat, (turnBits φ s k).testBit q = true ↔ ∃ a : Nat, a < k ∧ bit s a = true ∧ (φ a).toNat = q
  | 0 => by simp [turnBits]
  | k + 1 => by
    have ih := turnBits_bit φ s q k
    unfold turnBits
    by_cases hb : bit s k = true
    · rw [if_pos hb, Nat.testBit_or, Bool.or_eq_true, ih, Nat.one_shiftLeft, Nat.testBit_two_pow]
      constructor
      · rintro (⟨a, h1, h2, h3⟩ | h)
        · exact ⟨a, by omega, h2, h3⟩
        · exact ⟨k, by omega, hb, by simpa using h⟩
      · rintro ⟨a, h1, h2, h3⟩
        by_cases e : a = k
        · subst e; exact .inr (by simpa using h3)
        · exact .inl ⟨a, by omega, h2, h3⟩
    · rw [if_neg hb, ih]
      constructor
      · rintro ⟨a, h1, h2, h3⟩; exact ⟨a, by omega, h2, h3⟩
      · rintro ⟨a, h1, h2, h3⟩
        have : a ≠ k := fun e => hb (e ▸ h2)
        exact ⟨a, by omega, h2, h3⟩
theorem turnBits_lt {L : Nat} {φ : Int → Int} (hφ : ∀ a : Nat, a < L → 0 ≤ φ a ∧ φ a < L) (s : Int) (k : Nat) (hk : k ≤ L) : turnBits φ s k < 2 ^ L := by
  apply Nat.lt_pow_two_of_testBit
  intro i hi
  rw [Bool.eq_false_iff]
  intro hb
  obtain ⟨a, h1, _, h3⟩ := (turnBits_bit φ s i k).1 hb
  have := hφ a (by omega)
  omega
/-- a node with other letters -/
def turnNd (L : Nat) (φ : Int → Int) (x : Nd) : Nd := if x.k = 2 then ⟨x.k, (turnBits φ x.a L : Nat), x.b⟩ else x
theorem turnNd_k (L φ x) : (turnNd L φ x).k = x.k := by unfold turnNd; split <;> rfl
theorem turnNd_b (L φ x) : (turnNd L φ x).b = x.b := by unfold turnNd; split <;> rfl
theorem turnNd_a {L φ x} (h : x.k ≠ 2) : (turnNd L φ x).a = x.a := by unfold turnNd; rw [if_neg h]
theorem turn_bit {L : Nat} {φ : Int → Int} (hφ : ∀ a : Nat, a < L → 0 ≤ φ a ∧ φ a < L) (hi : ∀ a b : Nat, a < L → b < L → φ a = φ b → a = b) (s : Int) (a : Nat) (ha : a < L) : bit (turnBits φ s L : Nat) (φ a) = bit s a := by
  have h1 := turnBits_bit φ s (φ a).toNat L
  have e : bit (turnBits φ s L : Nat) (φ a) = (turnBits φ s L).testBit (φ a).toNat := by unfold bit; simp
  rw [e, Bool.eq_iff_iff, h1]
  constructor
  · rintro ⟨b, h2, h3, h4⟩
    have h5 := hφ a ha
    have h6 := hφ b h2
    have : b = a := hi b a h2 ha (by omega)
    exact this ▸ h3
  · intro h; exact ⟨a, ha, h, rfl⟩
theorem turn_step {L : Nat} {φ : Int → Int} (hφ : ∀ a : Nat, a < L → 0 ≤ φ a ∧ φ a < L) (hi : ∀ a b : Nat, a < L → b < L → φ a = φ b → a = b) (a : Nat) (ha : a < L) (t v : List Bool) (x : Nd) : stepA (φ a) t v (turnNd L φ x) = stepA a t v x := by
  unfold stepA
  rw [turnNd_k, turnNd_b]
  by_cases h : x.k = 2
  · have e : (turnNd L φ x).a = (turnBits φ x.a L : Nat) := by unfold turnNd; rw [if_pos h]
    simp [h, e, turn_bit hφ hi x.a a ha]
  · rw [turnNd_a h]; simp [h]
theorem turn_stepE (L φ) (v : List Bool) (x : Nd) : stepE v (turnNd L φ x) = stepE v x := by
  unfold stepE
  rw [turnNd_k, turnNd_b]
  by_cases h : x.k = 2
  · simp [h]
  · rw [turnNd_a h]
theorem turn_end (L φ) (f : List Nd) : endL (f.map (turnNd L φ)) = endL f := by
  induction f using snoc_ind with
  | h0 => rfl
  | h1 l x ih => rw [List.map_append, List.map_cons, List.map_nil, endL_snoc, endL_snoc, ih, turn_stepE]
theorem turn_ahead {L : Nat} {φ : Int → Int} (hφ : ∀ a : Nat, a < L → 0 ≤ φ a ∧ φ a < L) (hi : ∀ a b : Nat, a < L → b < L → φ a = φ b → a = b) (a : Nat) (ha : a < L) (t : List Bool) (f : List Nd) : aheadL (f.map (turnNd L φ)) t (φ a) = aheadL f t a := by
  induction f using snoc_ind with
  | h0 => rfl
  | h1 l x ih => rw [List.map_append, List.map_cons, List.map_nil, aheadL_snoc, aheadL_snoc, ih, turn_step hφ hi a ha]
theorem turn_vals {L : Nat} {φ : Int → Int} (hφ : ∀ a : Nat, a < L → 0 ≤ φ a ∧ φ a < L) (hi : ∀ a b : Nat, a < L → b < L → φ a = φ b → a = b) (f : List Nd) : ∀ w, Wrd L w → valsL (f.map (turnNd L φ)) (w.map φ) = valsL f w
  | [], _ => turn_end L φ f
  | a :: w, h => by
    have ha := h a (by simp)
    obtain ⟨n, rfl⟩ : ∃ n : Nat, a = n := ⟨a.toNat, by have := ha.1; omega⟩
    show aheadL _ (valsL _ (w.map φ)) (φ n) = aheadL f (valsL f w) n
    rw [turn_vals hφ hi f w (fun b hb => h b (by simp [hb])), turn_ahead hφ hi n (by have := ha.2; omega)]
theorem turn_holds {L : Nat} {φ : Int → Int} (hφ : ∀ a : Nat, a < L → 0 ≤ φ a ∧ φ a < L) (hi : ∀ a b : Nat, a < L → b < L → φ a = φ b → a = b) (f : List Nd) (w : List Int) (h : Wrd L w) : holds (f.map (turnNd L φ)) (w.map φ) = holds f w := by
  unfold holds; rw [turn_vals hφ hi f w h]
theorem turn_ok {ks : Int → Bool} {L : Nat} {φ : Int → Int} (hφ : ∀ a : Nat, a < L → 0 ≤ φ a ∧ φ a < L) {m : Int} (hm : m = ((2 ^ L : Nat) : Int)) {f : List Nd} (h : okF ks m f) : okF ks m (f.map (turnNd L φ)) := by
  intro i hi
  have hi' : i < f.length := by simpa using hi
  obtain ⟨a, b, c, d⟩ := h i hi'
  simp only [List.getElem_map]
  generalize f[i] = x at *
  unfold okNode
  rw [turnNd_k, turnNd_b]
  refine ⟨a, fun hl => ?_, fun ho => ?_, fun ht => ?_⟩
  · obtain ⟨b1, b2, b3⟩ := b hl
    refine ⟨b1, fun e => ?_, fun e => ?_⟩
    · have e' : (turnNd L φ x).a = (turnBits φ x.a L : Nat) := by unfold turnNd; rw [if_pos e]
      have := turnBits_lt hφ x.a L (Nat.le_refl _)
      rw [e', hm]
      omega
    · rw [turnNd_a e]; exact b3 e
  · have hn : x.k ≠ 2 := by intro e; rw [e] at ho; simp [oneK] at ho
    rw [turnNd_a hn]; exact c ho
  · have hn : x.k ≠ 2 := by intro e; rw [e] at ht; simp [twoK] at ht
    rw [turnNd_a hn]; exact d ht
end Stile
