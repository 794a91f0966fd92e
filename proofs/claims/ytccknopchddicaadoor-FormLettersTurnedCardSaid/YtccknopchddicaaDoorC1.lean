/- contract: form.one. -/
import Derived.Test.YtccknopchddicaaDoorC1a
namespace Go.Proofs.YtccknopchddicaaDoor
open Go.RowKit Stile
theorem partsP_cases (k : Int) : partsP k = 0 ∨ partsP k = 1 ∨ partsP k = 2 := by
  unfold partsP
  split
  · exact .inl rfl
  · split
    · exact .inr (.inl rfl)
    · exact .inr (.inr rfl)
theorem one_any (L : Nat) (M i : Int) (x : Nd) (w : World) (hL1 : 1 ≤ L) (hL6 : L ≤ 6) (hM : IntKind.i64.wrap (2 ^ L) = M) : Calls Tryd.prog 32 #[.int .i64 L, .int .i64 i, .agg #[.int .i64 x.k, .int .i64 x.a, .int .i64 x.b]] w fun e w' => e = .returned (errV (oneP M i x)) ∧ Below w.heap.size w w' := by
  obtain ⟨k, a, b⟩ := x
  dsimp only
  unfold oneP
  dsimp only
  by_cases c1 : k < 0
  · rw [if_pos (.inl c1)]; exact one_neg L M i k a b w hL1 hL6 hM c1
  by_cases c2 : 9 < k
  · rw [if_pos (.inr c2)]; exact one_big L M i k a b w hL1 hL6 hM c2
  rw [if_neg (by omega)]
  by_cases c3 : k = 2
  · have hp : partsP k = 0 := by subst c3; rfl
    rw [hp]
    by_cases c4 : a < 0
    · rw [if_pos ⟨c3, .inl c4⟩]; exact one_is_low L M i k a b w hL1 hL6 hM c3 c4
    by_cases c5 : M ≤ a
    · rw [if_pos ⟨c3, .inr c5⟩]; exact one_is_high L M i k a b w hL1 hL6 hM c3 (by omega) c5
    rw [if_neg (by omega), if_neg (by omega)]
    by_cases c6 : b = 0
    · rw [if_neg (by omega)]; exact one_is_ok L M i k a b w hL1 hL6 hM c3 (by omega) (by omega) c6
    · rw [if_pos (.inl ⟨by omega, c6⟩)]; exact one_is_b L M i k a b w hL1 hL6 hM c3 (by omega) (by omega) (by simpa using c6)
  rw [if_neg (by omega)]
  have h2 : (k == 2) = false := by simpa using c3
  have h2' : (k != 2) = true := by simpa using c3
  have hps := partsP_cases k
  rcases hps with hp | hp | hp
  · rw [hp, if_neg (by omega)]
    by_cases c6 : b = 0
    · by_cases c7 : a = 0
      · rw [if_neg (by omega)]; exact one_leaf_ok L M i k a b w hL1 hL6 hM (by omega) (by omega) h2 h2' hp c6 c7
      · rw [if_pos (.inr ⟨by omega, c3, c7⟩)]; exact one_leaf_a L M i k a b w hL1 hL6 hM (by omega) (by omega) h2 h2' hp c6 (by simpa using c7)
    · rw [if_pos (.inl ⟨by omega, c6⟩)]; exact one_leaf_b L M i k a b w hL1 hL6 hM (by omega) (by omega) h2 h2' hp (by simpa using c6)
  · rw [hp]
    by_cases c4 : a < 0
    · rw [if_pos (.inl ⟨by omega, .inl c4⟩)]; exact one_un_low L M i k a b w hL1 hL6 hM (by omega) (by omega) h2 h2' hp c4
    by_cases c5 : i ≤ a
    · rw [if_pos (.inl ⟨by omega, .inr c5⟩)]; exact one_un_high L M i k a b w hL1 hL6 hM (by omega) (by omega) h2 h2' hp (by omega) c5
    rw [if_neg (by omega)]
    by_cases c6 : b = 0
    · rw [if_neg (by omega)]; exact one_un_ok L M i k a b w hL1 hL6 hM (by omega) (by omega) h2 h2' hp (by omega) (by omega) c6
    · rw [if_pos (.inl ⟨by omega, c6⟩)]; exact one_un_b L M i k a b w hL1 hL6 hM (by omega) (by omega) h2 h2' hp (by omega) (by omega) (by simpa using c6)
  · rw [hp]
    by_cases c4 : a < 0
    · rw [if_pos (.inl ⟨by omega, .inl c4⟩)]; exact one_bin_low L M i k a b w hL1 hL6 hM (by omega) (by omega) h2 h2' hp c4
    by_cases c5 : i ≤ a
    · rw [if_pos (.inl ⟨by omega, .inr c5⟩)]; exact one_bin_high L M i k a b w hL1 hL6 hM (by omega) (by omega) h2 h2' hp (by omega) c5
    by_cases c6 : b < 0
    · rw [if_pos (.inr ⟨by omega, .inl c6⟩)]; exact one_bin_blow L M i k a b w hL1 hL6 hM (by omega) (by omega) h2 h2' hp (by omega) (by omega) c6
    by_cases c7 : i ≤ b
    · rw [if_pos (.inr ⟨by omega, .inr c7⟩)]; exact one_bin_bhigh L M i k a b w hL1 hL6 hM (by omega) (by omega) h2 h2' hp (by omega) (by omega) (by omega) c7
    rw [if_neg (by omega), if_neg (by omega)]; exact one_bin_ok L M i k a b w hL1 hL6 hM (by omega) (by omega) h2 h2' hp (by omega) (by omega) (by omega) (by omega)
end Go.Proofs.YtccknopchddicaaDoor
