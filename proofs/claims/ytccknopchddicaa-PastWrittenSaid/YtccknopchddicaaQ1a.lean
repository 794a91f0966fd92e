/- contracts: past.parts, past.one. -/
import Derived.Test.YtccknopchddicaaW0
namespace Go.Proofs.Ytccknopchddicaa
open Go.RowKit Stile
def partsQ (k : Int) : Int := if k = 0 ∨ k = 1 ∨ k = 2 then 0 else if k = 3 ∨ k = 10 then 1 else if k = 4 ∨ k = 5 ∨ k = 11 then 2 else -1
theorem qparts_any (k : Int) (w : World) : Calls Try.prog 40 #[.int .i64 k] w fun e w' => e = .returned (.int .i64 (partsQ k)) ∧ w = w' := by
  go_enter Try.func40, Try.ntmps40
  go_wp2
  all_goals (go_ret; refine ⟨?_, rfl⟩; simp_all [partsQ])

def onePQ (M i : Int) (x : Nd) : Int :=
  if partsQ x.k < 0 then 1
  else if x.k = 2 ∧ (x.a < 0 ∨ M ≤ x.a) then 1
  else if (0 < partsQ x.k ∧ (x.a < 0 ∨ i ≤ x.a)) ∨ (1 < partsQ x.k ∧ (x.b < 0 ∨ i ≤ x.b)) then 3
  else if (partsQ x.k < 2 ∧ x.b ≠ 0) ∨ (partsQ x.k < 1 ∧ x.k ≠ 2 ∧ x.a ≠ 0) then 3
  else 0
set_option maxHeartbeats 400000 in
theorem qone_neg (L : Nat) (M i k a b : Int) (w : World) (hL1 : 1 ≤ L) (hL6 : L ≤ 6) (hM : IntKind.i64.wrap (2 ^ L) = M) (hp : partsQ k = -1) : Calls Try.prog 24 #[.int .i64 L, .int .i64 i, .agg #[.int .i64 k, .int .i64 a, .int .i64 b]] w fun e w' => e = .returned (errV 1) ∧ Below w.heap.size w w' := by
  have hc := qparts_any k
  rw [hp] at hc
  go_enter Try.func24, Try.ntmps24
  go_wp2_with (go_at_call 40; refine (hc _).mono ?_; rintro e w' ⟨rfl, rfl⟩)
  (try (go_quiet (fail); go_wp2_with (go_at_call 40; refine (hc _).mono ?_; rintro e w' ⟨rfl, rfl⟩)))
  (try (go_quiet (fail); go_wp2_with fail))
  (try (go_quiet (fail); go_wp2_with fail))
  go_ret
  exact ⟨rfl, by repeat (first | exact Below.refl _ _ | exact (Below.refl _ _).alloc (Nat.le_refl _) _ | refine below_drewN ?_ _)⟩
set_option maxHeartbeats 400000 in
theorem qone_is_low (L : Nat) (M i k a b : Int) (w : World) (hL1 : 1 ≤ L) (hL6 : L ≤ 6) (hM : IntKind.i64.wrap (2 ^ L) = M) (hk : k = 2) (ha : a < 0) : Calls Try.prog 24 #[.int .i64 L, .int .i64 i, .agg #[.int .i64 k, .int .i64 a, .int .i64 b]] w fun e w' => e = .returned (errV 1) ∧ Below w.heap.size w w' := by
  subst hk
  have hp : partsQ 2 = 0 := rfl
  have hc := qparts_any 2
  rw [hp] at hc
  clear hp
  go_enter Try.func24, Try.ntmps24
  go_wp2_with (go_at_call 40; refine (hc _).mono ?_; rintro e w' ⟨rfl, rfl⟩)
  (try (go_quiet (fail); go_wp2_with (go_at_call 40; refine (hc _).mono ?_; rintro e w' ⟨rfl, rfl⟩)))
  (try (go_quiet (fail); go_wp2_with fail))
  (try (go_quiet (fail); go_wp2_with fail))
  go_ret
  exact ⟨rfl, by repeat (first | exact Below.refl _ _ | exact (Below.refl _ _).alloc (Nat.le_refl _) _ | refine below_drewN ?_ _)⟩
set_option maxHeartbeats 400000 in
theorem qone_is_high (L : Nat) (M i k a b : Int) (w : World) (hL1 : 1 ≤ L) (hL6 : L ≤ 6) (hM : IntKind.i64.wrap (2 ^ L) = M) (hk : k = 2) (ha : 0 ≤ a) (ha' : M ≤ a) : Calls Try.prog 24 #[.int .i64 L, .int .i64 i, .agg #[.int .i64 k, .int .i64 a, .int .i64 b]] w fun e w' => e = .returned (errV 1) ∧ Below w.heap.size w w' := by
  subst hk
  have hp : partsQ 2 = 0 := rfl
  have hc := qparts_any 2
  rw [hp] at hc
  clear hp
  go_enter Try.func24, Try.ntmps24
  go_wp2_with (go_at_call 40; refine (hc _).mono ?_; rintro e w' ⟨rfl, rfl⟩)
  (try (go_quiet (fail); go_wp2_with (go_at_call 40; refine (hc _).mono ?_; rintro e w' ⟨rfl, rfl⟩)))
  (try (go_quiet (fail); go_wp2_with fail))
  (try (go_quiet (fail); go_wp2_with fail))
  go_ret
  exact ⟨rfl, by repeat (first | exact Below.refl _ _ | exact (Below.refl _ _).alloc (Nat.le_refl _) _ | refine below_drewN ?_ _)⟩
set_option maxHeartbeats 400000 in
theorem qone_is_b (L : Nat) (M i k a b : Int) (w : World) (hL1 : 1 ≤ L) (hL6 : L ≤ 6) (hM : IntKind.i64.wrap (2 ^ L) = M) (hk : k = 2) (ha : 0 ≤ a) (ha' : a < M) (hb : (b != 0) = true) : Calls Try.prog 24 #[.int .i64 L, .int .i64 i, .agg #[.int .i64 k, .int .i64 a, .int .i64 b]] w fun e w' => e = .returned (errV 3) ∧ Below w.heap.size w w' := by
  subst hk
  have hp : partsQ 2 = 0 := rfl
  have hc := qparts_any 2
  rw [hp] at hc
  clear hp
  go_enter Try.func24, Try.ntmps24
  go_wp2_with (go_at_call 40; refine (hc _).mono ?_; rintro e w' ⟨rfl, rfl⟩)
  (try (go_quiet (fail); go_wp2_with (go_at_call 40; refine (hc _).mono ?_; rintro e w' ⟨rfl, rfl⟩)))
  (try (go_quiet (fail); go_wp2_with fail))
  (try (go_quiet (fail); go_wp2_with fail))
  go_ret
  exact ⟨rfl, by repeat (first | exact Below.refl _ _ | exact (Below.refl _ _).alloc (Nat.le_refl _) _ | refine below_drewN ?_ _)⟩
set_option maxHeartbeats 400000 in
theorem qone_is_ok (L : Nat) (M i k a b : Int) (w : World) (hL1 : 1 ≤ L) (hL6 : L ≤ 6) (hM : IntKind.i64.wrap (2 ^ L) = M) (hk : k = 2) (ha : 0 ≤ a) (ha' : a < M) (hb : b = 0) : Calls Try.prog 24 #[.int .i64 L, .int .i64 i, .agg #[.int .i64 k, .int .i64 a, .int .i64 b]] w fun e w' => e = .returned (errV 0) ∧ Below w.heap.size w w' := by
  subst hk
  subst hb
  have hp : partsQ 2 = 0 := rfl
  have hc := qparts_any 2
  rw [hp] at hc
  clear hp
  go_enter Try.func24, Try.ntmps24
  go_wp2_with (go_at_call 40; refine (hc _).mono ?_; rintro e w' ⟨rfl, rfl⟩)
  (try (go_quiet (fail); go_wp2_with (go_at_call 40; refine (hc _).mono ?_; rintro e w' ⟨rfl, rfl⟩)))
  (try (go_quiet (fail); go_wp2_with fail))
  (try (go_quiet (fail); go_wp2_with fail))
  go_ret
  exact ⟨rfl, by repeat (first | exact Below.refl _ _ | exact (Below.refl _ _).alloc (Nat.le_refl _) _ | refine below_drewN ?_ _)⟩
set_option maxHeartbeats 400000 in
theorem qone_leaf_b (L : Nat) (M i k a b : Int) (w : World) (hL1 : 1 ≤ L) (hL6 : L ≤ 6) (hM : IntKind.i64.wrap (2 ^ L) = M) (h2 : (k == 2) = false) (h2' : (k != 2) = true) (hp : partsQ k = 0) (hb : (b != 0) = true) : Calls Try.prog 24 #[.int .i64 L, .int .i64 i, .agg #[.int .i64 k, .int .i64 a, .int .i64 b]] w fun e w' => e = .returned (errV 3) ∧ Below w.heap.size w w' := by
  have hc := qparts_any k
  rw [hp] at hc
  clear hp
  go_enter Try.func24, Try.ntmps24
  go_wp2_with (go_at_call 40; refine (hc _).mono ?_; rintro e w' ⟨rfl, rfl⟩)
  (try (go_quiet (fail); go_wp2_with (go_at_call 40; refine (hc _).mono ?_; rintro e w' ⟨rfl, rfl⟩)))
  (try (go_quiet (fail); go_wp2_with fail))
  (try (go_quiet (fail); go_wp2_with fail))
  go_ret
  exact ⟨rfl, by repeat (first | exact Below.refl _ _ | exact (Below.refl _ _).alloc (Nat.le_refl _) _ | refine below_drewN ?_ _)⟩
set_option maxHeartbeats 400000 in
theorem qone_leaf_a (L : Nat) (M i k a b : Int) (w : World) (hL1 : 1 ≤ L) (hL6 : L ≤ 6) (hM : IntKind.i64.wrap (2 ^ L) = M) (h2 : (k == 2) = false) (h2' : (k != 2) = true) (hp : partsQ k = 0) (hb : b = 0) (ha : (a != 0) = true) : Calls Try.prog 24 #[.int .i64 L, .int .i64 i, .agg #[.int .i64 k, .int .i64 a, .int .i64 b]] w fun e w' => e = .returned (errV 3) ∧ Below w.heap.size w w' := by
  subst hb
  have hc := qparts_any k
  rw [hp] at hc
  clear hp
  go_enter Try.func24, Try.ntmps24
  go_wp2_with (go_at_call 40; refine (hc _).mono ?_; rintro e w' ⟨rfl, rfl⟩)
  (try (go_quiet (fail); go_wp2_with (go_at_call 40; refine (hc _).mono ?_; rintro e w' ⟨rfl, rfl⟩)))
  (try (go_quiet (fail); go_wp2_with fail))
  (try (go_quiet (fail); go_wp2_with fail))
  go_ret
  exact ⟨rfl, by repeat (first | exact Below.refl _ _ | exact (Below.refl _ _).alloc (Nat.le_refl _) _ | refine below_drewN ?_ _)⟩
set_option maxHeartbeats 400000 in
theorem qone_leaf_ok (L : Nat) (M i k a b : Int) (w : World) (hL1 : 1 ≤ L) (hL6 : L ≤ 6) (hM : IntKind.i64.wrap (2 ^ L) = M) (h2 : (k == 2) = false) (h2' : (k != 2) = true) (hp : partsQ k = 0) (hb : b = 0) (ha : a = 0) : Calls Try.prog 24 #[.int .i64 L, .int .i64 i, .agg #[.int .i64 k, .int .i64 a, .int .i64 b]] w fun e w' => e = .returned (errV 0) ∧ Below w.heap.size w w' := by
  subst hb
  subst ha
  have hc := qparts_any k
  rw [hp] at hc
  clear hp
  go_enter Try.func24, Try.ntmps24
  go_wp2_with (go_at_call 40; refine (hc _).mono ?_; rintro e w' ⟨rfl, rfl⟩)
  (try (go_quiet (fail); go_wp2_with (go_at_call 40; refine (hc _).mono ?_; rintro e w' ⟨rfl, rfl⟩)))
  (try (go_quiet (fail); go_wp2_with fail))
  (try (go_quiet (fail); go_wp2_with fail))
  go_ret
  exact ⟨rfl, by repeat (first | exact Below.refl _ _ | exact (Below.refl _ _).alloc (Nat.le_refl _) _ | refine below_drewN ?_ _)⟩
set_option maxHeartbeats 400000 in
theorem qone_un_low (L : Nat) (M i k a b : Int) (w : World) (hL1 : 1 ≤ L) (hL6 : L ≤ 6) (hM : IntKind.i64.wrap (2 ^ L) = M) (h2 : (k == 2) = false) (h2' : (k != 2) = true) (hp : partsQ k = 1) (ha : a < 0) : Calls Try.prog 24 #[.int .i64 L, .int .i64 i, .agg #[.int .i64 k, .int .i64 a, .int .i64 b]] w fun e w' => e = .returned (errV 3) ∧ Below w.heap.size w w' := by
  have hc := qparts_any k
  rw [hp] at hc
  clear hp
  go_enter Try.func24, Try.ntmps24
  go_wp2_with (go_at_call 40; refine (hc _).mono ?_; rintro e w' ⟨rfl, rfl⟩)
  (try (go_quiet (fail); go_wp2_with (go_at_call 40; refine (hc _).mono ?_; rintro e w' ⟨rfl, rfl⟩)))
  (try (go_quiet (fail); go_wp2_with fail))
  (try (go_quiet (fail); go_wp2_with fail))
  go_ret
  exact ⟨rfl, by repeat (first | exact Below.refl _ _ | exact (Below.refl _ _).alloc (Nat.le_refl _) _ | refine below_drewN ?_ _)⟩
set_option maxHeartbeats 400000 in
theorem qone_un_high (L : Nat) (M i k a b : Int) (w : World) (hL1 : 1 ≤ L) (hL6 : L ≤ 6) (hM : IntKind.i64.wrap (2 ^ L) = M) (h2 : (k == 2) = false) (h2' : (k != 2) = true) (hp : partsQ k = 1) (ha : 0 ≤ a) (ha' : i ≤ a) : Calls Try.prog 24 #[.int .i64 L, .int .i64 i, .agg #[.int .i64 k, .int .i64 a, .int .i64 b]] w fun e w' => e = .returned (errV 3) ∧ Below w.heap.size w w' := by
  have hc := qparts_any k
  rw [hp] at hc
  clear hp
  go_enter Try.func24, Try.ntmps24
  go_wp2_with (go_at_call 40; refine (hc _).mono ?_; rintro e w' ⟨rfl, rfl⟩)
  (try (go_quiet (fail); go_wp2_with (go_at_call 40; refine (hc _).mono ?_; rintro e w' ⟨rfl, rfl⟩)))
  (try (go_quiet (fail); go_wp2_with fail))
  (try (go_quiet (fail); go_wp2_with fail))
  go_ret
  exact ⟨rfl, by repeat (first | exact Below.refl _ _ | exact (Below.refl _ _).alloc (Nat.le_refl _) _ | refine below_drewN ?_ _)⟩
set_option maxHeartbeats 400000 in
theorem qone_un_b (L : Nat) (M i k a b : Int) (w : World) (hL1 : 1 ≤ L) (hL6 : L ≤ 6) (hM : IntKind.i64.wrap (2 ^ L) = M) (h2 : (k == 2) = false) (h2' : (k != 2) = true) (hp : partsQ k = 1) (ha : 0 ≤ a) (ha' : a < i) (hb : (b != 0) = true) : Calls Try.prog 24 #[.int .i64 L, .int .i64 i, .agg #[.int .i64 k, .int .i64 a, .int .i64 b]] w fun e w' => e = .returned (errV 3) ∧ Below w.heap.size w w' := by
  have hc := qparts_any k
  rw [hp] at hc
  clear hp
  go_enter Try.func24, Try.ntmps24
  go_wp2_with (go_at_call 40; refine (hc _).mono ?_; rintro e w' ⟨rfl, rfl⟩)
  (try (go_quiet (fail); go_wp2_with (go_at_call 40; refine (hc _).mono ?_; rintro e w' ⟨rfl, rfl⟩)))
  (try (go_quiet (fail); go_wp2_with fail))
  (try (go_quiet (fail); go_wp2_with fail))
  go_ret
  exact ⟨rfl, by repeat (first | exact Below.refl _ _ | exact (Below.refl _ _).alloc (Nat.le_refl _) _ | refine below_drewN ?_ _)⟩
set_option maxHeartbeats 400000 in
theorem qone_un_ok (L : Nat) (M i k a b : Int) (w : World) (hL1 : 1 ≤ L) (hL6 : L ≤ 6) (hM : IntKind.i64.wrap (2 ^ L) = M) (h2 : (k == 2) = false) (h2' : (k != 2) = true) (hp : partsQ k = 1) (ha : 0 ≤ a) (ha' : a < i) (hb : b = 0) : Calls Try.prog 24 #[.int .i64 L, .int .i64 i, .agg #[.int .i64 k, .int .i64 a, .int .i64 b]] w fun e w' => e = .returned (errV 0) ∧ Below w.heap.size w w' := by
  subst hb
  have hc := qparts_any k
  rw [hp] at hc
  clear hp
  go_enter Try.func24, Try.ntmps24
  go_wp2_with (go_at_call 40; refine (hc _).mono ?_; rintro e w' ⟨rfl, rfl⟩)
  (try (go_quiet (fail); go_wp2_with (go_at_call 40; refine (hc _).mono ?_; rintro e w' ⟨rfl, rfl⟩)))
  (try (go_quiet (fail); go_wp2_with fail))
  (try (go_quiet (fail); go_wp2_with fail))
  go_ret
  exact ⟨rfl, by repeat (first | exact Below.refl _ _ | exact (Below.refl _ _).alloc (Nat.le_refl _) _ | refine below_drewN ?_ _)⟩
set_option maxHeartbeats 400000 in
theorem qone_bin_low (L : Nat) (M i k a b : Int) (w : World) (hL1 : 1 ≤ L) (hL6 : L ≤ 6) (hM : IntKind.i64.wrap (2 ^ L) = M) (h2 : (k == 2) = false) (h2' : (k != 2) = true) (hp : partsQ k = 2) (ha : a < 0) : Calls Try.prog 24 #[.int .i64 L, .int .i64 i, .agg #[.int .i64 k, .int .i64 a, .int .i64 b]] w fun e w' => e = .returned (errV 3) ∧ Below w.heap.size w w' := by
  have hc := qparts_any k
  rw [hp] at hc
  clear hp
  go_enter Try.func24, Try.ntmps24
  go_wp2_with (go_at_call 40; refine (hc _).mono ?_; rintro e w' ⟨rfl, rfl⟩)
  (try (go_quiet (fail); go_wp2_with (go_at_call 40; refine (hc _).mono ?_; rintro e w' ⟨rfl, rfl⟩)))
  (try (go_quiet (fail); go_wp2_with fail))
  (try (go_quiet (fail); go_wp2_with fail))
  go_ret
  exact ⟨rfl, by repeat (first | exact Below.refl _ _ | exact (Below.refl _ _).alloc (Nat.le_refl _) _ | refine below_drewN ?_ _)⟩
set_option maxHeartbeats 400000 in
theorem qone_bin_high (L : Nat) (M i k a b : Int) (w : World) (hL1 : 1 ≤ L) (hL6 : L ≤ 6) (hM : IntKind.i64.wrap (2 ^ L) = M) (h2 : (k == 2) = false) (h2' : (k != 2) = true) (hp : partsQ k = 2) (ha : 0 ≤ a) (ha' : i ≤ a) : Calls Try.prog 24 #[.int .i64 L, .int .i64 i, .agg #[.int .i64 k, .int .i64 a, .int .i64 b]] w fun e w' => e = .returned (errV 3) ∧ Below w.heap.size w w' := by
  have hc := qparts_any k
  rw [hp] at hc
  clear hp
  go_enter Try.func24, Try.ntmps24
  go_wp2_with (go_at_call 40; refine (hc _).mono ?_; rintro e w' ⟨rfl, rfl⟩)
  (try (go_quiet (fail); go_wp2_with (go_at_call 40; refine (hc _).mono ?_; rintro e w' ⟨rfl, rfl⟩)))
  (try (go_quiet (fail); go_wp2_with fail))
  (try (go_quiet (fail); go_wp2_with fail))
  go_ret
  exact ⟨rfl, by repeat (first | exact Below.refl _ _ | exact (Below.refl _ _).alloc (Nat.le_refl _) _ | refine below_drewN ?_ _)⟩
set_option maxHeartbeats 400000 in
theorem qone_bin_blow (L : Nat) (M i k a b : Int) (w : World) (hL1 : 1 ≤ L) (hL6 : L ≤ 6) (hM : IntKind.i64.wrap (2 ^ L) = M) (h2 : (k == 2) = false) (h2' : (k != 2) = true) (hp : partsQ k = 2) (ha : 0 ≤ a) (ha' : a < i) (hb : b < 0) : Calls Try.prog 24 #[.int .i64 L, .int .i64 i, .agg #[.int .i64 k, .int .i64 a, .int .i64 b]] w fun e w' => e = .returned (errV 3) ∧ Below w.heap.size w w' := by
  have hc := qparts_any k
  rw [hp] at hc
  clear hp
  go_enter Try.func24, Try.ntmps24
  go_wp2_with (go_at_call 40; refine (hc _).mono ?_; rintro e w' ⟨rfl, rfl⟩)
  (try (go_quiet (fail); go_wp2_with (go_at_call 40; refine (hc _).mono ?_; rintro e w' ⟨rfl, rfl⟩)))
  (try (go_quiet (fail); go_wp2_with fail))
  (try (go_quiet (fail); go_wp2_with fail))
  go_ret
  exact ⟨rfl, by repeat (first | exact Below.refl _ _ | exact (Below.refl _ _).alloc (Nat.le_refl _) _ | refine below_drewN ?_ _)⟩
set_option maxHeartbeats 400000 in
theorem qone_bin_bhigh (L : Nat) (M i k a b : Int) (w : World) (hL1 : 1 ≤ L) (hL6 : L ≤ 6) (hM : IntKind.i64.wrap (2 ^ L) = M) (h2 : (k == 2) = false) (h2' : (k != 2) = true) (hp : partsQ k = 2) (ha : 0 ≤ a) (ha' : a < i) (hb : 0 ≤ b) (hb' : i ≤ b) : Calls Try.prog 24 #[.int .i64 L, .int .i64 i, .agg #[.int .i64 k, .int .i64 a, .int .i64 b]] w fun e w' => e = .returned (errV 3) ∧ Below w.heap.size w w' := by
  have hc := qparts_any k
  rw [hp] at hc
  clear hp
  go_enter Try.func24, Try.ntmps24
  go_wp2_with (go_at_call 40; refine (hc _).mono ?_; rintro e w' ⟨rfl, rfl⟩)
  (try (go_quiet (fail); go_wp2_with (go_at_call 40; refine (hc _).mono ?_; rintro e w' ⟨rfl, rfl⟩)))
  (try (go_quiet (fail); go_wp2_with fail))
  (try (go_quiet (fail); go_wp2_with fail))
  go_ret
  exact ⟨rfl, by repeat (first | exact Below.refl _ _ | exact (Below.refl _ _).alloc (Nat.le_refl _) _ | refine below_drewN ?_ _)⟩
set_option maxHeartbeats 400000 in
theorem qone_bin_ok (L : Nat) (M i k a b : Int) (w : World) (hL1 : 1 ≤ L) (hL6 : L ≤ 6) (hM : IntKind.i64.wrap (2 ^ L) = M) (h2 : (k == 2) = false) (h2' : (k != 2) = true) (hp : partsQ k = 2) (ha : 0 ≤ a) (ha' : a < i) (hb : 0 ≤ b) (hb' : b < i) : Calls Try.prog 24 #[.int .i64 L, .int .i64 i, .agg #[.int .i64 k, .int .i64 a, .int .i64 b]] w fun e w' => e = .returned (errV 0) ∧ Below w.heap.size w w' := by
  have hc := qparts_any k
  rw [hp] at hc
  clear hp
  go_enter Try.func24, Try.ntmps24
  go_wp2_with (go_at_call 40; refine (hc _).mono ?_; rintro e w' ⟨rfl, rfl⟩)
  (try (go_quiet (fail); go_wp2_with (go_at_call 40; refine (hc _).mono ?_; rintro e w' ⟨rfl, rfl⟩)))
  (try (go_quiet (fail); go_wp2_with fail))
  (try (go_quiet (fail); go_wp2_with fail))
  go_ret
  exact ⟨rfl, by repeat (first | exact Below.refl _ _ | exact (Below.refl _ _).alloc (Nat.le_refl _) _ | refine below_drewN ?_ _)⟩
end Go.Proofs.Ytccknopchddicaa
