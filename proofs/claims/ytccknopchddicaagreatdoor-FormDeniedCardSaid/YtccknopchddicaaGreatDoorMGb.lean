/- contracts: form.parts, form.one, form.Check. -/
import Derived.Test.YtccknopchddicaaGreatDoorMW0
set_option linter.unusedSimpArgs false
set_option linter.unusedVariables false
set_option linter.unnecessarySimpa false
namespace Go.Proofs.YtccknopchddicaaGreatDoor
open Go.RowKit Stile
def partsP (k : Int) : Int := if k = 0 ∨ k = 1 ∨ k = 2 then 0 else if k = 3 ∨ k = 6 ∨ k = 7 then 1 else 2
theorem parts_any (k : Int) (w : World) : Calls Tryz.prog 68 #[.int .i64 k] w fun e w' => e = .returned (.int .i64 (partsP k)) ∧ w = w' := by
  go_enter Tryz.func68, Tryz.ntmps68
  go_wp2
  all_goals (go_ret; refine ⟨?_, rfl⟩; simp_all [partsP])

def oneP (M i : Int) (x : Nd) : Int :=
  if x.k < 0 ∨ 9 < x.k then 1
  else if x.k = 2 ∧ (x.a < 0 ∨ M ≤ x.a) then 1
  else if (0 < partsP x.k ∧ (x.a < 0 ∨ i ≤ x.a)) ∨ (1 < partsP x.k ∧ (x.b < 0 ∨ i ≤ x.b)) then 3
  else if (partsP x.k < 2 ∧ x.b ≠ 0) ∨ (partsP x.k < 1 ∧ x.k ≠ 2 ∧ x.a ≠ 0) then 3
  else 0
set_option maxHeartbeats 400000 in
theorem one_neg (L : Nat) (M i k a b : Int) (w : World) (hL1 : 1 ≤ L) (hL6 : L ≤ 6) (hM : IntKind.i64.wrap (2 ^ L) = M) (hk : k < 0) : Calls Tryz.prog 67 #[.int .i64 L, .int .i64 i, .agg #[.int .i64 k, .int .i64 a, .int .i64 b]] w fun e w' => e = .returned (errV 1) ∧ Below w.heap.size w w' := by
  have hc := parts_any k
  go_enter Tryz.func67, Tryz.ntmps67
  go_wp2_with (go_at_call 68; refine (hc _).mono ?_; rintro e w' ⟨rfl, rfl⟩)
  (try (go_quiet (fail); go_wp2_with (go_at_call 68; refine (hc _).mono ?_; rintro e w' ⟨rfl, rfl⟩)))
  (try (go_quiet (fail); go_wp2_with fail))
  (try (go_quiet (fail); go_wp2_with fail))
  go_ret
  exact ⟨rfl, by repeat (first | exact Below.refl _ _ | exact (Below.refl _ _).alloc (Nat.le_refl _) _ | refine below_drewN ?_ _)⟩
set_option maxHeartbeats 400000 in
theorem one_big (L : Nat) (M i k a b : Int) (w : World) (hL1 : 1 ≤ L) (hL6 : L ≤ 6) (hM : IntKind.i64.wrap (2 ^ L) = M) (hk : 9 < k) : Calls Tryz.prog 67 #[.int .i64 L, .int .i64 i, .agg #[.int .i64 k, .int .i64 a, .int .i64 b]] w fun e w' => e = .returned (errV 1) ∧ Below w.heap.size w w' := by
  have hk0 : ¬ k < 0 := by omega
  have hc := parts_any k
  go_enter Tryz.func67, Tryz.ntmps67
  go_wp2_with (go_at_call 68; refine (hc _).mono ?_; rintro e w' ⟨rfl, rfl⟩)
  (try (go_quiet (fail); go_wp2_with (go_at_call 68; refine (hc _).mono ?_; rintro e w' ⟨rfl, rfl⟩)))
  (try (go_quiet (fail); go_wp2_with fail))
  (try (go_quiet (fail); go_wp2_with fail))
  go_ret
  exact ⟨rfl, by repeat (first | exact Below.refl _ _ | exact (Below.refl _ _).alloc (Nat.le_refl _) _ | refine below_drewN ?_ _)⟩
set_option maxHeartbeats 400000 in
theorem one_is_low (L : Nat) (M i k a b : Int) (w : World) (hL1 : 1 ≤ L) (hL6 : L ≤ 6) (hM : IntKind.i64.wrap (2 ^ L) = M) (hk : k = 2) (ha : a < 0) : Calls Tryz.prog 67 #[.int .i64 L, .int .i64 i, .agg #[.int .i64 k, .int .i64 a, .int .i64 b]] w fun e w' => e = .returned (errV 1) ∧ Below w.heap.size w w' := by
  subst hk
  have hp : partsP 2 = 0 := rfl
  have hc := parts_any 2
  rw [hp] at hc
  clear hp
  go_enter Tryz.func67, Tryz.ntmps67
  go_wp2_with (go_at_call 68; refine (hc _).mono ?_; rintro e w' ⟨rfl, rfl⟩)
  (try (go_quiet (fail); go_wp2_with (go_at_call 68; refine (hc _).mono ?_; rintro e w' ⟨rfl, rfl⟩)))
  (try (go_quiet (fail); go_wp2_with fail))
  (try (go_quiet (fail); go_wp2_with fail))
  go_ret
  exact ⟨rfl, by repeat (first | exact Below.refl _ _ | exact (Below.refl _ _).alloc (Nat.le_refl _) _ | refine below_drewN ?_ _)⟩
set_option maxHeartbeats 400000 in
theorem one_is_high (L : Nat) (M i k a b : Int) (w : World) (hL1 : 1 ≤ L) (hL6 : L ≤ 6) (hM : IntKind.i64.wrap (2 ^ L) = M) (hk : k = 2) (ha : 0 ≤ a) (ha' : M ≤ a) : Calls Tryz.prog 67 #[.int .i64 L, .int .i64 i, .agg #[.int .i64 k, .int .i64 a, .int .i64 b]] w fun e w' => e = .returned (errV 1) ∧ Below w.heap.size w w' := by
  subst hk
  have hp : partsP 2 = 0 := rfl
  have hc := parts_any 2
  rw [hp] at hc
  clear hp
  go_enter Tryz.func67, Tryz.ntmps67
  go_wp2_with (go_at_call 68; refine (hc _).mono ?_; rintro e w' ⟨rfl, rfl⟩)
  (try (go_quiet (fail); go_wp2_with (go_at_call 68; refine (hc _).mono ?_; rintro e w' ⟨rfl, rfl⟩)))
  (try (go_quiet (fail); go_wp2_with fail))
  (try (go_quiet (fail); go_wp2_with fail))
  go_ret
  exact ⟨rfl, by repeat (first | exact Below.refl _ _ | exact (Below.refl _ _).alloc (Nat.le_refl _) _ | refine below_drewN ?_ _)⟩
set_option maxHeartbeats 400000 in
theorem one_is_b (L : Nat) (M i k a b : Int) (w : World) (hL1 : 1 ≤ L) (hL6 : L ≤ 6) (hM : IntKind.i64.wrap (2 ^ L) = M) (hk : k = 2) (ha : 0 ≤ a) (ha' : a < M) (hb : (b != 0) = true) : Calls Tryz.prog 67 #[.int .i64 L, .int .i64 i, .agg #[.int .i64 k, .int .i64 a, .int .i64 b]] w fun e w' => e = .returned (errV 3) ∧ Below w.heap.size w w' := by
  subst hk
  have hp : partsP 2 = 0 := rfl
  have hc := parts_any 2
  rw [hp] at hc
  clear hp
  go_enter Tryz.func67, Tryz.ntmps67
  go_wp2_with (go_at_call 68; refine (hc _).mono ?_; rintro e w' ⟨rfl, rfl⟩)
  (try (go_quiet (fail); go_wp2_with (go_at_call 68; refine (hc _).mono ?_; rintro e w' ⟨rfl, rfl⟩)))
  (try (go_quiet (fail); go_wp2_with fail))
  (try (go_quiet (fail); go_wp2_with fail))
  go_ret
  exact ⟨rfl, by repeat (first | exact Below.refl _ _ | exact (Below.refl _ _).alloc (Nat.le_refl _) _ | refine below_drewN ?_ _)⟩
set_option maxHeartbeats 400000 in
theorem one_is_ok (L : Nat) (M i k a b : Int) (w : World) (hL1 : 1 ≤ L) (hL6 : L ≤ 6) (hM : IntKind.i64.wrap (2 ^ L) = M) (hk : k = 2) (ha : 0 ≤ a) (ha' : a < M) (hb : b = 0) : Calls Tryz.prog 67 #[.int .i64 L, .int .i64 i, .agg #[.int .i64 k, .int .i64 a, .int .i64 b]] w fun e w' => e = .returned (errV 0) ∧ Below w.heap.size w w' := by
  subst hk
  subst hb
  have hp : partsP 2 = 0 := rfl
  have hc := parts_any 2
  rw [hp] at hc
  clear hp
  go_enter Tryz.func67, Tryz.ntmps67
  go_wp2_with (go_at_call 68; refine (hc _).mono ?_; rintro e w' ⟨rfl, rfl⟩)
  (try (go_quiet (fail); go_wp2_with (go_at_call 68; refine (hc _).mono ?_; rintro e w' ⟨rfl, rfl⟩)))
  (try (go_quiet (fail); go_wp2_with fail))
  (try (go_quiet (fail); go_wp2_with fail))
  go_ret
  exact ⟨rfl, by repeat (first | exact Below.refl _ _ | exact (Below.refl _ _).alloc (Nat.le_refl _) _ | refine below_drewN ?_ _)⟩
set_option maxHeartbeats 400000 in
theorem one_leaf_b (L : Nat) (M i k a b : Int) (w : World) (hL1 : 1 ≤ L) (hL6 : L ≤ 6) (hM : IntKind.i64.wrap (2 ^ L) = M) (h0 : 0 ≤ k) (h9 : k ≤ 9) (h2 : (k == 2) = false) (h2' : (k != 2) = true) (hp : partsP k = 0) (hb : (b != 0) = true) : Calls Tryz.prog 67 #[.int .i64 L, .int .i64 i, .agg #[.int .i64 k, .int .i64 a, .int .i64 b]] w fun e w' => e = .returned (errV 3) ∧ Below w.heap.size w w' := by
  have hk0 : ¬ k < 0 := by omega
  have hk9 : ¬ 9 < k := by omega
  have hc := parts_any k
  rw [hp] at hc
  clear hp
  go_enter Tryz.func67, Tryz.ntmps67
  go_wp2_with (go_at_call 68; refine (hc _).mono ?_; rintro e w' ⟨rfl, rfl⟩)
  (try (go_quiet (fail); go_wp2_with (go_at_call 68; refine (hc _).mono ?_; rintro e w' ⟨rfl, rfl⟩)))
  (try (go_quiet (fail); go_wp2_with fail))
  (try (go_quiet (fail); go_wp2_with fail))
  go_ret
  exact ⟨rfl, by repeat (first | exact Below.refl _ _ | exact (Below.refl _ _).alloc (Nat.le_refl _) _ | refine below_drewN ?_ _)⟩
set_option maxHeartbeats 400000 in
theorem one_leaf_a (L : Nat) (M i k a b : Int) (w : World) (hL1 : 1 ≤ L) (hL6 : L ≤ 6) (hM : IntKind.i64.wrap (2 ^ L) = M) (h0 : 0 ≤ k) (h9 : k ≤ 9) (h2 : (k == 2) = false) (h2' : (k != 2) = true) (hp : partsP k = 0) (hb : b = 0) (ha : (a != 0) = true) : Calls Tryz.prog 67 #[.int .i64 L, .int .i64 i, .agg #[.int .i64 k, .int .i64 a, .int .i64 b]] w fun e w' => e = .returned (errV 3) ∧ Below w.heap.size w w' := by
  subst hb
  have hk0 : ¬ k < 0 := by omega
  have hk9 : ¬ 9 < k := by omega
  have hc := parts_any k
  rw [hp] at hc
  clear hp
  go_enter Tryz.func67, Tryz.ntmps67
  go_wp2_with (go_at_call 68; refine (hc _).mono ?_; rintro e w' ⟨rfl, rfl⟩)
  (try (go_quiet (fail); go_wp2_with (go_at_call 68; refine (hc _).mono ?_; rintro e w' ⟨rfl, rfl⟩)))
  (try (go_quiet (fail); go_wp2_with fail))
  (try (go_quiet (fail); go_wp2_with fail))
  go_ret
  exact ⟨rfl, by repeat (first | exact Below.refl _ _ | exact (Below.refl _ _).alloc (Nat.le_refl _) _ | refine below_drewN ?_ _)⟩
set_option maxHeartbeats 400000 in
theorem one_leaf_ok (L : Nat) (M i k a b : Int) (w : World) (hL1 : 1 ≤ L) (hL6 : L ≤ 6) (hM : IntKind.i64.wrap (2 ^ L) = M) (h0 : 0 ≤ k) (h9 : k ≤ 9) (h2 : (k == 2) = false) (h2' : (k != 2) = true) (hp : partsP k = 0) (hb : b = 0) (ha : a = 0) : Calls Tryz.prog 67 #[.int .i64 L, .int .i64 i, .agg #[.int .i64 k, .int .i64 a, .int .i64 b]] w fun e w' => e = .returned (errV 0) ∧ Below w.heap.size w w' := by
  subst hb
  subst ha
  have hk0 : ¬ k < 0 := by omega
  have hk9 : ¬ 9 < k := by omega
  have hc := parts_any k
  rw [hp] at hc
  clear hp
  go_enter Tryz.func67, Tryz.ntmps67
  go_wp2_with (go_at_call 68; refine (hc _).mono ?_; rintro e w' ⟨rfl, rfl⟩)
  (try (go_quiet (fail); go_wp2_with (go_at_call 68; refine (hc _).mono ?_; rintro e w' ⟨rfl, rfl⟩)))
  (try (go_quiet (fail); go_wp2_with fail))
  (try (go_quiet (fail); go_wp2_with fail))
  go_ret
  exact ⟨rfl, by repeat (first | exact Below.refl _ _ | exact (Below.refl _ _).alloc (Nat.le_refl _) _ | refine below_drewN ?_ _)⟩
set_option maxHeartbeats 400000 in
theorem one_un_low (L : Nat) (M i k a b : Int) (w : World) (hL1 : 1 ≤ L) (hL6 : L ≤ 6) (hM : IntKind.i64.wrap (2 ^ L) = M) (h0 : 0 ≤ k) (h9 : k ≤ 9) (h2 : (k == 2) = false) (h2' : (k != 2) = true) (hp : partsP k = 1) (ha : a < 0) : Calls Tryz.prog 67 #[.int .i64 L, .int .i64 i, .agg #[.int .i64 k, .int .i64 a, .int .i64 b]] w fun e w' => e = .returned (errV 3) ∧ Below w.heap.size w w' := by
  have hk0 : ¬ k < 0 := by omega
  have hk9 : ¬ 9 < k := by omega
  have hc := parts_any k
  rw [hp] at hc
  clear hp
  go_enter Tryz.func67, Tryz.ntmps67
  go_wp2_with (go_at_call 68; refine (hc _).mono ?_; rintro e w' ⟨rfl, rfl⟩)
  (try (go_quiet (fail); go_wp2_with (go_at_call 68; refine (hc _).mono ?_; rintro e w' ⟨rfl, rfl⟩)))
  (try (go_quiet (fail); go_wp2_with fail))
  (try (go_quiet (fail); go_wp2_with fail))
  go_ret
  exact ⟨rfl, by repeat (first | exact Below.refl _ _ | exact (Below.refl _ _).alloc (Nat.le_refl _) _ | refine below_drewN ?_ _)⟩
set_option maxHeartbeats 400000 in
theorem one_un_high (L : Nat) (M i k a b : Int) (w : World) (hL1 : 1 ≤ L) (hL6 : L ≤ 6) (hM : IntKind.i64.wrap (2 ^ L) = M) (h0 : 0 ≤ k) (h9 : k ≤ 9) (h2 : (k == 2) = false) (h2' : (k != 2) = true) (hp : partsP k = 1) (ha : 0 ≤ a) (ha' : i ≤ a) : Calls Tryz.prog 67 #[.int .i64 L, .int .i64 i, .agg #[.int .i64 k, .int .i64 a, .int .i64 b]] w fun e w' => e = .returned (errV 3) ∧ Below w.heap.size w w' := by
  have hk0 : ¬ k < 0 := by omega
  have hk9 : ¬ 9 < k := by omega
  have hc := parts_any k
  rw [hp] at hc
  clear hp
  go_enter Tryz.func67, Tryz.ntmps67
  go_wp2_with (go_at_call 68; refine (hc _).mono ?_; rintro e w' ⟨rfl, rfl⟩)
  (try (go_quiet (fail); go_wp2_with (go_at_call 68; refine (hc _).mono ?_; rintro e w' ⟨rfl, rfl⟩)))
  (try (go_quiet (fail); go_wp2_with fail))
  (try (go_quiet (fail); go_wp2_with fail))
  go_ret
  exact ⟨rfl, by repeat (first | exact Below.refl _ _ | exact (Below.refl _ _).alloc (Nat.le_refl _) _ | refine below_drewN ?_ _)⟩
set_option maxHeartbeats 400000 in
theorem one_un_b (L : Nat) (M i k a b : Int) (w : World) (hL1 : 1 ≤ L) (hL6 : L ≤ 6) (hM : IntKind.i64.wrap (2 ^ L) = M) (h0 : 0 ≤ k) (h9 : k ≤ 9) (h2 : (k == 2) = false) (h2' : (k != 2) = true) (hp : partsP k = 1) (ha : 0 ≤ a) (ha' : a < i) (hb : (b != 0) = true) : Calls Tryz.prog 67 #[.int .i64 L, .int .i64 i, .agg #[.int .i64 k, .int .i64 a, .int .i64 b]] w fun e w' => e = .returned (errV 3) ∧ Below w.heap.size w w' := by
  have hk0 : ¬ k < 0 := by omega
  have hk9 : ¬ 9 < k := by omega
  have hc := parts_any k
  rw [hp] at hc
  clear hp
  go_enter Tryz.func67, Tryz.ntmps67
  go_wp2_with (go_at_call 68; refine (hc _).mono ?_; rintro e w' ⟨rfl, rfl⟩)
  (try (go_quiet (fail); go_wp2_with (go_at_call 68; refine (hc _).mono ?_; rintro e w' ⟨rfl, rfl⟩)))
  (try (go_quiet (fail); go_wp2_with fail))
  (try (go_quiet (fail); go_wp2_with fail))
  go_ret
  exact ⟨rfl, by repeat (first | exact Below.refl _ _ | exact (Below.refl _ _).alloc (Nat.le_refl _) _ | refine below_drewN ?_ _)⟩
set_option maxHeartbeats 400000 in
theorem one_un_ok (L : Nat) (M i k a b : Int) (w : World) (hL1 : 1 ≤ L) (hL6 : L ≤ 6) (hM : IntKind.i64.wrap (2 ^ L) = M) (h0 : 0 ≤ k) (h9 : k ≤ 9) (h2 : (k == 2) = false) (h2' : (k != 2) = true) (hp : partsP k = 1) (ha : 0 ≤ a) (ha' : a < i) (hb : b = 0) : Calls Tryz.prog 67 #[.int .i64 L, .int .i64 i, .agg #[.int .i64 k, .int .i64 a, .int .i64 b]] w fun e w' => e = .returned (errV 0) ∧ Below w.heap.size w w' := by
  subst hb
  have hk0 : ¬ k < 0 := by omega
  have hk9 : ¬ 9 < k := by omega
  have hc := parts_any k
  rw [hp] at hc
  clear hp
  go_enter Tryz.func67, Tryz.ntmps67
  go_wp2_with (go_at_call 68; refine (hc _).mono ?_; rintro e w' ⟨rfl, rfl⟩)
  (try (go_quiet (fail); go_wp2_with (go_at_call 68; refine (hc _).mono ?_; rintro e w' ⟨rfl, rfl⟩)))
  (try (go_quiet (fail); go_wp2_with fail))
  (try (go_quiet (fail); go_wp2_with fail))
  go_ret
  exact ⟨rfl, by repeat (first | exact Below.refl _ _ | exact (Below.refl _ _).alloc (Nat.le_refl _) _ | refine below_drewN ?_ _)⟩
set_option maxHeartbeats 400000 in
theorem one_bin_low (L : Nat) (M i k a b : Int) (w : World) (hL1 : 1 ≤ L) (hL6 : L ≤ 6) (hM : IntKind.i64.wrap (2 ^ L) = M) (h0 : 0 ≤ k) (h9 : k ≤ 9) (h2 : (k == 2) = false) (h2' : (k != 2) = true) (hp : partsP k = 2) (ha : a < 0) : Calls Tryz.prog 67 #[.int .i64 L, .int .i64 i, .agg #[.int .i64 k, .int .i64 a, .int .i64 b]] w fun e w' => e = .returned (errV 3) ∧ Below w.heap.size w w' := by
  have hk0 : ¬ k < 0 := by omega
  have hk9 : ¬ 9 < k := by omega
  have hc := parts_any k
  rw [hp] at hc
  clear hp
  go_enter Tryz.func67, Tryz.ntmps67
  go_wp2_with (go_at_call 68; refine (hc _).mono ?_; rintro e w' ⟨rfl, rfl⟩)
  (try (go_quiet (fail); go_wp2_with (go_at_call 68; refine (hc _).mono ?_; rintro e w' ⟨rfl, rfl⟩)))
  (try (go_quiet (fail); go_wp2_with fail))
  (try (go_quiet (fail); go_wp2_with fail))
  go_ret
  exact ⟨rfl, by repeat (first | exact Below.refl _ _ | exact (Below.refl _ _).alloc (Nat.le_refl _) _ | refine below_drewN ?_ _)⟩
set_option maxHeartbeats 400000 in
theorem one_bin_high (L : Nat) (M i k a b : Int) (w : World) (hL1 : 1 ≤ L) (hL6 : L ≤ 6) (hM : IntKind.i64.wrap (2 ^ L) = M) (h0 : 0 ≤ k) (h9 : k ≤ 9) (h2 : (k == 2) = false) (h2' : (k != 2) = true) (hp : partsP k = 2) (ha : 0 ≤ a) (ha' : i ≤ a) : Calls Tryz.prog 67 #[.int .i64 L, .int .i64 i, .agg #[.int .i64 k, .int .i64 a, .int .i64 b]] w fun e w' => e = .returned (errV 3) ∧ Below w.heap.size w w' := by
  have hk0 : ¬ k < 0 := by omega
  have hk9 : ¬ 9 < k := by omega
  have hc := parts_any k
  rw [hp] at hc
  clear hp
  go_enter Tryz.func67, Tryz.ntmps67
  go_wp2_with (go_at_call 68; refine (hc _).mono ?_; rintro e w' ⟨rfl, rfl⟩)
  (try (go_quiet (fail); go_wp2_with (go_at_call 68; refine (hc _).mono ?_; rintro e w' ⟨rfl, rfl⟩)))
  (try (go_quiet (fail); go_wp2_with fail))
  (try (go_quiet (fail); go_wp2_with fail))
  go_ret
  exact ⟨rfl, by repeat (first | exact Below.refl _ _ | exact (Below.refl _ _).alloc (Nat.le_refl _) _ | refine below_drewN ?_ _)⟩
set_option maxHeartbeats 400000 in
theorem one_bin_blow (L : Nat) (M i k a b : Int) (w : World) (hL1 : 1 ≤ L) (hL6 : L ≤ 6) (hM : IntKind.i64.wrap (2 ^ L) = M) (h0 : 0 ≤ k) (h9 : k ≤ 9) (h2 : (k == 2) = false) (h2' : (k != 2) = true) (hp : partsP k = 2) (ha : 0 ≤ a) (ha' : a < i) (hb : b < 0) : Calls Tryz.prog 67 #[.int .i64 L, .int .i64 i, .agg #[.int .i64 k, .int .i64 a, .int .i64 b]] w fun e w' => e = .returned (errV 3) ∧ Below w.heap.size w w' := by
  have hk0 : ¬ k < 0 := by omega
  have hk9 : ¬ 9 < k := by omega
  have hc := parts_any k
  rw [hp] at hc
  clear hp
  go_enter Tryz.func67, Tryz.ntmps67
  go_wp2_with (go_at_call 68; refine (hc _).mono ?_; rintro e w' ⟨rfl, rfl⟩)
  (try (go_quiet (fail); go_wp2_with (go_at_call 68; refine (hc _).mono ?_; rintro e w' ⟨rfl, rfl⟩)))
  (try (go_quiet (fail); go_wp2_with fail))
  (try (go_quiet (fail); go_wp2_with fail))
  go_ret
  exact ⟨rfl, by repeat (first | exact Below.refl _ _ | exact (Below.refl _ _).alloc (Nat.le_refl _) _ | refine below_drewN ?_ _)⟩
set_option maxHeartbeats 400000 in
theorem one_bin_bhigh (L : Nat) (M i k a b : Int) (w : World) (hL1 : 1 ≤ L) (hL6 : L ≤ 6) (hM : IntKind.i64.wrap (2 ^ L) = M) (h0 : 0 ≤ k) (h9 : k ≤ 9) (h2 : (k == 2) = false) (h2' : (k != 2) = true) (hp : partsP k = 2) (ha : 0 ≤ a) (ha' : a < i) (hb : 0 ≤ b) (hb' : i ≤ b) : Calls Tryz.prog 67 #[.int .i64 L, .int .i64 i, .agg #[.int .i64 k, .int .i64 a, .int .i64 b]] w fun e w' => e = .returned (errV 3) ∧ Below w.heap.size w w' := by
  have hk0 : ¬ k < 0 := by omega
  have hk9 : ¬ 9 < k := by omega
  have hc := parts_any k
  rw [hp] at hc
  clear hp
  go_enter Tryz.func67, Tryz.ntmps67
  go_wp2_with (go_at_call 68; refine (hc _).mono ?_; rintro e w' ⟨rfl, rfl⟩)
  (try (go_quiet (fail); go_wp2_with (go_at_call 68; refine (hc _).mono ?_; rintro e w' ⟨rfl, rfl⟩)))
  (try (go_quiet (fail); go_wp2_with fail))
  (try (go_quiet (fail); go_wp2_with fail))
  go_ret
  exact ⟨rfl, by repeat (first | exact Below.refl _ _ | exact (Below.refl _ _).alloc (Nat.le_refl _) _ | refine below_drewN ?_ _)⟩
set_option maxHeartbeats 400000 in
theorem one_bin_ok (L : Nat) (M i k a b : Int) (w : World) (hL1 : 1 ≤ L) (hL6 : L ≤ 6) (hM : IntKind.i64.wrap (2 ^ L) = M) (h0 : 0 ≤ k) (h9 : k ≤ 9) (h2 : (k == 2) = false) (h2' : (k != 2) = true) (hp : partsP k = 2) (ha : 0 ≤ a) (ha' : a < i) (hb : 0 ≤ b) (hb' : b < i) : Calls Tryz.prog 67 #[.int .i64 L, .int .i64 i, .agg #[.int .i64 k, .int .i64 a, .int .i64 b]] w fun e w' => e = .returned (errV 0) ∧ Below w.heap.size w w' := by
  have hk0 : ¬ k < 0 := by omega
  have hk9 : ¬ 9 < k := by omega
  have hc := parts_any k
  rw [hp] at hc
  clear hp
  go_enter Tryz.func67, Tryz.ntmps67
  go_wp2_with (go_at_call 68; refine (hc _).mono ?_; rintro e w' ⟨rfl, rfl⟩)
  (try (go_quiet (fail); go_wp2_with (go_at_call 68; refine (hc _).mono ?_; rintro e w' ⟨rfl, rfl⟩)))
  (try (go_quiet (fail); go_wp2_with fail))
  (try (go_quiet (fail); go_wp2_with fail))
  go_ret
  exact ⟨rfl, by repeat (first | exact Below.refl _ _ | exact (Below.refl _ _).alloc (Nat.le_refl _) _ | refine below_drewN ?_ _)⟩
end Go.Proofs.YtccknopchddicaaGreatDoor
/- contract: form.one. -/
namespace Go.Proofs.YtccknopchddicaaGreatDoor
open Go.RowKit Stile
theorem partsP_cases (k : Int) : partsP k = 0 ∨ partsP k = 1 ∨ partsP k = 2 := by
  unfold partsP
  split
  · exact .inl rfl
  · split
    · exact .inr (.inl rfl)
    · exact .inr (.inr rfl)
theorem one_any (L : Nat) (M i : Int) (x : Nd) (w : World) (hL1 : 1 ≤ L) (hL6 : L ≤ 6) (hM : IntKind.i64.wrap (2 ^ L) = M) : Calls Tryz.prog 67 #[.int .i64 L, .int .i64 i, .agg #[.int .i64 x.k, .int .i64 x.a, .int .i64 x.b]] w fun e w' => e = .returned (errV (oneP M i x)) ∧ Below w.heap.size w w' := by
  obtain ⟨k, a, b⟩ := x
  dsimp only
  unfold oneP
  dsimp only
  by_cases c1 : k < 0
  · rw [if_pos (.inl c1)]; exact one_neg L M i k a b w hL1 hL6 hM c1
  by_cases c2 : 9 < k
  · rw [if_pos (.inr c2)]; exact one_big L M i k a b w hL1 hL6 hM c2
  rw [if_neg (by omega)]
  by_cases c3 : k = 2
  · have hp : partsP k = 0 := by subst c3; rfl
    rw [hp]
    by_cases c4 : a < 0
    · rw [if_pos ⟨c3, .inl c4⟩]; exact one_is_low L M i k a b w hL1 hL6 hM c3 c4
    by_cases c5 : M ≤ a
    · rw [if_pos ⟨c3, .inr c5⟩]; exact one_is_high L M i k a b w hL1 hL6 hM c3 (by omega) c5
    rw [if_neg (by omega), if_neg (by omega)]
    by_cases c6 : b = 0
    · rw [if_neg (by omega)]; exact one_is_ok L M i k a b w hL1 hL6 hM c3 (by omega) (by omega) c6
    · rw [if_pos (.inl ⟨by omega, c6⟩)]; exact one_is_b L M i k a b w hL1 hL6 hM c3 (by omega) (by omega) (by simpa using c6)
  rw [if_neg (by omega)]
  have h2 : (k == 2) = false := by simpa using c3
  have h2' : (k != 2) = true := by simpa using c3
  have hps := partsP_cases k
  rcases hps with hp | hp | hp
  · rw [hp, if_neg (by omega)]
    by_cases c6 : b = 0
    · by_cases c7 : a = 0
      · rw [if_neg (by omega)]; exact one_leaf_ok L M i k a b w hL1 hL6 hM (by omega) (by omega) h2 h2' hp c6 c7
      · rw [if_pos (.inr ⟨by omega, c3, c7⟩)]; exact one_leaf_a L M i k a b w hL1 hL6 hM (by omega) (by omega) h2 h2' hp c6 (by simpa using c7)
    · rw [if_pos (.inl ⟨by omega, c6⟩)]; exact one_leaf_b L M i k a b w hL1 hL6 hM (by omega) (by omega) h2 h2' hp (by simpa using c6)
  · rw [hp]
    by_cases c4 : a < 0
    · rw [if_pos (.inl ⟨by omega, .inl c4⟩)]; exact one_un_low L M i k a b w hL1 hL6 hM (by omega) (by omega) h2 h2' hp c4
    by_cases c5 : i ≤ a
    · rw [if_pos (.inl ⟨by omega, .inr c5⟩)]; exact one_un_high L M i k a b w hL1 hL6 hM (by omega) (by omega) h2 h2' hp (by omega) c5
    rw [if_neg (by omega)]
    by_cases c6 : b = 0
    · rw [if_neg (by omega)]; exact one_un_ok L M i k a b w hL1 hL6 hM (by omega) (by omega) h2 h2' hp (by omega) (by omega) c6
    · rw [if_pos (.inl ⟨by omega, c6⟩)]; exact one_un_b L M i k a b w hL1 hL6 hM (by omega) (by omega) h2 h2' hp (by omega) (by omega) (by simpa using c6)
  · rw [hp]
    by_cases c4 : a < 0
    · rw [if_pos (.inl ⟨by omega, .inl c4⟩)]; exact one_bin_low L M i k a b w hL1 hL6 hM (by omega) (by omega) h2 h2' hp c4
    by_cases c5 : i ≤ a
    · rw [if_pos (.inl ⟨by omega, .inr c5⟩)]; exact one_bin_high L M i k a b w hL1 hL6 hM (by omega) (by omega) h2 h2' hp (by omega) c5
    by_cases c6 : b < 0
    · rw [if_pos (.inr ⟨by omega, .inl c6⟩)]; exact one_bin_blow L M i k a b w hL1 hL6 hM (by omega) (by omega) h2 h2' hp (by omega) (by omega) c6
    by_cases c7 : i ≤ b
    · rw [if_pos (.inr ⟨by omega, .inr c7⟩)]; exact one_bin_bhigh L M i k a b w hL1 hL6 hM (by omega) (by omega) h2 h2' hp (by omega) (by omega) (by omega) c7
    rw [if_neg (by omega), if_neg (by omega)]; exact one_bin_ok L M i k a b w hL1 hL6 hM (by omega) (by omega) h2 h2' hp (by omega) (by omega) (by omega) (by omega)
end Go.Proofs.YtccknopchddicaaGreatDoor
/- contracts: form.Check. -/
namespace Go.Proofs.YtccknopchddicaaGreatDoor
open Go.RowKit Stile
/-- the first thing that is wrong with the nodes from i on -/
def nodesP (M : Int) : Nat → List Nd → Int
  | _, [] => 0
  | i, x :: f => if oneP M i x = 0 then nodesP M (i + 1) f else oneP M i x
def checkP (L M : Int) (f : List Nd) : Int :=
  if L < 1 ∨ 6 < L then 1 else if f.length = 0 then 3 else if 40 < f.length then 4 else nodesP M 0 f

theorem check_letters (L : Int) (fv : Value) (w : World) (h : L < 1 ∨ 6 < L) : Calls Tryz.prog 48 #[.int .i64 L, fv] w fun e w' => e = .returned (errV 1) ∧ Below w.heap.size w w' := by
  by_cases h1 : L < 1
  · go_enter Tryz.func48, Tryz.ntmps48
    go_wp2
    go_ret
    exact ⟨rfl, Below.refl _ _⟩
  · have h6 : 6 < L := by omega
    go_enter Tryz.func48, Tryz.ntmps48
    go_wp2
    go_ret
    exact ⟨rfl, Below.refl _ _⟩
theorem check_len (L : Int) (A : Option Addr) (n c : Nat) (w : World) (h1 : 1 ≤ L) (h6 : L ≤ 6) (hn : n = 0 ∨ 40 < n) : Calls Tryz.prog 48 #[.int .i64 L, .slice A n c] w fun e w' => e = .returned (errV (if n = 0 then 3 else 4)) ∧ Below w.heap.size w w' := by
  by_cases h0 : n = 0
  · subst h0
    go_enter Tryz.func48, Tryz.ntmps48
    go_wp2
    go_ret
    exact ⟨rfl, Below.refl _ _⟩
  · have h40 : 40 < n := by omega
    have h0' : 0 < n := by omega
    clear hn
    go_enter Tryz.func48, Tryz.ntmps48
    go_wp2
    go_ret
    exact ⟨rfl, Below.refl _ _⟩
theorem nodesP_step (M : Int) (f : List Nd) (k : Nat) (h : k < f.length) : nodesP M k (f.drop k) = if oneP M k (nd f k) = 0 then nodesP M (k + 1) (f.drop (k + 1)) else oneP M k (nd f k) := by
  have e : f.drop k = nd f k :: f.drop (k + 1) := by
    rw [List.drop_eq_getElem_cons h]; simp [nd, List.getD, h]
  rw [e, nodesP]
set_option maxHeartbeats 400000 in
theorem check_nodes (L : Nat) (M : Int) (fv : Value) (f : List Nd) (w : World) (h1 : 1 ≤ L) (h6 : L ≤ 6) (hM : IntKind.i64.wrap (2 ^ L) = M) (hf : RdN w w.heap.size fv f) (hn0 : 0 < f.length) (hn : f.length ≤ 40) :
    Calls Tryz.prog 48 #[.int .i64 L, fv] w fun e w' => e = .returned (errV (nodesP M 0 f)) ∧ Below w.heap.size w w' := by
  obtain ⟨b, off, c, rfl, hlc, hb, hcell⟩ := hf.at_ hn0
  have H1 := fun (i : Nat) (w : World) => one_any L M i (nd f i) w h1 h6 hM
  have hstep := fun (i : Nat) => nodesP_step M f i
  clear hM hf
  generalize hR : nodesP M 0 f = R
  have HR := Lib.hid hR
  clear hR
  have b1 : decide ((L : Int) < 1) = false := by simp; omega
  have b2 : decide ((6 : Int) < L) = false := by simp; omega
  have b3 : ((f.length : Int) == 0) = false := beq_eq_false_iff_ne.2 (by omega)
  have b4 : decide ((40 : Int) < f.length) = false := by simp; omega
  go_enter Tryz.func48, Tryz.ntmps48
  go_wp2
  clear b1 b2 b3 b4
  go_loopw [25] (fun i wr => ∃ (k : Nat), k ≤ f.length ∧ i = .int .i64 k ∧ Below w.heap.size w wr ∧ nodesP M k (f.drop k) = R) (fun i _ => f.length - (intOf i).toNat)
  case atStart => exact ⟨0, by omega, rfl, Below.refl _ _, by rw [← HR.out]; rfl⟩
  case round =>
    obtain ⟨k, hk, rfl, hB, hrest⟩ := hrel
    have hst := hstep k
    clear hstep
    by_cases hlt : k < f.length
    · have hc1 := (hcell k hlt)
      rw [← hB.cell (p := ⟨b, off + k*3, none⟩) hb, ← hB.cell (p := ⟨b, off + k*3+1, none⟩) hb, ← hB.cell (p := ⟨b, off + k*3+2, none⟩) hb] at hc1
      obtain ⟨c1, c2, c3⟩ := hc1
      rw [hst hlt] at hrest
      have H := fun w => H1 k w
      clear hcell hst H1
      by_cases h0 : oneP M k (nd f k) = 0
      · rw [if_pos h0] at hrest
        have HS := Lib.hid hrest
        clear hrest
        rw [h0, errV_zero] at H
        clear h0
        go_wp2_with (go_at_call 67; refine (H _).mono ?_; rintro e w' ⟨rfl, hb1⟩)
        go_roundw
        case rel => exact ⟨k + 1, by omega, by go_num, (hB.alloc hB.size _).trans (hb1.mono (by have := hB.size; simp; omega)), HS.out⟩
        case measure => simp [intOf]; omega
      · rw [if_neg h0] at hrest
        rw [errV_pos h0] at H
        have HS := Lib.hid hrest
        have HN := Lib.hid h0
        clear hrest h0
        go_wp2_with (go_at_call 67; refine (H _).mono ?_; rintro e w' ⟨rfl, hb1⟩)
        go_ret
        exact ⟨by rw [← HS.out, errV_pos HN.out]; rfl, (hB.alloc hB.size _).trans (hb1.mono (by have := hB.size; simp; omega))⟩
    · have hR : R = 0 := by rw [← hrest, List.drop_eq_nil_of_le (by omega)]; rfl
      subst hR
      clear hrest hst
      go_wp2
      go_ret
      exact ⟨rfl, hB⟩
theorem check_any (L : Nat) (M : Int) (fv : Value) (f : List Nd) (w : World) (h1 : 1 ≤ L) (h6 : L ≤ 6) (hM : IntKind.i64.wrap (2 ^ L) = M) (hf : RdN w w.heap.size fv f) :
    Calls Tryz.prog 48 #[.int .i64 L, fv] w fun e w' => e = .returned (errV (checkP L M f)) ∧ Below w.heap.size w w' := by
  unfold checkP
  rw [if_neg (by omega)]
  by_cases hn : f.length = 0 ∨ 40 < f.length
  · obtain ⟨A, c, rfl, _⟩ := id hf
    have := check_len L A f.length c w (by omega) (by omega) hn
    by_cases h0 : f.length = 0
    · rw [if_pos h0]; rw [if_pos h0] at this; exact this
    · rw [if_neg h0, if_pos (by omega)]; rw [if_neg h0] at this; exact this
  · rw [if_neg (by omega), if_neg (by omega)]
    exact check_nodes L M fv f w h1 h6 hM hf (by omega) (by omega)
end Go.Proofs.YtccknopchddicaaGreatDoor
/- contracts: word.Check. -/
namespace Go.Proofs.YtccknopchddicaaGreatDoor
open Go.RowKit Stile
def badL (L a : Int) : Bool := decide (a < 0) || decide (L ≤ a)
def badAt (L : Int) (l : List Int) : Int := if l.findIdx (badL L) < l.length then (l.findIdx (badL L) : Int) else -1
def wcheckP (L : Int) (l : List Int) : Int := if L < 1 ∨ 6 < L then 1 else if 80 < l.length then 4 else if l.any (badL L) then 1 else 0

theorem wclosure (L a : Int) (p : Addr) (w : World) (hp : w.cell? p = some (.int .i64 L)) : Calls Tryz.prog 93 #[.int .i64 a, .pointer (some p)] w fun e w' => e = .returned (.bool (badL L a)) ∧ w = w' := by
  unfold badL
  go_enter Tryz.func93, Tryz.ntmps93
  go_wp2
  all_goals (go_ret; refine ⟨?_, rfl⟩; simp_all)

theorem index_any (L : Int) (lv : Value) (l : List Int) (p : Addr) (w : World) (hl : RdI w w.heap.size lv l) (hlen : l.length ≤ 80) (hp : w.cell? p = some (.int .i64 L)) :
    Calls Tryz.prog 112 #[lv, .func (.func 93) #[] #[.pointer (some p)]] w fun e w' => e = .returned (.int .i64 (badAt L l)) ∧ w = w' := by
  obtain ⟨A, c, rfl, hlc, hcell⟩ := hl
  have hA : 0 < l.length → ∃ b off, A = some ⟨b, off, none⟩ ∧ ∀ k, k < l.length → w.cell? ⟨b, off + k, none⟩ = some (.int .i64 (l.getD k 0)) := fun h => by
    obtain ⟨b, off, h1, _, h3⟩ := hcell h
    exact ⟨b, off, h1, fun k hk => h3 k (by omega)⟩
  clear hcell
  have H := fun a => wclosure L a p w hp
  clear hp
  go_enter Tryz.func112, Tryz.ntmps112
  go_wp2
  go_loop [8] (fun i => ∃ (k : Nat), k ≤ l.length ∧ i = .int .i64 k ∧ ∀ j, j < k → badL L (l.getD j 0) = false) (fun i => l.length - (intOf i).toNat)
  case atStart => exact ⟨0, by omega, rfl, fun j hj => absurd hj (by omega)⟩
  case round =>
    obtain ⟨k, hk, rfl, hold⟩ := hrel
    have HO := Lib.hid hold
    clear hold
    by_cases hlt : k < l.length
    · obtain ⟨b, off, rfl, hc⟩ := hA (by omega)
      have hc1 := hc k hlt
      clear hc hA
      obtain ⟨x, hx⟩ : ∃ x, l.getD k 0 = x := ⟨_, rfl⟩
      rw [hx] at hc1
      have Hk := H x
      have HX := Lib.hid hx
      clear H hx
      cases hbad : badL L x with
      | true =>
        rw [hbad] at Hk
        have HB := Lib.hid hbad
        clear hbad
        go_wp2_with (go_at_call 93; refine Hk.mono ?_; rintro e w' ⟨rfl, rfl⟩)
        go_ret
        refine ⟨?_, rfl⟩
        have hfi : l.findIdx (badL L) = k := by
          have hlt' := hlt
          rw [List.findIdx_eq hlt]
          refine ⟨by rw [← HX.out] at HB; have := HB.out; rw [List.getD, List.getElem?_eq_getElem hlt] at this; exact this, fun j hj => ?_⟩
          have := HO.out j hj
          rw [List.getD, List.getElem?_eq_getElem (by omega)] at this
          exact this
        rw [show badAt L l = (k : Int) by unfold badAt; rw [hfi, if_pos hlt]]
        rfl
      | false =>
        rw [hbad] at Hk
        have HB := Lib.hid hbad
        clear hbad
        go_wp2_with (go_at_call 93; refine Hk.mono ?_; rintro e w' ⟨rfl, rfl⟩)
        go_round
        case rel =>
          refine ⟨k + 1, by omega, by go_num, fun j hj => ?_⟩
          by_cases e : j = k
          · rw [e, HX.out]; exact HB.out
          · exact HO.out j (by omega)
        case measure => simp [intOf]; omega
    · go_wp2_with fail
      go_ret
      refine ⟨?_, rfl⟩
      have hfi : ¬ l.findIdx (badL L) < l.length := by
        intro h
        have h1 := List.findIdx_getElem (w := h)
        have h2 := HO.out _ (by omega : l.findIdx (badL L) < k)
        rw [List.getD, List.getElem?_eq_getElem h] at h2
        simp [h1] at h2
      rw [show badAt L l = -1 by unfold badAt; rw [if_neg hfi]]
      rfl

theorem contains_any (L : Int) (lv : Value) (l : List Int) (p : Addr) (w : World) (hl : RdI w w.heap.size lv l) (hlen : l.length ≤ 80) (hp : w.cell? p = some (.int .i64 L)) :
    Calls Tryz.prog 92 #[lv, .func (.func 93) #[] #[.pointer (some p)]] w fun e w' => e = .returned (.bool (l.any (badL L))) ∧ w = w' := by
  have H := index_any L lv l p w hl hlen hp
  have hany : l.any (badL L) = decide (0 ≤ badAt L l) := by
    unfold badAt
    by_cases h : l.findIdx (badL L) < l.length
    · rw [if_pos h]
      obtain ⟨x, hx, hb⟩ := List.findIdx_lt_length.1 h
      rw [List.any_eq_true.2 ⟨x, hx, hb⟩]
      simp
    · rw [if_neg h]
      rw [List.any_eq_false.2 (fun x hx hb => h (List.findIdx_lt_length.2 ⟨x, hx, hb⟩))]
      rfl
  rw [hany]
  generalize badAt L l = x at *
  clear hany hl hp
  go_enter Tryz.func92, Tryz.ntmps92
  go_wp2_with (go_at_call 112; refine H.mono ?_; rintro e w' ⟨rfl, rfl⟩)
  go_ret
  exact ⟨rfl, rfl⟩

theorem wcheck_any (L : Int) (lv : Value) (l : List Int) (w : World) (hl : RdI w w.heap.size lv l) :
    Calls Tryz.prog 64 #[.int .i64 L, lv] w fun e w' => e = .returned (errV (wcheckP L l)) ∧ Below w.heap.size w w' := by
  unfold wcheckP
  by_cases h1 : L < 1
  · rw [if_pos (.inl h1)]
    go_enter Tryz.func64, Tryz.ntmps64
    go_wp2_with fail
    go_ret
    exact ⟨rfl, (Below.refl _ _).alloc (Nat.le_refl _) _⟩
  by_cases h2 : 6 < L
  · rw [if_pos (.inr h2)]
    go_enter Tryz.func64, Tryz.ntmps64
    go_wp2_with fail
    go_ret
    exact ⟨rfl, (Below.refl _ _).alloc (Nat.le_refl _) _⟩
  rw [if_neg (by omega)]
  by_cases h3 : 80 < l.length
  · rw [if_pos h3]
    obtain ⟨A, c, rfl, _⟩ := hl
    go_enter Tryz.func64, Tryz.ntmps64
    go_wp2_with fail
    go_ret
    exact ⟨rfl, (Below.refl _ _).alloc (Nat.le_refl _) _⟩
  rw [if_neg h3]
  have hb := (Below.refl w.heap.size w).alloc (Nat.le_refl _) (.cells #[.int .i64 L] 3)
  have hl' : RdI (w.alloc (.cells #[.int .i64 L] 3)) (w.alloc (.cells #[.int .i64 L] 3)).heap.size lv l := Rd.mono (Rd.below hl hb) (by simp)
  have H := contains_any L lv l ⟨w.heap.size, 0, none⟩ (w.alloc (.cells #[.int .i64 L] 3)) hl' (by omega) (by simp [go_sem])
  clear hb hl'
  obtain ⟨A, c, rfl, _⟩ := hl
  cases hany : l.any (badL L) with
  | true =>
    rw [hany] at H
    clear hany
    go_enter Tryz.func64, Tryz.ntmps64
    go_wp2_with (go_at_call 92; refine H.mono ?_; rintro e w' ⟨rfl, rfl⟩)
    go_ret
    exact ⟨rfl, (Below.refl _ _).alloc (Nat.le_refl _) _⟩
  | false =>
    rw [hany] at H
    clear hany
    go_enter Tryz.func64, Tryz.ntmps64
    go_wp2_with (go_at_call 92; refine H.mono ?_; rintro e w' ⟨rfl, rfl⟩)
    go_ret
    exact ⟨rfl, (Below.refl _ _).alloc (Nat.le_refl _) _⟩
end Go.Proofs.YtccknopchddicaaGreatDoor
