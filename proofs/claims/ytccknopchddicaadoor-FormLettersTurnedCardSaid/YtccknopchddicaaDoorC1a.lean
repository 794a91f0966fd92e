/- contracts: form.parts, form.one, form.Check. -/
import Derived.Test.YtccknopchddicaaDoorW0
namespace Go.Proofs.YtccknopchddicaaDoor
open Go.RowKit Stile
def partsP (k : Int) : Int := if k = 0 ∨ k = 1 ∨ k = 2 then 0 else if k = 3 ∨ k = 6 ∨ k = 7 then 1 else 2
theorem parts_any (k : Int) (w : World) : Calls Tryd.prog 44 #[.int .i64 k] w fun e w' => e = .returned (.int .i64 (partsP k)) ∧ w = w' := by
  go_enter Tryd.func44, Tryd.ntmps44
  go_wp2
  all_goals (go_ret; refine ⟨?_, rfl⟩; simp_all [partsP])

def oneP (M i : Int) (x : Nd) : Int :=
  if x.k < 0 ∨ 9 < x.k then 1
  else if x.k = 2 ∧ (x.a < 0 ∨ M ≤ x.a) then 1
  else if (0 < partsP x.k ∧ (x.a < 0 ∨ i ≤ x.a)) ∨ (1 < partsP x.k ∧ (x.b < 0 ∨ i ≤ x.b)) then 3
  else if (partsP x.k < 2 ∧ x.b ≠ 0) ∨ (partsP x.k < 1 ∧ x.k ≠ 2 ∧ x.a ≠ 0) then 3
  else 0
set_option maxHeartbeats 400000 in
theorem one_neg (L : Nat) (M i k a b : Int) (w : World) (hL1 : 1 ≤ L) (hL6 : L ≤ 6) (hM : IntKind.i64.wrap (2 ^ L) = M) (hk : k < 0) : Calls Tryd.prog 32 #[.int .i64 L, .int .i64 i, .agg #[.int .i64 k, .int .i64 a, .int .i64 b]] w fun e w' => e = .returned (errV 1) ∧ Below w.heap.size w w' := by
  have hc := parts_any k
  go_enter Tryd.func32, Tryd.ntmps32
  go_wp2_with (go_at_call 44; refine (hc _).mono ?_; rintro e w' ⟨rfl, rfl⟩)
  (try (go_quiet (fail); go_wp2_with (go_at_call 44; refine (hc _).mono ?_; rintro e w' ⟨rfl, rfl⟩)))
  (try (go_quiet (fail); go_wp2_with fail))
  (try (go_quiet (fail); go_wp2_with fail))
  go_ret
  exact ⟨rfl, by repeat (first | exact Below.refl _ _ | exact (Below.refl _ _).alloc (Nat.le_refl _) _ | refine below_drewN ?_ _)⟩
set_option maxHeartbeats 400000 in
theorem one_big (L : Nat) (M i k a b : Int) (w : World) (hL1 : 1 ≤ L) (hL6 : L ≤ 6) (hM : IntKind.i64.wrap (2 ^ L) = M) (hk : 9 < k) : Calls Tryd.prog 32 #[.int .i64 L, .int .i64 i, .agg #[.int .i64 k, .int .i64 a, .int .i64 b]] w fun e w' => e = .returned (errV 1) ∧ Below w.heap.size w w' := by
  have hk0 : ¬ k < 0 := by omega
  have hc := parts_any k
  go_enter Tryd.func32, Tryd.ntmps32
  go_wp2_with (go_at_call 44; refine (hc _).mono ?_; rintro e w' ⟨rfl, rfl⟩)
  (try (go_quiet (fail); go_wp2_with (go_at_call 44; refine (hc _).mono ?_; rintro e w' ⟨rfl, rfl⟩)))
  (try (go_quiet (fail); go_wp2_with fail))
  (try (go_quiet (fail); go_wp2_with fail))
  go_ret
  exact ⟨rfl, by repeat (first | exact Below.refl _ _ | exact (Below.refl _ _).alloc (Nat.le_refl _) _ | refine below_drewN ?_ _)⟩
set_option maxHeartbeats 400000 in
theorem one_is_low (L : Nat) (M i k a b : Int) (w : World) (hL1 : 1 ≤ L) (hL6 : L ≤ 6) (hM : IntKind.i64.wrap (2 ^ L) = M) (hk : k = 2) (ha : a < 0) : Calls Tryd.prog 32 #[.int .i64 L, .int .i64 i, .agg #[.int .i64 k, .int .i64 a, .int .i64 b]] w fun e w' => e = .returned (errV 1) ∧ Below w.heap.size w w' := by
  subst hk
  have hp : partsP 2 = 0 := rfl
  have hc := parts_any 2
  rw [hp] at hc
  clear hp
  go_enter Tryd.func32, Tryd.ntmps32
  go_wp2_with (go_at_call 44; refine (hc _).mono ?_; rintro e w' ⟨rfl, rfl⟩)
  (try (go_quiet (fail); go_wp2_with (go_at_call 44; refine (hc _).mono ?_; rintro e w' ⟨rfl, rfl⟩)))
  (try (go_quiet (fail); go_wp2_with fail))
  (try (go_quiet (fail); go_wp2_with fail))
  go_ret
  exact ⟨rfl, by repeat (first | exact Below.refl _ _ | exact (Below.refl _ _).alloc (Nat.le_refl _) _ | refine below_drewN ?_ _)⟩
set_option maxHeartbeats 400000 in
theorem one_is_high (L : Nat) (M i k a b : Int) (w : World) (hL1 : 1 ≤ L) (hL6 : L ≤ 6) (hM : IntKind.i64.wrap (2 ^ L) = M) (hk : k = 2) (ha : 0 ≤ a) (ha' : M ≤ a) : Calls Tryd.prog 32 #[.int .i64 L, .int .i64 i, .agg #[.int .i64 k, .int .i64 a, .int .i64 b]] w fun e w' => e = .returned (errV 1) ∧ Below w.heap.size w w' := by
  subst hk
  have hp : partsP 2 = 0 := rfl
  have hc := parts_any 2
  rw [hp] at hc
  clear hp
  go_enter Tryd.func32, Tryd.ntmps32
  go_wp2_with (go_at_call 44; refine (hc _).mono ?_; rintro e w' ⟨rfl, rfl⟩)
  (try (go_quiet (fail); go_wp2_with (go_at_call 44; refine (hc _).mono ?_; rintro e w' ⟨rfl, rfl⟩)))
  (try (go_quiet (fail); go_wp2_with fail))
  (try (go_quiet (fail); go_wp2_with fail))
  go_ret
  exact ⟨rfl, by repeat (first | exact Below.refl _ _ | exact (Below.refl _ _).alloc (Nat.le_refl _) _ | refine below_drewN ?_ _)⟩
set_option maxHeartbeats 400000 in
theorem one_is_b (L : Nat) (M i k a b : Int) (w : World) (hL1 : 1 ≤ L) (hL6 : L ≤ 6) (hM : IntKind.i64.wrap (2 ^ L) = M) (hk : k = 2) (ha : 0 ≤ a) (ha' : a < M) (hb : (b != 0) = true) : Calls Tryd.prog 32 #[.int .i64 L, .int .i64 i, .agg #[.int .i64 k, .int .i64 a, .int .i64 b]] w fun e w' => e = .returned (errV 3) ∧ Below w.heap.size w w' := by
  subst hk
  have hp : partsP 2 = 0 := rfl
  have hc := parts_any 2
  rw [hp] at hc
  clear hp
  go_enter Tryd.func32, Tryd.ntmps32
  go_wp2_with (go_at_call 44; refine (hc _).mono ?_; rintro e w' ⟨rfl, rfl⟩)
  (try (go_quiet (fail); go_wp2_with (go_at_call 44; refine (hc _).mono ?_; rintro e w' ⟨rfl, rfl⟩)))
  (try (go_quiet (fail); go_wp2_with fail))
  (try (go_quiet (fail); go_wp2_with fail))
  go_ret
  exact ⟨rfl, by repeat (first | exact Below.refl _ _ | exact (Below.refl _ _).alloc (Nat.le_refl _) _ | refine below_drewN ?_ _)⟩
set_option maxHeartbeats 400000 in
theorem one_is_ok (L : Nat) (M i k a b : Int) (w : World) (hL1 : 1 ≤ L) (hL6 : L ≤ 6) (hM : IntKind.i64.wrap (2 ^ L) = M) (hk : k = 2) (ha : 0 ≤ a) (ha' : a < M) (hb : b = 0) : Calls Tryd.prog 32 #[.int .i64 L, .int .i64 i, .agg #[.int .i64 k, .int .i64 a, .int .i64 b]] w fun e w' => e = .returned (errV 0) ∧ Below w.heap.size w w' := by
  subst hk
  subst hb
  have hp : partsP 2 = 0 := rfl
  have hc := parts_any 2
  rw [hp] at hc
  clear hp
  go_enter Tryd.func32, Tryd.ntmps32
  go_wp2_with (go_at_call 44; refine (hc _).mono ?_; rintro e w' ⟨rfl, rfl⟩)
  (try (go_quiet (fail); go_wp2_with (go_at_call 44; refine (hc _).mono ?_; rintro e w' ⟨rfl, rfl⟩)))
  (try (go_quiet (fail); go_wp2_with fail))
  (try (go_quiet (fail); go_wp2_with fail))
  go_ret
  exact ⟨rfl, by repeat (first | exact Below.refl _ _ | exact (Below.refl _ _).alloc (Nat.le_refl _) _ | refine below_drewN ?_ _)⟩
set_option maxHeartbeats 400000 in
theorem one_leaf_b (L : Nat) (M i k a b : Int) (w : World) (hL1 : 1 ≤ L) (hL6 : L ≤ 6) (hM : IntKind.i64.wrap (2 ^ L) = M) (h0 : 0 ≤ k) (h9 : k ≤ 9) (h2 : (k == 2) = false) (h2' : (k != 2) = true) (hp : partsP k = 0) (hb : (b != 0) = true) : Calls Tryd.prog 32 #[.int .i64 L, .int .i64 i, .agg #[.int .i64 k, .int .i64 a, .int .i64 b]] w fun e w' => e = .returned (errV 3) ∧ Below w.heap.size w w' := by
  have hk0 : ¬ k < 0 := by omega
  have hk9 : ¬ 9 < k := by omega
  have hc := parts_any k
  rw [hp] at hc
  clear hp
  go_enter Tryd.func32, Tryd.ntmps32
  go_wp2_with (go_at_call 44; refine (hc _).mono ?_; rintro e w' ⟨rfl, rfl⟩)
  (try (go_quiet (fail); go_wp2_with (go_at_call 44; refine (hc _).mono ?_; rintro e w' ⟨rfl, rfl⟩)))
  (try (go_quiet (fail); go_wp2_with fail))
  (try (go_quiet (fail); go_wp2_with fail))
  go_ret
  exact ⟨rfl, by repeat (first | exact Below.refl _ _ | exact (Below.refl _ _).alloc (Nat.le_refl _) _ | refine below_drewN ?_ _)⟩
set_option maxHeartbeats 400000 in
theorem one_leaf_a (L : Nat) (M i k a b : Int) (w : World) (hL1 : 1 ≤ L) (hL6 : L ≤ 6) (hM : IntKind.i64.wrap (2 ^ L) = M) (h0 : 0 ≤ k) (h9 : k ≤ 9) (h2 : (k == 2) = false) (h2' : (k != 2) = true) (hp : partsP k = 0) (hb : b = 0) (ha : (a != 0) = true) : Calls Tryd.prog 32 #[.int .i64 L, .int .i64 i, .agg #[.int .i64 k, .int .i64 a, .int .i64 b]] w fun e w' => e = .returned (errV 3) ∧ Below w.heap.size w w' := by
  subst hb
  have hk0 : ¬ k < 0 := by omega
  have hk9 : ¬ 9 < k := by omega
  have hc := parts_any k
  rw [hp] at hc
  clear hp
  go_enter Tryd.func32, Tryd.ntmps32
  go_wp2_with (go_at_call 44; refine (hc _).mono ?_; rintro e w' ⟨rfl, rfl⟩)
  (try (go_quiet (fail); go_wp2_with (go_at_call 44; refine (hc _).mono ?_; rintro e w' ⟨rfl, rfl⟩)))
  (try (go_quiet (fail); go_wp2_with fail))
  (try (go_quiet (fail); go_wp2_with fail))
  go_ret
  exact ⟨rfl, by repeat (first | exact Below.refl _ _ | exact (Below.refl _ _).alloc (Nat.le_refl _) _ | refine below_drewN ?_ _)⟩
set_option maxHeartbeats 400000 in
theorem one_leaf_ok (L : Nat) (M i k a b : Int) (w : World) (hL1 : 1 ≤ L) (hL6 : L ≤ 6) (hM : IntKind.i64.wrap (2 ^ L) = M) (h0 : 0 ≤ k) (h9 : k ≤ 9) (h2 : (k == 2) = false) (h2' : (k != 2) = true) (hp : partsP k = 0) (hb : b = 0) (ha : a = 0) : Calls Tryd.prog 32 #[.int .i64 L, .int .i64 i, .agg #[.int .i64 k, .int .i64 a, .int .i64 b]] w fun e w' => e = .returned (errV 0) ∧ Below w.heap.size w w' := by
  subst hb
  subst ha
  have hk0 : ¬ k < 0 := by omega
  have hk9 : ¬ 9 < k := by omega
  have hc := parts_any k
  rw [hp] at hc
  clear hp
  go_enter Tryd.func32, Tryd.ntmps32
  go_wp2_with (go_at_call 44; refine (hc _).mono ?_; rintro e w' ⟨rfl, rfl⟩)
  (try (go_quiet (fail); go_wp2_with (go_at_call 44; refine (hc _).mono ?_; rintro e w' ⟨rfl, rfl⟩)))
  (try (go_quiet (fail); go_wp2_with fail))
  (try (go_quiet (fail); go_wp2_with fail))
  go_ret
  exact ⟨rfl, by repeat (first | exact Below.refl _ _ | exact (Below.refl _ _).alloc (Nat.le_refl _) _ | refine below_drewN ?_ _)⟩
set_option maxHeartbeats 400000 in
theorem one_un_low (L : Nat) (M i k a b : Int) (w : World) (hL1 : 1 ≤ L) (hL6 : L ≤ 6) (hM : IntKind.i64.wrap (2 ^ L) = M) (h0 : 0 ≤ k) (h9 : k ≤ 9) (h2 : (k == 2) = false) (h2' : (k != 2) = true) (hp : partsP k = 1) (ha : a < 0) : Calls Tryd.prog 32 #[.int .i64 L, .int .i64 i, .agg #[.int .i64 k, .int .i64 a, .int .i64 b]] w fun e w' => e = .returned (errV 3) ∧ Below w.heap.size w w' := by
  have hk0 : ¬ k < 0 := by omega
  have hk9 : ¬ 9 < k := by omega
  have hc := parts_any k
  rw [hp] at hc
  clear hp
  go_enter Tryd.func32, Tryd.ntmps32
  go_wp2_with (go_at_call 44; refine (hc _).mono ?_; rintro e w' ⟨rfl, rfl⟩)
  (try (go_quiet (fail); go_wp2_with (go_at_call 44; refine (hc _).mono ?_; rintro e w' ⟨rfl, rfl⟩)))
  (try (go_quiet (fail); go_wp2_with fail))
  (try (go_quiet (fail); go_wp2_with fail))
  go_ret
  exact ⟨rfl, by repeat (first | exact Below.refl _ _ | exact (Below.refl _ _).alloc (Nat.le_refl _) _ | refine below_drewN ?_ _)⟩
set_option maxHeartbeats 400000 in
theorem one_un_high (L : Nat) (M i k a b : Int) (w : World) (hL1 : 1 ≤ L) (hL6 : L ≤ 6) (hM : IntKind.i64.wrap (2 ^ L) = M) (h0 : 0 ≤ k) (h9 : k ≤ 9) (h2 : (k == 2) = false) (h2' : (k != 2) = true) (hp : partsP k = 1) (ha : 0 ≤ a) (ha' : i ≤ a) : Calls Tryd.prog 32 #[.int .i64 L, .int .i64 i, .agg #[.int .i64 k, .int .i64 a, .int .i64 b]] w fun e w' => e = .returned (errV 3) ∧ Below w.heap.size w w' := by
  have hk0 : ¬ k < 0 := by omega
  have hk9 : ¬ 9 < k := by omega
  have hc := parts_any k
  rw [hp] at hc
  clear hp
  go_enter Tryd.func32, Tryd.ntmps32
  go_wp2_with (go_at_call 44; refine (hc _).mono ?_; rintro e w' ⟨rfl, rfl⟩)
  (try (go_quiet (fail); go_wp2_with (go_at_call 44; refine (hc _).mono ?_; rintro e w' ⟨rfl, rfl⟩)))
  (try (go_quiet (fail); go_wp2_with fail))
  (try (go_quiet (fail); go_wp2_with fail))
  go_ret
  exact ⟨rfl, by repeat (first | exact Below.refl _ _ | exact (Below.refl _ _).alloc (Nat.le_refl _) _ | refine below_drewN ?_ _)⟩
set_option maxHeartbeats 400000 in
theorem one_un_b (L : Nat) (M i k a b : Int) (w : World) (hL1 : 1 ≤ L) (hL6 : L ≤ 6) (hM : IntKind.i64.wrap (2 ^ L) = M) (h0 : 0 ≤ k) (h9 : k ≤ 9) (h2 : (k == 2) = false) (h2' : (k != 2) = true) (hp : partsP k = 1) (ha : 0 ≤ a) (ha' : a < i) (hb : (b != 0) = true) : Calls Tryd.prog 32 #[.int .i64 L, .int .i64 i, .agg #[.int .i64 k, .int .i64 a, .int .i64 b]] w fun e w' => e = .returned (errV 3) ∧ Below w.heap.size w w' := by
  have hk0 : ¬ k < 0 := by omega
  have hk9 : ¬ 9 < k := by omega
  have hc := parts_any k
  rw [hp] at hc
  clear hp
  go_enter Tryd.func32, Tryd.ntmps32
  go_wp2_with (go_at_call 44; refine (hc _).mono ?_; rintro e w' ⟨rfl, rfl⟩)
  (try (go_quiet (fail); go_wp2_with (go_at_call 44; refine (hc _).mono ?_; rintro e w' ⟨rfl, rfl⟩)))
  (try (go_quiet (fail); go_wp2_with fail))
  (try (go_quiet (fail); go_wp2_with fail))
  go_ret
  exact ⟨rfl, by repeat (first | exact Below.refl _ _ | exact (Below.refl _ _).alloc (Nat.le_refl _) _ | refine below_drewN ?_ _)⟩
set_option maxHeartbeats 400000 in
theorem one_un_ok (L : Nat) (M i k a b : Int) (w : World) (hL1 : 1 ≤ L) (hL6 : L ≤ 6) (hM : IntKind.i64.wrap (2 ^ L) = M) (h0 : 0 ≤ k) (h9 : k ≤ 9) (h2 : (k == 2) = false) (h2' : (k != 2) = true) (hp : partsP k = 1) (ha : 0 ≤ a) (ha' : a < i) (hb : b = 0) : Calls Tryd.prog 32 #[.int .i64 L, .int .i64 i, .agg #[.int .i64 k, .int .i64 a, .int .i64 b]] w fun e w' => e = .returned (errV 0) ∧ Below w.heap.size w w' := by
  subst hb
  have hk0 : ¬ k < 0 := by omega
  have hk9 : ¬ 9 < k := by omega
  have hc := parts_any k
  rw [hp] at hc
  clear hp
  go_enter Tryd.func32, Tryd.ntmps32
  go_wp2_with (go_at_call 44; refine (hc _).mono ?_; rintro e w' ⟨rfl, rfl⟩)
  (try (go_quiet (fail); go_wp2_with (go_at_call 44; refine (hc _).mono ?_; rintro e w' ⟨rfl, rfl⟩)))
  (try (go_quiet (fail); go_wp2_with fail))
  (try (go_quiet (fail); go_wp2_with fail))
  go_ret
  exact ⟨rfl, by repeat (first | exact Below.refl _ _ | exact (Below.refl _ _).alloc (Nat.le_refl _) _ | refine below_drewN ?_ _)⟩
set_option maxHeartbeats 400000 in
theorem one_bin_low (L : Nat) (M i k a b : Int) (w : World) (hL1 : 1 ≤ L) (hL6 : L ≤ 6) (hM : IntKind.i64.wrap (2 ^ L) = M) (h0 : 0 ≤ k) (h9 : k ≤ 9) (h2 : (k == 2) = false) (h2' : (k != 2) = true) (hp : partsP k = 2) (ha : a < 0) : Calls Tryd.prog 32 #[.int .i64 L, .int .i64 i, .agg #[.int .i64 k, .int .i64 a, .int .i64 b]] w fun e w' => e = .returned (errV 3) ∧ Below w.heap.size w w' := by
  have hk0 : ¬ k < 0 := by omega
  have hk9 : ¬ 9 < k := by omega
  have hc := parts_any k
  rw [hp] at hc
  clear hp
  go_enter Tryd.func32, Tryd.ntmps32
  go_wp2_with (go_at_call 44; refine (hc _).mono ?_; rintro e w' ⟨rfl, rfl⟩)
  (try (go_quiet (fail); go_wp2_with (go_at_call 44; refine (hc _).mono ?_; rintro e w' ⟨rfl, rfl⟩)))
  (try (go_quiet (fail); go_wp2_with fail))
  (try (go_quiet (fail); go_wp2_with fail))
  go_ret
  exact ⟨rfl, by repeat (first | exact Below.refl _ _ | exact (Below.refl _ _).alloc (Nat.le_refl _) _ | refine below_drewN ?_ _)⟩
set_option maxHeartbeats 400000 in
theorem one_bin_high (L : Nat) (M i k a b : Int) (w : World) (hL1 : 1 ≤ L) (hL6 : L ≤ 6) (hM : IntKind.i64.wrap (2 ^ L) = M) (h0 : 0 ≤ k) (h9 : k ≤ 9) (h2 : (k == 2) = false) (h2' : (k != 2) = true) (hp : partsP k = 2) (ha : 0 ≤ a) (ha' : i ≤ a) : Calls Tryd.prog 32 #[.int .i64 L, .int .i64 i, .agg #[.int .i64 k, .int .i64 a, .int .i64 b]] w fun e w' => e = .returned (errV 3) ∧ Below w.heap.size w w' := by
  have hk0 : ¬ k < 0 := by omega
  have hk9 : ¬ 9 < k := by omega
  have hc := parts_any k
  rw [hp] at hc
  clear hp
  go_enter Tryd.func32, Tryd.ntmps32
  go_wp2_with (go_at_call 44; refine (hc _).mono ?_; rintro e w' ⟨rfl, rfl⟩)
  (try (go_quiet (fail); go_wp2_with (go_at_call 44; refine (hc _).mono ?_; rintro e w' ⟨rfl, rfl⟩)))
  (try (go_quiet (fail); go_wp2_with fail))
  (try (go_quiet (fail); go_wp2_with fail))
  go_ret
  exact ⟨rfl, by repeat (first | exact Below.refl _ _ | exact (Below.refl _ _).alloc (Nat.le_refl _) _ | refine below_drewN ?_ _)⟩
set_option maxHeartbeats 400000 in
theorem one_bin_blow (L : Nat) (M i k a b : Int) (w : World) (hL1 : 1 ≤ L) (hL6 : L ≤ 6) (hM : IntKind.i64.wrap (2 ^ L) = M) (h0 : 0 ≤ k) (h9 : k ≤ 9) (h2 : (k == 2) = false) (h2' : (k != 2) = true) (hp : partsP k = 2) (ha : 0 ≤ a) (ha' : a < i) (hb : b < 0) : Calls Tryd.prog 32 #[.int .i64 L, .int .i64 i, .agg #[.int .i64 k, .int .i64 a, .int .i64 b]] w fun e w' => e = .returned (errV 3) ∧ Below w.heap.size w w' := by
  have hk0 : ¬ k < 0 := by omega
  have hk9 : ¬ 9 < k := by omega
  have hc := parts_any k
  rw [hp] at hc
  clear hp
  go_enter Tryd.func32, Tryd.ntmps32
  go_wp2_with (go_at_call 44; refine (hc _).mono ?_; rintro e w' ⟨rfl, rfl⟩)
  (try (go_quiet (fail); go_wp2_with (go_at_call 44; refine (hc _).mono ?_; rintro e w' ⟨rfl, rfl⟩)))
  (try (go_quiet (fail); go_wp2_with fail))
  (try (go_quiet (fail); go_wp2_with fail))
  go_ret
  exact ⟨rfl, by repeat (first | exact Below.refl _ _ | exact (Below.refl _ _).alloc (Nat.le_refl _) _ | refine below_drewN ?_ _)⟩
set_option maxHeartbeats 400000 in
theorem one_bin_bhigh (L : Nat) (M i k a b : Int) (w : World) (hL1 : 1 ≤ L) (hL6 : L ≤ 6) (hM : IntKind.i64.wrap (2 ^ L) = M) (h0 : 0 ≤ k) (h9 : k ≤ 9) (h2 : (k == 2) = false) (h2' : (k != 2) = true) (hp : partsP k = 2) (ha : 0 ≤ a) (ha' : a < i) (hb : 0 ≤ b) (hb' : i ≤ b) : Calls Tryd.prog 32 #[.int .i64 L, .int .i64 i, .agg #[.int .i64 k, .int .i64 a, .int .i64 b]] w fun e w' => e = .returned (errV 3) ∧ Below w.heap.size w w' := by
  have hk0 : ¬ k < 0 := by omega
  have hk9 : ¬ 9 < k := by omega
  have hc := parts_any k
  rw [hp] at hc
  clear hp
  go_enter Tryd.func32, Tryd.ntmps32
  go_wp2_with (go_at_call 44; refine (hc _).mono ?_; rintro e w' ⟨rfl, rfl⟩)
  (try (go_quiet (fail); go_wp2_with (go_at_call 44; refine (hc _).mono ?_; rintro e w' ⟨rfl, rfl⟩)))
  (try (go_quiet (fail); go_wp2_with fail))
  (try (go_quiet (fail); go_wp2_with fail))
  go_ret
  exact ⟨rfl, by repeat (first | exact Below.refl _ _ | exact (Below.refl _ _).alloc (Nat.le_refl _) _ | refine below_drewN ?_ _)⟩
set_option maxHeartbeats 400000 in
theorem one_bin_ok (L : Nat) (M i k a b : Int) (w : World) (hL1 : 1 ≤ L) (hL6 : L ≤ 6) (hM : IntKind.i64.wrap (2 ^ L) = M) (h0 : 0 ≤ k) (h9 : k ≤ 9) (h2 : (k == 2) = false) (h2' : (k != 2) = true) (hp : partsP k = 2) (ha : 0 ≤ a) (ha' : a < i) (hb : 0 ≤ b) (hb' : b < i) : Calls Tryd.prog 32 #[.int .i64 L, .int .i64 i, .agg #[.int .i64 k, .int .i64 a, .int .i64 b]] w fun e w' => e = .returned (errV 0) ∧ Below w.heap.size w w' := by
  have hk0 : ¬ k < 0 := by omega
  have hk9 : ¬ 9 < k := by omega
  have hc := parts_any k
  rw [hp] at hc
  clear hp
  go_enter Tryd.func32, Tryd.ntmps32
  go_wp2_with (go_at_call 44; refine (hc _).mono ?_; rintro e w' ⟨rfl, rfl⟩)
  (try (go_quiet (fail); go_wp2_with (go_at_call 44; refine (hc _).mono ?_; rintro e w' ⟨rfl, rfl⟩)))
  (try (go_quiet (fail); go_wp2_with fail))
  (try (go_quiet (fail); go_wp2_with fail))
  go_ret
  exact ⟨rfl, by repeat (first | exact Below.refl _ _ | exact (Below.refl _ _).alloc (Nat.le_refl _) _ | refine below_drewN ?_ _)⟩
end Go.Proofs.YtccknopchddicaaDoor
