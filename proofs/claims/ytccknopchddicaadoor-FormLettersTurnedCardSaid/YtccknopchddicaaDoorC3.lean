/- contracts: word.Check. -/
import Derived.Test.YtccknopchddicaaDoorW0
namespace Go.Proofs.YtccknopchddicaaDoor
open Go.RowKit Stile
def badL (L a : Int) : Bool := decide (a < 0) || decide (L ≤ a)
def badAt (L : Int) (l : List Int) : Int := if l.findIdx (badL L) < l.length then (l.findIdx (badL L) : Int) else -1
def wcheckP (L : Int) (l : List Int) : Int := if L < 1 ∨ 6 < L then 1 else if 80 < l.length then 4 else if l.any (badL L) then 1 else 0

theorem wclosure (L a : Int) (p : Addr) (w : World) (hp : w.cell? p = some (.int .i64 L)) : Calls Tryd.prog 34 #[.int .i64 a, .pointer (some p)] w fun e w' => e = .returned (.bool (badL L a)) ∧ w = w' := by
  unfold badL
  go_enter Tryd.func34, Tryd.ntmps34
  go_wp2
  all_goals (go_ret; refine ⟨?_, rfl⟩; simp_all)

theorem index_any (L : Int) (lv : Value) (l : List Int) (p : Addr) (w : World) (hl : RdI w w.heap.size lv l) (hlen : l.length ≤ 80) (hp : w.cell? p = some (.int .i64 L)) :
    Calls Tryd.prog 45 #[lv, .func (.func 34) #[] #[.pointer (some p)]] w fun e w' => e = .returned (.int .i64 (badAt L l)) ∧ w = w' := by
  obtain ⟨A, c, rfl, hlc, hcell⟩ := hl
  have hA : 0 < l.length → ∃ b off, A = some ⟨b, off, none⟩ ∧ ∀ k, k < l.length → w.cell? ⟨b, off + k, none⟩ = some (.int .i64 (l.getD k 0)) := fun h => by
    obtain ⟨b, off, h1, _, h3⟩ := hcell h
    exact ⟨b, off, h1, fun k hk => h3 k (by omega)⟩
  clear hcell
  have H := fun a => wclosure L a p w hp
  clear hp
  go_enter Tryd.func45, Tryd.ntmps45
  go_wp2
  go_loop [8] (fun i => ∃ (k : Nat), k ≤ l.length ∧ i = .int .i64 k ∧ ∀ j, j < k → badL L (l.getD j 0) = false) (fun i => l.length - (intOf i).toNat)
  case atStart => exact ⟨0, by omega, rfl, fun j hj => absurd hj (by omega)⟩
  case round =>
    obtain ⟨k, hk, rfl, hold⟩ := hrel
    have HO := Lib.hid hold
    clear hold
    by_cases hlt : k < l.length
    · obtain ⟨b, off, rfl, hc⟩ := hA (by omega)
      have hc1 := hc k hlt
      clear hc hA
      obtain ⟨x, hx⟩ : ∃ x, l.getD k 0 = x := ⟨_, rfl⟩
      rw [hx] at hc1
      have Hk := H x
      have HX := Lib.hid hx
      clear H hx
      cases hbad : badL L x with
      | true =>
        rw [hbad] at Hk
        have HB := Lib.hid hbad
        clear hbad
        go_wp2_with (go_at_call 34; refine Hk.mono ?_; rintro e w' ⟨rfl, rfl⟩)
        go_ret
        refine ⟨?_, rfl⟩
        have hfi : l.findIdx (badL L) = k := by
          have hlt' := hlt
          rw [List.findIdx_eq hlt]
          refine ⟨by rw [← HX.out] at HB; have := HB.out; rw [List.getD, List.getElem?_eq_getElem hlt] at this; exact this, fun j hj => ?_⟩
          have := HO.out j hj
          rw [List.getD, List.getElem?_eq_getElem (by omega)] at this
          exact this
        rw [show badAt L l = (k : Int) by unfold badAt; rw [hfi, if_pos hlt]]
        rfl
      | false =>
        rw [hbad] at Hk
        have HB := Lib.hid hbad
        clear hbad
        go_wp2_with (go_at_call 34; refine Hk.mono ?_; rintro e w' ⟨rfl, rfl⟩)
        go_round
        case rel =>
          refine ⟨k + 1, by omega, by go_num, fun j hj => ?_⟩
          by_cases e : j = k
          · rw [e, HX.out]; exact HB.out
          · exact HO.out j (by omega)
        case measure => simp [intOf]; omega
    · go_wp2_with fail
      go_ret
      refine ⟨?_, rfl⟩
      have hfi : ¬ l.findIdx (badL L) < l.length := by
        intro h
        have h1 := List.findIdx_getElem (w := h)
        have h2 := HO.out _ (by omega : l.findIdx (badL L) < k)
        rw [List.getD, List.getElem?_eq_getElem h] at h2
        simp [h1] at h2
      rw [show badAt L l = -1 by unfold badAt; rw [if_neg hfi]]
      rfl

theorem contains_any (L : Int) (lv : Value) (l : List Int) (p : Addr) (w : World) (hl : RdI w w.heap.size lv l) (hlen : l.length ≤ 80) (hp : w.cell? p = some (.int .i64 L)) :
    Calls Tryd.prog 33 #[lv, .func (.func 34) #[] #[.pointer (some p)]] w fun e w' => e = .returned (.bool (l.any (badL L))) ∧ w = w' := by
  have H := index_any L lv l p w hl hlen hp
  have hany : l.any (badL L) = decide (0 ≤ badAt L l) := by
    unfold badAt
    by_cases h : l.findIdx (badL L) < l.length
    · rw [if_pos h]
      obtain ⟨x, hx, hb⟩ := List.findIdx_lt_length.1 h
      rw [List.any_eq_true.2 ⟨x, hx, hb⟩]
      simp
    · rw [if_neg h]
      rw [List.any_eq_false.2 (fun x hx hb => h (List.findIdx_lt_length.2 ⟨x, hx, hb⟩))]
      rfl
  rw [hany]
  generalize badAt L l = x at *
  clear hany hl hp
  go_enter Tryd.func33, Tryd.ntmps33
  go_wp2_with (go_at_call 45; refine H.mono ?_; rintro e w' ⟨rfl, rfl⟩)
  go_ret
  exact ⟨rfl, rfl⟩

theorem wcheck_any (L : Int) (lv : Value) (l : List Int) (w : World) (hl : RdI w w.heap.size lv l) :
    Calls Tryd.prog 18 #[.int .i64 L, lv] w fun e w' => e = .returned (errV (wcheckP L l)) ∧ Below w.heap.size w w' := by
  unfold wcheckP
  by_cases h1 : L < 1
  · rw [if_pos (.inl h1)]
    go_enter Tryd.func18, Tryd.ntmps18
    go_wp2_with fail
    go_ret
    exact ⟨rfl, (Below.refl _ _).alloc (Nat.le_refl _) _⟩
  by_cases h2 : 6 < L
  · rw [if_pos (.inr h2)]
    go_enter Tryd.func18, Tryd.ntmps18
    go_wp2_with fail
    go_ret
    exact ⟨rfl, (Below.refl _ _).alloc (Nat.le_refl _) _⟩
  rw [if_neg (by omega)]
  by_cases h3 : 80 < l.length
  · rw [if_pos h3]
    obtain ⟨A, c, rfl, _⟩ := hl
    go_enter Tryd.func18, Tryd.ntmps18
    go_wp2_with fail
    go_ret
    exact ⟨rfl, (Below.refl _ _).alloc (Nat.le_refl _) _⟩
  rw [if_neg h3]
  have hb := (Below.refl w.heap.size w).alloc (Nat.le_refl _) (.cells #[.int .i64 L] 3)
  have hl' : RdI (w.alloc (.cells #[.int .i64 L] 3)) (w.alloc (.cells #[.int .i64 L] 3)).heap.size lv l := Rd.mono (Rd.below hl hb) (by simp)
  have H := contains_any L lv l ⟨w.heap.size, 0, none⟩ (w.alloc (.cells #[.int .i64 L] 3)) hl' (by omega) (by simp [go_sem])
  clear hb hl'
  obtain ⟨A, c, rfl, _⟩ := hl
  cases hany : l.any (badL L) with
  | true =>
    rw [hany] at H
    clear hany
    go_enter Tryd.func18, Tryd.ntmps18
    go_wp2_with (go_at_call 33; refine H.mono ?_; rintro e w' ⟨rfl, rfl⟩)
    go_ret
    exact ⟨rfl, (Below.refl _ _).alloc (Nat.le_refl _) _⟩
  | false =>
    rw [hany] at H
    clear hany
    go_enter Tryd.func18, Tryd.ntmps18
    go_wp2_with (go_at_call 33; refine H.mono ?_; rintro e w' ⟨rfl, rfl⟩)
    go_ret
    exact ⟨rfl, (Below.refl _ _).alloc (Nat.le_refl _) _⟩
end Go.Proofs.YtccknopchddicaaDoor
