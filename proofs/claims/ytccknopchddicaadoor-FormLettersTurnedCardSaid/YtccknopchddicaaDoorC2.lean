/- contracts: form.Check. -/
import Derived.Test.YtccknopchddicaaDoorC1
namespace Go.Proofs.YtccknopchddicaaDoor
open Go.RowKit Stile
/-- the first thing that is wrong with the nodes from i on -/
def nodesP (M : Int) : Nat → List Nd → Int
  | _, [] => 0
  | i, x :: f => if oneP M i x = 0 then nodesP M (i + 1) f else oneP M i x
def checkP (L M : Int) (f : List Nd) : Int :=
  if L < 1 ∨ 6 < L then 1 else if f.length = 0 then 3 else if 40 < f.length then 4 else nodesP M 0 f

theorem check_letters (L : Int) (fv : Value) (w : World) (h : L < 1 ∨ 6 < L) : Calls Tryd.prog 17 #[.int .i64 L, fv] w fun e w' => e = .returned (errV 1) ∧ Below w.heap.size w w' := by
  by_cases h1 : L < 1
  · go_enter Tryd.func17, Tryd.ntmps17
    go_wp2
    go_ret
    exact ⟨rfl, Below.refl _ _⟩
  · have h6 : 6 < L := by omega
    go_enter Tryd.func17, Tryd.ntmps17
    go_wp2
    go_ret
    exact ⟨rfl, Below.refl _ _⟩
theorem check_len (L : Int) (A : Option Addr) (n c : Nat) (w : World) (h1 : 1 ≤ L) (h6 : L ≤ 6) (hn : n = 0 ∨ 40 < n) : Calls Tryd.prog 17 #[.int .i64 L, .slice A n c] w fun e w' => e = .returned (errV (if n = 0 then 3 else 4)) ∧ Below w.heap.size w w' := by
  by_cases h0 : n = 0
  · subst h0
    go_enter Tryd.func17, Tryd.ntmps17
    go_wp2
    go_ret
    exact ⟨rfl, Below.refl _ _⟩
  · have h40 : 40 < n := by omega
    have h0' : 0 < n := by omega
    clear hn
    go_enter Tryd.func17, Tryd.ntmps17
    go_wp2
    go_ret
    exact ⟨rfl, Below.refl _ _⟩
theorem nodesP_step (M : Int) (f : List Nd) (k : Nat) (h : k < f.length) : nodesP M k (f.drop k) = if oneP M k (nd f k) = 0 then nodesP M (k + 1) (f.drop (k + 1)) else oneP M k (nd f k) := by
  have e : f.drop k = nd f k :: f.drop (k + 1) := by
    rw [List.drop_eq_getElem_cons h]; simp [nd, List.getD, h]
  rw [e, nodesP]
set_option maxHeartbeats 400000 in
theorem check_nodes (L : Nat) (M : Int) (fv : Value) (f : List Nd) (w : World) (h1 : 1 ≤ L) (h6 : L ≤ 6) (hM : IntKind.i64.wrap (2 ^ L) = M) (hf : RdN w w.heap.size fv f) (hn0 : 0 < f.length) (hn : f.length ≤ 40) :
    Calls Tryd.prog 17 #[.int .i64 L, fv] w fun e w' => e = .returned (errV (nodesP M 0 f)) ∧ Below w.heap.size w w' := by
  obtain ⟨b, off, c, rfl, hlc, hb, hcell⟩ := hf.at_ hn0
  have H1 := fun (i : Nat) (w : World) => one_any L M i (nd f i) w h1 h6 hM
  have hstep := fun (i : Nat) => nodesP_step M f i
  clear hM hf
  generalize hR : nodesP M 0 f = R
  have HR := Lib.hid hR
  clear hR
  have b1 : decide ((L : Int) < 1) = false := by simp; omega
  have b2 : decide ((6 : Int) < L) = false := by simp; omega
  have b3 : ((f.length : Int) == 0) = false := beq_eq_false_iff_ne.2 (by omega)
  have b4 : decide ((40 : Int) < f.length) = false := by simp; omega
  go_enter Tryd.func17, Tryd.ntmps17
  go_wp2
  clear b1 b2 b3 b4
  go_loopw [25] (fun i wr => ∃ (k : Nat), k ≤ f.length ∧ i = .int .i64 k ∧ Below w.heap.size w wr ∧ nodesP M k (f.drop k) = R) (fun i _ => f.length - (intOf i).toNat)
  case atStart => exact ⟨0, by omega, rfl, Below.refl _ _, by rw [← HR.out]; rfl⟩
  case round =>
    obtain ⟨k, hk, rfl, hB, hrest⟩ := hrel
    have hst := hstep k
    clear hstep
    by_cases hlt : k < f.length
    · have hc1 := (hcell k hlt)
      rw [← hB.cell (p := ⟨b, off + k*3, none⟩) hb, ← hB.cell (p := ⟨b, off + k*3+1, none⟩) hb, ← hB.cell (p := ⟨b, off + k*3+2, none⟩) hb] at hc1
      obtain ⟨c1, c2, c3⟩ := hc1
      rw [hst hlt] at hrest
      have H := fun w => H1 k w
      clear hcell hst H1
      by_cases h0 : oneP M k (nd f k) = 0
      · rw [if_pos h0] at hrest
        have HS := Lib.hid hrest
        clear hrest
        rw [h0, errV_zero] at H
        clear h0
        go_wp2_with (go_at_call 32; refine (H _).mono ?_; rintro e w' ⟨rfl, hb1⟩)
        go_roundw
        case rel => exact ⟨k + 1, by omega, by go_num, (hB.alloc hB.size _).trans (hb1.mono (by have := hB.size; simp; omega)), HS.out⟩
        case measure => simp [intOf]; omega
      · rw [if_neg h0] at hrest
        rw [errV_pos h0] at H
        have HS := Lib.hid hrest
        have HN := Lib.hid h0
        clear hrest h0
        go_wp2_with (go_at_call 32; refine (H _).mono ?_; rintro e w' ⟨rfl, hb1⟩)
        go_ret
        exact ⟨by rw [← HS.out, errV_pos HN.out]; rfl, (hB.alloc hB.size _).trans (hb1.mono (by have := hB.size; simp; omega))⟩
    · have hR : R = 0 := by rw [← hrest, List.drop_eq_nil_of_le (by omega)]; rfl
      subst hR
      clear hrest hst
      go_wp2
      go_ret
      exact ⟨rfl, hB⟩
theorem check_any (L : Nat) (M : Int) (fv : Value) (f : List Nd) (w : World) (h1 : 1 ≤ L) (h6 : L ≤ 6) (hM : IntKind.i64.wrap (2 ^ L) = M) (hf : RdN w w.heap.size fv f) :
    Calls Tryd.prog 17 #[.int .i64 L, fv] w fun e w' => e = .returned (errV (checkP L M f)) ∧ Below w.heap.size w w' := by
  unfold checkP
  rw [if_neg (by omega)]
  by_cases hn : f.length = 0 ∨ 40 < f.length
  · obtain ⟨A, c, rfl, _⟩ := id hf
    have := check_len L A f.length c w (by omega) (by omega) hn
    by_cases h0 : f.length = 0
    · rw [if_pos h0]; rw [if_pos h0] at this; exact this
    · rw [if_neg h0, if_pos (by omega)]; rw [if_neg h0] at this; exact this
  · rw [if_neg (by omega), if_neg (by omega)]
    exact check_nodes L M fv f w h1 h6 hM hf (by omega) (by omega)
end Go.Proofs.YtccknopchddicaaDoor
