/- contract: back.Back's step. -/
import Derived.Test.YtccknopchddicaaGreatDoorMB3
import Derived.Test.YtccknopchddicaaGreatDoorMB4
import Derived.Test.YtccknopchddicaaGreatDoorMC5
import Derived.Deep.RegionHeld3
set_option linter.unusedSimpArgs false
set_option linter.unusedVariables false
set_option linter.unnecessarySimpa false
namespace Go.Proofs.YtccknopchddicaaGreatDoor
open Go.RowKit Stile
theorem lt_of_cell {w : World} {p : Addr} {v : Value} (h : w.cell? p = some v) : p.block < w.heap.size := by
  unfold World.cell? at h
  rcases Nat.lt_or_ge p.block w.heap.size with hlt | hge
  · exact hlt
  · rw [Array.getElem?_eq_none hge] at h; simp at h

set_option maxRecDepth 100000 in
set_option maxHeartbeats 1000000 in
theorem backstep_any (M : Int) (fv : Value) (f : List Nd) (S e : Nat) (pf pn : Addr) (w : World) (hpf : w.cell? pf = some fv) (hpn : w.cell? pn = some (.int .i64 (f.length : Int)))
    (hf : RdN w w.heap.size fv f) (hok : okF futK M f) (hM : M ≤ 64) (he : e < 6) (hn0 : 0 < f.length) (hn : f.length ≤ 40) (hS : S < 18446744073709551616) (hbits : ∀ i, S.testBit i = true → i < f.length) :
    Calls Tryz.prog 79 #[.int .u64 (S : Int), .int .i64 (e : Int), .pointer (some pf), .pointer (some pn)] w fun en w' => en = .returned (.int .u64 ((backStep f S e : Nat) : Int)) ∧ Below w.heap.size w w' := by
  have hbf := lt_of_cell hpf
  have hbn := lt_of_cell hpn
  have HT : ∀ W W', (W.cell? pf = some fv ∧ W.cell? pn = some (.int .i64 (f.length : Int)) ∧ Below w.heap.size w W) → Below W.heap.size W W' → (W'.cell? pf = some fv ∧ W'.cell? pn = some (.int .i64 (f.length : Int)) ∧ Below w.heap.size w W') := fun W W' h h' => by
    have h4 := h.2.2.trans (h'.mono h.2.2.size)
    exact ⟨(h4.cell hbf).trans hpf, (h4.cell hbn).trans hpn, h4⟩
  have H1 : ∀ W, (W.cell? pf = some fv ∧ W.cell? pn = some (.int .i64 (f.length : Int)) ∧ Below w.heap.size w W) → Calls Tryz.prog 80 #[.int .u64 (S : Int), .int .i64 (f.length : Int)] W fun en w' => ∃ v', en = .returned v' ∧ RdB w' w'.heap.size v' (unpackN S f.length) ∧ (w'.cell? pf = some fv ∧ w'.cell? pn = some (.int .i64 (f.length : Int)) ∧ Below w.heap.size w w') := fun W hW =>
    (unpack_any S f.length W hS hn0 hn hbits).mono fun en w' ⟨v', h1, h2, h3⟩ => ⟨v', h1, h2, HT _ _ hW h3⟩
  have H2 : ∀ W tv, (W.cell? pf = some fv ∧ W.cell? pn = some (.int .i64 (f.length : Int)) ∧ Below w.heap.size w W) → RdB W W.heap.size tv (unpackN S f.length) → Calls Tryz.prog 66 #[fv, tv, .int .i64 (e : Int)] W fun en w' => ∃ v', en = .returned v' ∧ RdB w' w'.heap.size v' (aheadL f (unpackN S f.length) e) ∧ (w'.cell? pf = some fv ∧ w'.cell? pn = some (.int .i64 (f.length : Int)) ∧ Below w.heap.size w w') := fun W tv hW ht =>
    (ahead_any M fv tv f _ e W (Rd.mono (Rd.below hf hW.2.2) hW.2.2.size) ht hok hM he (by simp [unpackN]) hn0 hn).mono fun en w' ⟨v', h1, h2, h3⟩ => ⟨v', h1, h2, HT _ _ hW h3⟩
  have H3 : ∀ W tv, RdB W W.heap.size tv (aheadL f (unpackN S f.length) e) → Calls Tryz.prog 78 #[tv] W fun en w' => en = .returned (.int .u64 ((backStep f S e : Nat) : Int)) ∧ W = w' := fun W tv ht =>
    pack_any tv _ W ht (by rw [aheadL_len]; exact hn0) (by rw [aheadL_len]; exact hn)
  have hB0 : (w.cell? pf = some fv ∧ w.cell? pn = some (.int .i64 (f.length : Int)) ∧ Below w.heap.size w w) := ⟨hpf, hpn, Below.refl _ _⟩
  clear HT
  clear hf hok hbits
  go_enter Tryz.func79, Tryz.ntmps79
  go_wp2_with fail
  go_region_held3 (fun w' => (w'.cell? pf = some fv ∧ w'.cell? pn = some (.int .i64 (f.length : Int)) ∧ Below w.heap.size w w')) (first | assumption | exact ⟨hpf, hpn, (Below.refl _ _).drew⟩)
    (first
      | (go_at_call 80; refine (H1 _ (by assumption)).mono ?_; rintro en w1 ⟨v1, rfl, hv1, hb1⟩)
      | (go_at_call 66; refine (H2 _ _ (by assumption) (by assumption)).mono ?_; rintro en w2 ⟨v2, rfl, hv2, hb2⟩)
      | (go_at_call 78; refine (H3 _ _ (by assumption)).mono ?_; rintro en w3 ⟨rfl, rfl⟩))
  have HB := Lib.hid hb2.2.2
  clear hb2 hb1 hv1 hv2 H1 H2 H3
  go_wp2
  go_ret
  exact ⟨rfl, HB.out⟩
end Go.Proofs.YtccknopchddicaaGreatDoor
