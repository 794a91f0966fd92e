/- contracts: past.Holds, past.Start, past.Feed; what past.Check lets by. -/
import Derived.Test.YtccknopchddicaaQ2
import Derived.Test.YtccknopchddicaaC3
import Derived.Test.YtccknopchddicaaV1
import Derived.Test.YtccknopchddicaaV2
namespace Go.Proofs.Ytccknopchddicaa
open Go.RowKit Stile
theorem onePQ_ok {M i : Int} {x : Nd} : onePQ M i x = 0 ↔ okNode pastK M i x := by
  obtain ⟨k, a, b⟩ := x
  by_cases hk : k = 0 ∨ k = 1 ∨ k = 2 ∨ k = 3 ∨ k = 4 ∨ k = 5 ∨ k = 10 ∨ k = 11
  · rcases hk with rfl | rfl | rfl | rfl | rfl | rfl | rfl | rfl <;> simp [onePQ, okNode, partsQ, pastK, leafK, oneK, twoK] <;> omega
  · have h1 : partsQ k = -1 := by unfold partsQ; rw [if_neg (by omega), if_neg (by omega), if_neg (by omega)]
    have h2 : pastK k = false := by simp [pastK]; omega
    simp [onePQ, okNode, h1, h2]
theorem nodesQ_ok (M : Int) : ∀ (f : List Nd) (i : Nat), nodesQ M i f = 0 ↔ ∀ j (h : j < f.length), okNode pastK M ((i : Int) + j) f[j]
  | [], i => by simp [nodesQ]
  | x :: f, i => by
    rw [nodesQ]
    by_cases h : onePQ M i x = 0
    · rw [if_pos h, nodesQ_ok M f (i + 1)]
      constructor
      · intro H j hj
        match j with
        | 0 => simpa using onePQ_ok.1 h
        | j + 1 =>
          have := H j (by simpa using hj)
          have e : (i : Int) + ((j + 1 : Nat) : Int) = ((i + 1 : Nat) : Int) + (j : Int) := by simp; omega
          simp only [List.getElem_cons_succ]
          rw [e]
          exact this
      · intro H j hj
        have := H (j + 1) (by simpa using hj)
        have e : (i : Int) + ((j + 1 : Nat) : Int) = ((i + 1 : Nat) : Int) + (j : Int) := by simp; omega
        simp only [List.getElem_cons_succ] at this
        rw [e] at this
        exact this
    · rw [if_neg h]
      constructor
      · intro H; exact absurd H h
      · intro H
        have := H 0 (by simp)
        exact absurd (onePQ_ok.2 (by simpa using this)) h
theorem checkQ_ok {L M : Int} {f : List Nd} : checkQ L M f = 0 ↔ (1 ≤ L ∧ L ≤ 6) ∧ 0 < f.length ∧ f.length ≤ 40 ∧ okF pastK M f := by
  unfold checkQ
  split
  · constructor
    · intro h; cases h
    · rintro ⟨h, _⟩; omega
  · split
    · constructor
      · intro h; cases h
      · rintro ⟨_, h, _⟩; omega
    · split
      · constructor
        · intro h; cases h
        · rintro ⟨_, _, h, _⟩; omega
      · rw [nodesQ_ok]
        constructor
        · intro h; exact ⟨by omega, by omega, by omega, fun i hi => by have := h i hi; simpa using this⟩
        · rintro ⟨_, _, _, h⟩ j hj; have := h j hj; simpa using this
theorem wcheckP_ok {L : Int} {l : List Int} : wcheckP L l = 0 ↔ (1 ≤ L ∧ L ≤ 6) ∧ l.length ≤ 80 ∧ ∀ a ∈ l, 0 ≤ a ∧ a < L := by
  unfold wcheckP
  split
  · constructor
    · intro h; cases h
    · rintro ⟨h, _⟩; omega
  · split
    · constructor
      · intro h; cases h
      · rintro ⟨_, h, _⟩; omega
    · split
      · rename_i h
        constructor
        · intro h; cases h
        · rintro ⟨_, _, h3⟩
          obtain ⟨a, ha, hb⟩ := List.any_eq_true.1 h
          have := h3 a ha
          simp [badL] at hb; omega
      · rename_i h
        constructor
        · intro _
          refine ⟨by omega, by omega, fun a ha => ?_⟩
          have h' : ¬ badL L a = true := fun hb => h (List.any_eq_true.2 ⟨a, ha, hb⟩)
          simp [badL] at h'; omega
        · intro _; rfl
/-- how many sets of letters there are, as Go reckons it -/
def setsOf (L : Int) : Int := IntKind.i64.wrap (2 ^ L.toNat)
theorem setsOf_le {L : Int} (h1 : 1 ≤ L) (h6 : L ≤ 6) : setsOf L = 2 ^ L.toNat ∧ setsOf L ≤ 64 := by
  have : L = 1 ∨ L = 2 ∨ L = 3 ∨ L = 4 ∨ L = 5 ∨ L = 6 := by omega
  rcases this with rfl | rfl | rfl | rfl | rfl | rfl <;> exact ⟨by decide +kernel, by decide +kernel⟩
theorem qcheck_all (L : Int) (fv : Value) (f : List Nd) (w : World) (hf : RdN w w.heap.size fv f) :
    Calls Try.prog 14 #[.int .i64 L, fv] w fun e w' => e = .returned (errV (checkQ L (setsOf L) f)) ∧ Below w.heap.size w w' := by
  by_cases h : L < 1 ∨ 6 < L
  · have : checkQ L (setsOf L) f = 1 := by unfold checkQ; rw [if_pos h]
    rw [this]
    exact qcheck_letters L fv w h
  · obtain ⟨n, rfl⟩ : ∃ n : Nat, L = (n : Int) := ⟨L.toNat, by omega⟩
    exact qcheck_any n _ fv f w (by omega) (by omega) (by simp [setsOf]) hf
theorem errV_ne {c : Int} (h : c ≠ 0) : errV c = .iface 63 (.int .i64 c) := errV_pos h
theorem lastB_take (v : List Bool) (n : Nat) (h : v.length = n) (hn : 0 < n) : lastB v = v.getD (n - 1) false := by rw [lastB, h]
theorem start_ok (L : Int) (fv : Value) (f : List Nd) (w : World) (hf : RdN w w.heap.size fv f) (hc : checkQ L (setsOf L) f = 0) :
    Calls Try.prog 11 #[.int .i64 L, fv] w fun e w' => ∃ v', e = .returned (.tuple #[v', .nilIface]) ∧ RdB w' w'.heap.size v' (endL f) ∧ Below w.heap.size w w' := by
  have H1 := qcheck_all L fv f w hf
  rw [hc, errV_zero] at H1
  obtain ⟨_, h0, h40, hok⟩ := checkQ_ok.1 hc
  have H2 := fun W hb => valuesE_any _ fv f W (Rd.mono (Rd.below hf hb) hb.size) hok h0 h40
  have HH1 := Lib.hid H1
  have HH2 := Lib.hid H2
  clear H1 H2 hf hok hc
  go_enter Try.func11, Try.ntmps11
  go_wp2_with fail
  refine HH1.out.mono ?_
  rintro e w1 ⟨rfl, hb1⟩
  have H2 := HH2.out w1 hb1
  have HB1 := Lib.hid hb1
  clear hb1
  go_wp2_with fail
  refine H2.mono ?_
  rintro e w2 ⟨v', rfl, hv, hb2⟩
  have HV := Lib.hid hv
  have HB2 := Lib.hid hb2
  clear hv hb2 H2
  go_wp2_with fail
  go_ret2
  exact ⟨v', rfl, HV.out, HB1.out.trans (HB2.out.mono HB1.out.size)⟩
theorem feed_ok (L : Int) (fv tv : Value) (f : List Nd) (t : List Bool) (a : Int) (w : World) (hf : RdN w w.heap.size fv f) (ht : RdB w w.heap.size tv t) (htl : t.length = f.length) (ha : 0 ≤ a) (ha' : a < L) (hc : checkQ L (setsOf L) f = 0) :
    Calls Try.prog 12 #[.int .i64 L, fv, tv, .int .i64 a] w fun e w' => ∃ v', e = .returned (.tuple #[v', .nilIface]) ∧ RdB w' w'.heap.size v' (aheadL f t a) ∧ Below w.heap.size w w' := by
  have H1 := qcheck_all L fv f w hf
  rw [hc, errV_zero] at H1
  obtain ⟨⟨hL1, hL6⟩, h0, h40, hok⟩ := checkQ_ok.1 hc
  obtain ⟨n, rfl⟩ : ∃ n : Nat, a = (n : Int) := ⟨a.toNat, by omega⟩
  have H2 := fun W hb => valuesA_any _ fv tv f t n W (Rd.mono (Rd.below hf hb) hb.size) (Rd.mono (Rd.below ht hb) hb.size) hok (setsOf_le hL1 hL6).2 (by omega) htl h0 h40
  obtain ⟨fA, fc, rfl, _, _⟩ := hf
  obtain ⟨tA, tc, rfl, _, _⟩ := ht
  have hlen : ((t.length : Int) != (f.length : Int)) = false := by simp [htl]
  have b1 : decide (L ≤ (n : Int)) = false := by simp; omega
  have HH1 := Lib.hid H1
  have HH2 := Lib.hid H2
  clear H1 H2 hok hc htl
  go_enter Try.func12, Try.ntmps12
  go_wp2_with fail
  refine HH1.out.mono ?_
  rintro e w1 ⟨rfl, hb1⟩
  have H2 := HH2.out w1 hb1
  have HB1 := Lib.hid hb1
  clear hb1
  go_wp2_with fail
  refine H2.mono ?_
  rintro e w2 ⟨v', rfl, hv, hb2⟩
  have HV := Lib.hid hv
  have HB2 := Lib.hid hb2
  clear hv hb2 H2
  go_wp2_with fail
  go_ret2
  exact ⟨v', rfl, HV.out, HB1.out.trans (HB2.out.mono HB1.out.size)⟩
theorem pholds_bad (L : Int) (fv lv : Value) (f : List Nd) (l : List Int) (w : World) (hf : RdN w w.heap.size fv f) (hl : RdI w w.heap.size lv l) (hc : checkQ L (setsOf L) f ≠ 0 ∨ wcheckP L l ≠ 0) :
    Calls Try.prog 5 #[.int .i64 L, fv, lv] w fun e w' => (∃ c, e = .returned (.tuple #[.bool false, .iface 63 (.int .i64 c)])) ∧ Below w.heap.size w w' := by
  have H1 := qcheck_all L fv f w hf
  have H2 := fun W hb => wcheck_any L lv l W (Rd.mono (Rd.below hl hb) hb.size)
  by_cases h1 : checkQ L (setsOf L) f = 0
  · have h2 : wcheckP L l ≠ 0 := by rcases hc with h | h; exact absurd h1 h; exact h
    rw [h1, errV_zero] at H1
    simp only [errV_pos h2] at H2
    have HH1 := Lib.hid H1
    have HH2 := Lib.hid H2
    clear H1 H2 hf hl h1 h2 hc
    go_enter Try.func5, Try.ntmps5
    go_wp2_with fail
    refine HH1.out.mono ?_
    rintro e w1 ⟨rfl, hb1⟩
    have H2 := HH2.out w1 hb1
    have HB1 := Lib.hid hb1
    clear hb1
    go_wp2_with fail
    refine H2.mono ?_
    rintro e w2 ⟨rfl, hb2⟩
    have HB2 := Lib.hid hb2
    clear hb2 H2
    go_wp2_with fail
    go_ret2
    exact ⟨⟨_, rfl⟩, HB1.out.trans (HB2.out.mono HB1.out.size)⟩
  · rw [errV_pos h1] at H1
    have HH1 := Lib.hid H1
    clear H1 H2 hf hl h1 hc
    go_enter Try.func5, Try.ntmps5
    go_wp2_with fail
    refine HH1.out.mono ?_
    rintro e w1 ⟨rfl, hb1⟩
    have HB1 := Lib.hid hb1
    clear hb1
    go_wp2_with fail
    go_ret2
    exact ⟨⟨_, rfl⟩, HB1.out⟩
end Go.Proofs.Ytccknopchddicaa
