/- contracts: mean.Values, mean.Holds; what form.Check lets by. -/
import Derived.Test.YtccknopchddicaaGreatDoorMC5
import Derived.Test.YtccknopchddicaaGreatDoorMGb
import Derived.IntWalk
set_option linter.unusedSimpArgs false
set_option linter.unusedVariables false
set_option linter.unnecessarySimpa false
namespace Go.Proofs.YtccknopchddicaaGreatDoor
open Go.RowKit Stile
theorem oneP_ok {M i : Int} {x : Nd} : oneP M i x = 0 ↔ okNode futK M i x := by
  obtain ⟨k, a, b⟩ := x
  by_cases hk : k = 0 ∨ k = 1 ∨ k = 2 ∨ k = 3 ∨ k = 4 ∨ k = 5 ∨ k = 6 ∨ k = 7 ∨ k = 8 ∨ k = 9
  · rcases hk with rfl | rfl | rfl | rfl | rfl | rfl | rfl | rfl | rfl | rfl <;> simp [oneP, okNode, partsP, futK, leafK, oneK, twoK] <;> omega
  · have h1 : k < 0 ∨ 9 < k := by omega
    have h2 : futK k = false := by simp [futK]; omega
    simp [oneP, okNode, h1, h2]
theorem nodesP_ok (M : Int) : ∀ (f : List Nd) (i : Nat), nodesP M i f = 0 ↔ ∀ j (h : j < f.length), okNode futK M ((i : Int) + j) f[j]
  | [], i => by simp [nodesP]
  | x :: f, i => by
    rw [nodesP]
    by_cases h : oneP M i x = 0
    · rw [if_pos h, nodesP_ok M f (i + 1)]
      constructor
      · intro H j hj
        match j with
        | 0 => simpa using oneP_ok.1 h
        | j + 1 =>
          have := H j (by simpa using hj)
          have e : (i : Int) + ((j + 1 : Nat) : Int) = ((i + 1 : Nat) : Int) + (j : Int) := by simp; omega
          simp only [List.getElem_cons_succ]
          rw [e]
          exact this
      · intro H j hj
        have := H (j + 1) (by simpa using hj)
        have e : (i : Int) + ((j + 1 : Nat) : Int) = ((i + 1 : Nat) : Int) + (j : Int) := by simp; omega
        simp only [List.getElem_cons_succ] at this
        rw [e] at this
        exact this
    · rw [if_neg h]
      constructor
      · intro H; exact absurd H h
      · intro H
        have := H 0 (by simp)
        exact absurd (oneP_ok.2 (by simpa using this)) h
theorem checkP_ok {L M : Int} {f : List Nd} : checkP L M f = 0 ↔ (1 ≤ L ∧ L ≤ 6) ∧ 0 < f.length ∧ f.length ≤ 40 ∧ okF futK M f := by
  unfold checkP
  split
  · constructor
    · intro h; cases h
    · rintro ⟨h, _⟩; omega
  · split
    · constructor
      · intro h; cases h
      · rintro ⟨_, h, _⟩; omega
    · split
      · constructor
        · intro h; cases h
        · rintro ⟨_, _, h, _⟩; omega
      · rw [nodesP_ok]
        constructor
        · intro h; exact ⟨by omega, by omega, by omega, fun i hi => by have := h i hi; simpa using this⟩
        · rintro ⟨_, _, _, h⟩ j hj; have := h j hj; simpa using this
theorem wcheckP_ok {L : Int} {l : List Int} : wcheckP L l = 0 ↔ (1 ≤ L ∧ L ≤ 6) ∧ l.length ≤ 80 ∧ ∀ a ∈ l, 0 ≤ a ∧ a < L := by
  unfold wcheckP
  split
  · constructor
    · intro h; cases h
    · rintro ⟨h, _⟩; omega
  · split
    · constructor
      · intro h; cases h
      · rintro ⟨_, h, _⟩; omega
    · split
      · rename_i h
        constructor
        · intro h; cases h
        · rintro ⟨_, _, h3⟩
          obtain ⟨a, ha, hb⟩ := List.any_eq_true.1 h
          have := h3 a ha
          simp [badL] at hb; omega
      · rename_i h
        constructor
        · intro _
          refine ⟨by omega, by omega, fun a ha => ?_⟩
          have h' : ¬ badL L a = true := fun hb => h (List.any_eq_true.2 ⟨a, ha, hb⟩)
          simp [badL] at h'; omega
        · intro _; rfl
/-- how many sets of letters there are, as Go reckons it -/
def setsOf (L : Int) : Int := IntKind.i64.wrap (2 ^ L.toNat)
theorem setsOf_le {L : Int} (h1 : 1 ≤ L) (h6 : L ≤ 6) : setsOf L = 2 ^ L.toNat ∧ setsOf L ≤ 64 := by
  have : L = 1 ∨ L = 2 ∨ L = 3 ∨ L = 4 ∨ L = 5 ∨ L = 6 := by omega
  rcases this with rfl | rfl | rfl | rfl | rfl | rfl <;> exact ⟨by decide +kernel, by decide +kernel⟩
theorem fcheck_all (L : Int) (fv : Value) (f : List Nd) (w : World) (hf : RdN w w.heap.size fv f) :
    Calls Tryz.prog 48 #[.int .i64 L, fv] w fun e w' => e = .returned (errV (checkP L (setsOf L) f)) ∧ Below w.heap.size w w' := by
  by_cases h : L < 1 ∨ 6 < L
  · have : checkP L (setsOf L) f = 1 := by unfold checkP; rw [if_pos h]
    rw [this]
    exact check_letters L fv w h
  · obtain ⟨n, rfl⟩ : ∃ n : Nat, L = (n : Int) := ⟨L.toNat, by omega⟩
    exact check_any n _ fv f w (by omega) (by omega) (by simp [setsOf]) hf
set_option maxHeartbeats 800000 in
theorem mvalues_bad (L : Int) (fv lv : Value) (f : List Nd) (l : List Int) (w : World) (hf : RdN w w.heap.size fv f) (hl : RdI w w.heap.size lv l) (hc : checkP L (setsOf L) f ≠ 0 ∨ wcheckP L l ≠ 0) :
    Calls Tryz.prog 47 #[.int .i64 L, fv, lv] w fun e w' => (∃ c, e = .returned (.tuple #[.slice none 0 0, .iface 76 (.int .i64 c)])) ∧ Below w.heap.size w w' := by
  have H1 := fcheck_all L fv f w hf
  have H2 := fun W hb => wcheck_any L lv l W (Rd.mono (Rd.below hl hb) hb.size)
  by_cases h1 : checkP L (setsOf L) f = 0
  · have h2 : wcheckP L l ≠ 0 := by rcases hc with h | h; exact absurd h1 h; exact h
    rw [h1, errV_zero] at H1
    simp only [errV_pos h2] at H2
    have HH1 := Lib.hid H1
    have HH2 := Lib.hid H2
    clear H1 H2 hf hl h1 h2 hc
    go_enter Tryz.func47, Tryz.ntmps47
    go_wp2_with fail
    refine HH1.out.mono ?_
    rintro e w1 ⟨rfl, hb1⟩
    have H2 := HH2.out w1 hb1
    have HB1 := Lib.hid hb1
    clear hb1
    go_wp2_with fail
    refine H2.mono ?_
    rintro e w2 ⟨rfl, hb2⟩
    have HB2 := Lib.hid hb2
    clear hb2 H2
    go_wp2_with fail
    go_ret2
    exact ⟨⟨_, rfl⟩, HB1.out.trans (HB2.out.mono HB1.out.size)⟩
  · rw [errV_pos h1] at H1
    have HH1 := Lib.hid H1
    clear H1 H2 hf hl h1 hc
    go_enter Tryz.func47, Tryz.ntmps47
    go_wp2_with fail
    refine HH1.out.mono ?_
    rintro e w1 ⟨rfl, hb1⟩
    have HB1 := Lib.hid hb1
    clear hb1
    go_wp2_with fail
    go_ret2
    exact ⟨⟨_, rfl⟩, HB1.out⟩
theorem mholds_bad (L : Int) (fv lv : Value) (f : List Nd) (l : List Int) (w : World) (hf : RdN w w.heap.size fv f) (hl : RdI w w.heap.size lv l) (hc : checkP L (setsOf L) f ≠ 0 ∨ wcheckP L l ≠ 0) :
    Calls Tryz.prog 39 #[.int .i64 L, fv, lv] w fun e w' => (∃ c, e = .returned (.tuple #[.bool false, .iface 76 (.int .i64 c)])) ∧ Below w.heap.size w w' := by
  have H := mvalues_bad L fv lv f l w hf hl hc
  have HH := Lib.hid H
  clear H hf hl hc
  go_enter Tryz.func39, Tryz.ntmps39
  go_wp2_with fail
  refine HH.out.mono ?_
  rintro e w1 ⟨⟨c, rfl⟩, hb1⟩
  have HB1 := Lib.hid hb1
  clear hb1
  go_wp2_with fail
  go_ret2
  exact ⟨⟨_, rfl⟩, HB1.out⟩
theorem valsL_drop (f : List Nd) (l : List Int) (j : Nat) (h : j < l.length) : valsL f (l.drop j) = aheadL f (valsL f (l.drop (j + 1))) (l.getD j 0) := by
  have e : l.getD j 0 = l[j] := by simp [List.getD, h]
  rw [e]
  conv => lhs; rw [List.drop_eq_getElem_cons h]
  rfl
set_option maxRecDepth 100000 in
set_option maxHeartbeats 800000 in
theorem mvalues_ok (L : Int) (fv lv : Value) (f : List Nd) (l : List Int) (w : World) (hf : RdN w w.heap.size fv f) (hl : RdI w w.heap.size lv l) (hc : checkP L (setsOf L) f = 0) (hw : wcheckP L l = 0) :
    Calls Tryz.prog 47 #[.int .i64 L, fv, lv] w fun e w' => ∃ v', e = .returned (.tuple #[v', .nilIface]) ∧ RdB w' w'.heap.size v' (valsL f l) ∧ Below w.heap.size w w' := by
  have H1 := fcheck_all L fv f w hf
  have H2 := fun W hb => wcheck_any L lv l W (Rd.mono (Rd.below hl hb) hb.size)
  rw [hc, errV_zero] at H1
  simp only [hw, errV_zero] at H2
  obtain ⟨⟨hL1, hL6⟩, h0, h40, hok⟩ := checkP_ok.1 hc
  obtain ⟨_, hln, hin⟩ := wcheckP_ok.1 hw
  have H3 := fun W hb => end_any _ fv f W (Rd.mono (Rd.below hf hb) hb.size) hok h0 h40
  have H4 := fun W tv (k : Nat) (hb : Below w.heap.size w W) (hk : k < l.length) (ht : RdB W W.heap.size tv (valsL f (l.drop (k + 1)))) => by
    have h1 := hin (l.getD k 0) (by rw [List.getD, List.getElem?_eq_getElem hk]; exact List.getElem_mem hk)
    have := ahead_any _ fv tv f _ (l.getD k 0).toNat W (Rd.mono (Rd.below hf hb) hb.size) ht hok (setsOf_le hL1 hL6).2 (by omega) (valsL_len f _) h0 h40
    rw [show (((l.getD k 0).toNat : Nat) : Int) = l.getD k 0 by omega, ← valsL_drop f l k hk] at this
    exact this
  obtain ⟨fA, fc, rfl, hfc, hfr⟩ := hf
  obtain ⟨lA, lc, rfl, hlc, hlcell⟩ := hl
  have HA : ∀ k : Nat, k < l.length → ∃ b off x, lA = some ⟨b, off, none⟩ ∧ b < w.heap.size ∧ w.cell? ⟨b, off + k, none⟩ = some (.int .i64 x) ∧ l.getD k 0 = x := fun k hk => by
    obtain ⟨b, off, e1, e2, e3⟩ := hlcell (by omega)
    exact ⟨b, off, _, e1, e2, e3 k (by omega), rfl⟩
  have hd : endL f = valsL f (l.drop l.length) := by rw [List.drop_length]; rfl
  simp only [hd] at H3
  clear hd hlcell hfr
  obtain ⟨VV, hVV⟩ : ∃ VV : Nat → List Bool, VV = fun k => valsL f (l.drop k) := ⟨_, rfl⟩
  have hVVk : ∀ k, valsL f (l.drop k) = VV k := fun k => by rw [hVV]
  have hVV0 : valsL f l = VV 0 := by rw [hVV]; simp
  simp only [hVVk] at H3 H4
  rw [hVV0]
  clear hVV hVVk hVV0
  generalize l.length = n at *
  generalize f.length = fn at *
  have HH1 := Lib.hid H1
  have HH2 := Lib.hid H2
  have HH3 := Lib.hid H3
  have HH4 := Lib.hid H4
  have HHA := Lib.hid HA
  clear H1 H2 H3 H4 hok hc hw hin HA
  go_enter Tryz.func47, Tryz.ntmps47
  go_wp2_with fail
  refine HH1.out.mono ?_
  rintro e w1 ⟨rfl, hb1⟩
  have H2 := HH2.out w1 hb1
  have HB1 := Lib.hid hb1
  clear hb1
  go_wp2_with fail
  refine H2.mono ?_
  rintro e w2 ⟨rfl, hb2⟩
  have hb2' := HB1.out.trans (hb2.mono HB1.out.size)
  have H3 := HH3.out w2 hb2'
  have HB2 := Lib.hid hb2'
  clear hb2 hb2' H2
  go_wp2_with fail
  refine H3.mono ?_
  rintro e w3 ⟨v3, rfl, hv3, hb3⟩
  have HB3 := Lib.hid (HB2.out.trans (hb3.mono HB2.out.size))
  have HV3 := Lib.hid hv3
  clear hb3 H3 hv3
  go_wp2_with fail
  go_loopw [10, 11] (fun v i wr => Below w.heap.size w wr ∧ ∃ k : Nat, k ≤ n ∧ i = .int .i64 ((k : Int) - 1) ∧ RdB wr wr.heap.size v (VV k)) (fun _ i _ => (intOf i + 1).toNat)
  case atStart => exact ⟨HB3.out, n, by omega, rfl, HV3.out⟩
  case round =>
    obtain ⟨hb, k, hk, rfl, hv⟩ := hrel
    obtain ⟨wo, rfl⟩ : ∃ wo : World, wo = wr := ⟨_, rfl⟩
    rcases Nat.eq_zero_or_pos k with h0k | hkp
    · subst h0k
      have HB := Lib.hid hb
      have HV := Lib.hid hv
      clear hb hv
      go_wp2_with fail
      go_ret2
      exact ⟨_, rfl, HV.out, HB.out⟩
    · obtain ⟨j, hj⟩ : ∃ j, k = j + 1 := ⟨k - 1, by omega⟩
      subst hj
      rw [show ((j + 1 : Nat) : Int) - 1 = (j : Int) by omega]
      obtain ⟨b, off, x, rfl, hbl, hx, hxe⟩ := HHA.out j (by omega)
      have hx' := (hb.cell (p := ⟨b, off + j, none⟩) hbl).trans hx
      have hbl2 : b < wo.heap.size := Nat.lt_of_lt_of_le hbl hb.size
      have H := HH4.out wo _ j hb (by omega) hv
      rw [hxe] at H
      have hjn : j < n := by omega
      have HH := Lib.hid H
      have HB := Lib.hid hb
      clear hx hxe H hb hv
      go_wp2_with fail
      refine HH.out.mono ?_
      rintro e w5 ⟨v5, rfl, hv5, hb5⟩
      have HB5 := Lib.hid (HB.out.trans (hb5.mono HB.out.size))
      have HV5 := Lib.hid hv5
      clear hv5 hb5
      go_wp2_with fail
      go_roundw
      case rel => exact ⟨HB5.out, j, by omega, rfl, HV5.out⟩
      case measure => simp [intOf]
set_option maxHeartbeats 800000 in
theorem mholds_ok (L : Int) (fv lv : Value) (f : List Nd) (l : List Int) (w : World) (hf : RdN w w.heap.size fv f) (hl : RdI w w.heap.size lv l) (hc : checkP L (setsOf L) f = 0) (hw : wcheckP L l = 0) :
    Calls Tryz.prog 39 #[.int .i64 L, fv, lv] w fun e w' => e = .returned (.tuple #[.bool (holds f l), .nilIface]) ∧ Below w.heap.size w w' := by
  have H := mvalues_ok L fv lv f l w hf hl hc hw
  obtain ⟨_, h0, h40, _⟩ := checkP_ok.1 hc
  obtain ⟨V, hV⟩ : ∃ V, valsL f l = V := ⟨_, rfl⟩
  have hlen : V.length = f.length := by rw [← hV, valsL_len]
  rw [hV] at H
  rw [holds, hV, lastB]
  obtain ⟨r, hr⟩ : ∃ r, V.getD (V.length - 1) false = r := ⟨_, rfl⟩
  rw [hr]
  have HH := Lib.hid H
  have HR := Lib.hid hr
  have hV0 : 0 < V.length := by omega
  have hV40 : V.length ≤ 40 := by omega
  clear H hf hl hc hw hV hr hlen
  go_enter Tryz.func39, Tryz.ntmps39
  go_wp2_with fail
  refine HH.out.mono ?_
  rintro e w1 ⟨v', rfl, hv, hb⟩
  obtain ⟨vb, voff, vc, rfl, hvc, hvb, hvcell⟩ := Rd.at1 hv hV0
  obtain ⟨N, hN⟩ : ∃ N, V.length = N + 1 := ⟨V.length - 1, by omega⟩
  have hcl := hvcell N (by omega)
  unfold bools at hcl
  rw [show V.getD N false = r by rw [← HR.out, hN]; rfl] at hcl
  obtain ⟨m, hm⟩ : ∃ m, V.length = m := ⟨_, rfl⟩
  rw [hm] at hvc hN hV0 hV40 ⊢
  have hNw : IntKind.i64.wrap ((m : Int) - 1) = (N : Int) := by rw [IntWalk.i64_in _ (by omega)]; omega
  have hmN : N < m := by omega
  have HB := Lib.hid hb
  have HN := Lib.hid hN
  clear hv hvcell hb hm hN HR
  go_wp2_with fail
  go_ret2
  exact ⟨rfl, HB.out⟩
end Go.Proofs.YtccknopchddicaaGreatDoor
