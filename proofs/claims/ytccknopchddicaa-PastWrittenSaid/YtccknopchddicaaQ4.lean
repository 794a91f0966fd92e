/- contract: past.Holds of a good word. -/
import Derived.Test.YtccknopchddicaaQ3
import Derived.IntWalk
namespace Go.Proofs.Ytccknopchddicaa
open Go.RowKit Stile
theorem valsL_take (f : List Nd) (l : List Int) (k : Nat) (h : k < l.length) : valsL f (l.take (k + 1)).reverse = aheadL f (valsL f (l.take k).reverse) (l.getD k 0) := by
  rw [List.take_succ_eq_append_getElem h, List.reverse_append]
  simp [valsL, List.getD, h]
set_option maxHeartbeats 800000 in
theorem pholds_ok (L : Int) (fv lv : Value) (f : List Nd) (l : List Int) (w : World) (hf : RdN w w.heap.size fv f) (hl : RdI w w.heap.size lv l) (hc : checkQ L (setsOf L) f = 0) (hw : wcheckP L l = 0) :
    Calls Try.prog 5 #[.int .i64 L, fv, lv] w fun e w' => e = .returned (.tuple #[.bool (holds f l.reverse), .nilIface]) ∧ Below w.heap.size w w' := by
  have H1 := qcheck_all L fv f w hf
  have H2 := fun W hb => wcheck_any L lv l W (Rd.mono (Rd.below hl hb) hb.size)
  rw [hc, errV_zero] at H1
  simp only [hw, errV_zero] at H2
  obtain ⟨⟨hL1, hL6⟩, h0, h40, hok⟩ := checkQ_ok.1 hc
  obtain ⟨_, h80, hin⟩ := wcheckP_ok.1 hw
  have H3 := fun W hb => valuesE_any _ fv f W (Rd.mono (Rd.below hf hb) hb.size) hok h0 h40
  have H4 : ∀ W tv (k : Nat), Below w.heap.size w W → k < l.length → RdB W W.heap.size tv (valsL f (l.take k).reverse) → Calls Try.prog 16 #[fv, tv, .int .i64 (l.getD k 0)] W fun en w' => ∃ v', en = .returned v' ∧ RdB w' w'.heap.size v' (valsL f (l.take (k + 1)).reverse) ∧ Below W.heap.size W w' := fun W tv k hb hk ht => by
    have hm : l.getD k 0 ∈ l := by rw [List.getD, List.getElem?_eq_getElem hk]; exact List.getElem_mem hk
    obtain ⟨a0, a1⟩ := hin _ hm
    rw [valsL_take f l k hk]
    obtain ⟨n, hn⟩ : ∃ n : Nat, l.getD k 0 = (n : Int) := ⟨(l.getD k 0).toNat, by omega⟩
    rw [hn]
    exact valuesA_any _ fv tv f _ n W (Rd.mono (Rd.below hf hb) hb.size) ht hok (setsOf_le hL1 hL6).2 (by omega) (valsL_len _ _) h0 h40
  have hlast : ∀ l', lastB (valsL f l') = (valsL f l').getD (f.length - 1) false := fun l' => by rw [lastB, valsL_len]
  have hvl : ∀ l', (valsL f l').length = f.length := valsL_len f
  obtain ⟨lA, lc, rfl, hlc, hlcell⟩ := hl
  have HA : ∀ k : Nat, k < l.length → ∃ b off x, lA = some ⟨b, off, none⟩ ∧ b < w.heap.size ∧ w.cell? ⟨b, off + k, none⟩ = some (.int .i64 x) ∧ l.getD k 0 = x := fun k hk => by
    obtain ⟨b, off, e1, e2, e3⟩ := hlcell (by omega)
    exact ⟨b, off, _, e1, e2, e3 k (by omega), rfl⟩
  obtain ⟨N, hN⟩ : ∃ N, f.length = N + 1 := ⟨f.length - 1, by omega⟩
  have hHolds : holds f l.reverse = (valsL f (l.take l.length).reverse).getD N false := by
    rw [holds, List.take_length, hlast, hN]; simp
  rw [hHolds]
  generalize hll : l.length = n at *
  obtain ⟨VV, hVV⟩ : ∃ VV : Nat → List Bool, VV = fun k => valsL f (l.take k).reverse := ⟨_, rfl⟩
  have hV0 : VV 0 = endL f := by rw [hVV]; simp [valsL]
  have hVlen : ∀ k, (VV k).length = N + 1 := fun k => by rw [hVV, ← hN]; exact hvl _
  simp only [show ∀ k, valsL f (l.take k).reverse = VV k from fun k => by rw [hVV]] at H4 ⊢
  have hN40 : N < 40 := by omega
  have HH1 := Lib.hid H1
  have HH2 := Lib.hid H2
  have HH3 := Lib.hid H3
  have HH4 := Lib.hid H4
  have HV0 := Lib.hid hV0
  have HVL := Lib.hid hVlen
  have HHA := Lib.hid HA
  clear H1 H2 H3 H4 hf hok hc hw hin hlast hvl hlcell HA hHolds hll hVV hV0 hVlen hN h0 h40
  go_enter Try.func5, Try.ntmps5
  go_wp2_with fail
  refine HH1.out.mono ?_
  rintro e w1 ⟨rfl, hb1⟩
  have H2 := HH2.out w1 hb1
  have HB1 := Lib.hid hb1
  clear hb1
  go_wp2_with fail
  refine H2.mono ?_
  rintro e w2 ⟨rfl, hb2⟩
  have hb2' := HB1.out.trans (hb2.mono HB1.out.size)
  have H3 := HH3.out w2 hb2'
  have HB2 := Lib.hid hb2'
  clear hb2 hb2' H2
  go_wp2_with fail
  refine H3.mono ?_
  rintro e w3 ⟨v3, rfl, hv3, hb3⟩
  have hb3' := HB2.out.trans (hb3.mono HB2.out.size)
  rw [← HV0.out] at hv3
  have HB3 := Lib.hid hb3'
  have HV3 := Lib.hid hv3
  clear hb3 hb3' H3 hv3
  go_wp2_with fail
  go_loopw [10, 29] (fun v i wr => ∃ k : Nat, k ≤ n ∧ i = .int .i64 (k : Int) ∧ Below w.heap.size w wr ∧ RdB wr wr.heap.size v (VV k)) (fun _ i _ => n - (intOf i).toNat)
  case atStart => exact ⟨0, by omega, rfl, HB3.out, HV3.out⟩
  case round =>
    obtain ⟨k, hk, rfl, hb, hv⟩ := hrel
    obtain ⟨wo, rfl⟩ : ∃ wo : World, wo = wr := ⟨_, rfl⟩
    by_cases hlt : k < n
    · obtain ⟨b, off, x, rfl, hbl, hx, hxe⟩ := HHA.out k hlt
      have hx' := (hb.cell (p := ⟨b, off + k, none⟩) hbl).trans hx
      have hbl2 : b < wo.heap.size := Nat.lt_of_lt_of_le hbl hb.size
      have H := HH4.out wo _ k hb hlt hv
      rw [hxe] at H
      have HH := Lib.hid H
      have HB := Lib.hid hb
      clear hx hxe H hb hv
      go_wp2_with fail
      refine HH.out.mono ?_
      rintro e w5 ⟨v5, rfl, hv5, hb5⟩
      have hb5' := HB.out.trans (hb5.mono HB.out.size)
      have HV5 := Lib.hid hv5
      have HB5 := Lib.hid hb5'
      clear hv5 hb5 hb5'
      go_wp2_with fail
      go_roundw
      case rel => exact ⟨k + 1, by omega, by go_num, HB5.out, HV5.out⟩
      case measure => simp [intOf]; omega
    · have hkn : k = n := by omega
      subst hkn
      have hl1 := HVL.out k
      obtain ⟨vb, voff, vc, rfl, hvc, hvb, hvcell⟩ := Rd.at1 hv (by omega)
      have hcl := hvcell N (by omega)
      unfold bools at hcl
      obtain ⟨r, hr⟩ : ∃ r, (VV k).getD N false = r := ⟨_, rfl⟩
      rw [hr] at hcl
      obtain ⟨m, hm⟩ : ∃ m, (VV k).length = m := ⟨_, rfl⟩
      rw [hm] at hvc ⊢
      have hNw : IntKind.i64.wrap ((m : Int) - 1) = (N : Int) := by rw [IntWalk.i64_in _ (by omega)]; omega
      have hmN : N < m := by omega
      have HB := Lib.hid hb
      have HR := Lib.hid hr
      have hvb2 : vb < wo.heap.size := hvb
      clear hvcell hr hb hv hl1 hm
      go_wp2_with fail
      go_ret2
      exact ⟨by rw [HR.out]; rfl, HB.out⟩
end Go.Proofs.Ytccknopchddicaa
