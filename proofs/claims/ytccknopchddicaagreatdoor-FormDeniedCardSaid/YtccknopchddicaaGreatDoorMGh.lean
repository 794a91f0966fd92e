/- contracts: core.Queue's Push and Pop. -/
import Derived.Test.YtccknopchddicaaGreatDoorMGa
import Derived.Test.YtccknopchddicaaGreatDoorMGg
import Derived.Test.YtccknopchddicaaGreatDoorMS2
set_option linter.unusedSimpArgs false
set_option linter.unusedVariables false
set_option linter.unnecessarySimpa false
namespace Go.Proofs.YtccknopchddicaaGreatDoor
open Go.RowKit Stile
theorem info_i : (Tryz.prog.info? 3).map (fun i => (i.zero, i.size, i.bytes)) = some (some (.int .i64 0), 1, 8) := by kernel_rfl
def natV (x : Nat) : Value := .int .i64 (x : Int)
/-- a queue in block q: what came in, and how many have gone -/
structure QAt (w : World) (q : Nat) (v : Value) (its : List Nat) (hd : Nat) : Prop where
  blk : w.heap[q]? = some (Obj.cells #[v, .int .i64 (hd : Int)] 188)
  own : w.ownsRow q 3 1 v its.length (its.map natV)
set_option maxRecDepth 100000 in
set_option maxHeartbeats 800000 in
theorem push_any (q x hd : Nat) (v : Value) (its : List Nat) (w : World) (h : QAt w q v its hd) (hlen : its.length ≤ 1000) :
    Calls Tryz.prog 124 #[.pointer (some ⟨q, 0, none⟩), .int .i64 (x : Int)] w fun e w' => (∃ u, e = .returned u) ∧ ∃ v', QAt w' q v' (its ++ [x]) hd ∧ Grew q 3 w w' := by
  obtain ⟨n, hn⟩ : ∃ n, its.length = n := ⟨_, rfl⟩
  have hown := h.own
  rw [hn] at hown
  obtain ⟨vA, vc, rfl⟩ : ∃ A c, v = .slice A n c := own_shape hown
  have hc0 := fld_cell h.blk 0
  have hf0 := fld_frozen h.blk 0
  have hql := lt_blk h.blk
  simp at hc0
  have HQ := Lib.hid h
  have HN := Lib.hid hn
  have HOWN := Lib.hid hown
  rw [hn] at hlen
  obtain ⟨i0, hi0, hz0, hz1, hz2⟩ := info_parts info_i
  clear h hn hown
  go_enter Tryz.func124, Tryz.ntmps124
  go_wp2_with (at_builtin; refine wpList_append_lies _ rfl _ _ 23 rfl q 3 i0 _ 1 8 Tryz.underlying23 hi0 hz0 hz1 hz2 rfl (by decide) (.slice vA n vc) n _ rfl (HOWN.out.alloc _) ⟨w.heap.size, 0, none⟩ 1 1 [.int .i64 (x : Int)] rfl rfl (cell_one_new _ _ _) (by simp [Value.oneCell']) (by decide) (by unfold maxLen; omega) (by omega) (by simp; omega) _ rfl ?_; intro g' cap' w5 hown5 hgrow5 hat5 hlt5; have hk5 := fld_keep HQ.out.blk HOWN.out hgrow5 (by decide); have hc5 := fld_cell hk5 0; simp at hc5; have hf5 := fld_frozen hk5 0; have hl5 := lt_blk hk5; clear hk5)
  go_end0
  obtain ⟨r1, r2⟩ := fld_grew (k := 0) (u := .slice (some ⟨g', 0, none⟩) (n + 1) cap') HQ.out.blk HOWN.out hgrow5 hown5 (by decide)
  have hk := fld_keep HQ.out.blk HOWN.out hgrow5 (by decide)
  have hs := fld_set hk 0 (.slice (some ⟨g', 0, none⟩) (n + 1) cap')
  refine ⟨⟨_, rfl⟩, .slice (some ⟨g', 0, none⟩) (n + 1) cap', ⟨by simpa using hs, ?_⟩, r2⟩
  rw [List.length_append, HN.out, List.map_append]
  exact r1
set_option maxRecDepth 100000 in
set_option maxHeartbeats 800000 in
theorem pop_none (q : Nat) (v : Value) (its : List Nat) (w : World) (h : QAt w q v its its.length) :
    Calls Tryz.prog 125 #[.pointer (some ⟨q, 0, none⟩)] w fun e w' => e = .returned (.tuple #[.int .i64 0, .bool false]) ∧ ∃ n, w' = w.drewN n := by
  obtain ⟨vA, vc, rfl⟩ : ∃ A c, v = .slice A its.length c := own_shape h.own
  have hc0 := fld_cell h.blk 0
  have hc1 := fld_cell h.blk 1
  have hql := lt_blk h.blk
  simp at hc0 hc1
  have heq : ((its.length : Int) == (its.length : Int)) = true := by simp
  generalize its.length = n at *
  clear h
  go_enter Tryz.func125, Tryz.ntmps125
  go_upto_region 1 with fail
  go_quiet (fail)
  go_wp2_with fail
  go_ret2
  exact ⟨rfl, nq, rfl⟩
set_option maxRecDepth 100000 in
set_option maxHeartbeats 800000 in
theorem pop_some (q hd : Nat) (v : Value) (its : List Nat) (w : World) (h : QAt w q v its hd) (hlt : hd < its.length) (hlen : its.length ≤ 1000) :
    Calls Tryz.prog 125 #[.pointer (some ⟨q, 0, none⟩)] w fun e w' => e = .returned (.tuple #[.int .i64 ((its.getD hd 0 : Nat) : Int), .bool true]) ∧ QAt w' q v its (hd + 1) ∧ Grew q 3 w w' := by
  obtain ⟨n, hn⟩ : ∃ n, its.length = n := ⟨_, rfl⟩
  have hown := h.own
  have hq : ∃ g c, v = .slice (some ⟨g, 0, none⟩) n c ∧ n ≤ c ∧ g < w.heap.size ∧ w.cell? ⟨g, hd, none⟩ = some (natV (its.getD hd 0)) := by
    rw [hn] at hown
    rcases hown.2 with ⟨_, e⟩ | ⟨g, cap, cur, e, hbs, hh, hnc, _, hsz, ht⟩
    · omega
    · refine ⟨g, cap, e, hnc, lt_blk hh, ?_⟩
      rw [fld_cell hh]
      have q : (its.map natV)[hd]? = some (natV (its.getD hd 0)) := by simp [List.getD, hlt]
      rw [← ht, List.getElem?_take, if_pos (by omega)] at q
      simpa using q
  obtain ⟨g, c, rfl, hnc, hgl, hcell⟩ := hq
  unfold natV at hcell
  obtain ⟨y, hy⟩ : ∃ y, its.getD hd 0 = y := ⟨_, rfl⟩
  rw [hy] at hcell ⊢
  have hc0 := fld_cell h.blk 0
  have hc1 := fld_cell h.blk 1
  have hf1 := fld_frozen h.blk 1
  have hql := lt_blk h.blk
  simp at hc0 hc1
  have heq : ((hd : Int) == (n : Int)) = false := by simp; omega
  have HQ := Lib.hid h
  have HN := Lib.hid hn
  rw [hn] at hlt hlen
  clear h hn hown hy
  go_enter Tryz.func125, Tryz.ntmps125
  go_upto_region 1 with fail
  go_quiet (fail)
  go_upto_region 3 with fail
  go_quiet (fail)
  go_wp2_with fail
  go_ret2
  obtain ⟨b1, b2⟩ := HQ.out
  have hs := fld_set b1 1 (.int .i64 ((hd : Int) + 1))
  refine ⟨rfl, ⟨?_, ?_⟩, ?_⟩
  · rw [show ((hd + 1 : Nat) : Int) = (hd : Int) + 1 by omega]
    refine Eq.trans ?_ (hs.trans (by simp))
    rfl
  · obtain ⟨a1, a2⟩ := b2
    refine ⟨a1, ?_⟩
    rcases a2 with a2 | ⟨g2, cap, cur, e, hbs, hh, r⟩
    · exact .inl a2
    · exact .inr ⟨g2, cap, cur, e, hbs, (Below.heap_setCell _ _ _ _ (fun e => blk_type b1 hh (by decide) e.symm)).trans hh, r⟩
  · refine ⟨?_, fun b t cs hb ht hne => Below.heap_setCell _ _ _ _ hne⟩
    exact Below.setCell (p := ⟨q, 1, none⟩) (below_drewN (Below.refl q w) _) (Nat.le_refl q) _
end Go.Proofs.YtccknopchddicaaGreatDoor
/- contract: reach.from. -/
namespace Go.Proofs.YtccknopchddicaaGreatDoor
open Go.RowKit Stile
theorem bit0_u64 (S x : Nat) (hS : S < 18446744073709551616) : (bits .and .u64 ((S : Int) / 2 ^ x) 1 == 0) = !S.testBit x := by
  have h := bit_u64 S x hS
  have h1 : ((S : Int) / 2 ^ x) = ((S / 2 ^ x : Nat) : Int) := by simp
  have h2 : S / 2 ^ x ≤ S := Nat.div_le_self _ _
  rw [h1, and_one_u64' _ (by omega)] at h ⊢
  rw [← h]
  have h3 : S / 2 ^ x % 2 = 0 ∨ S / 2 ^ x % 2 = 1 := by omega
  rcases h3 with h3 | h3 <;> simp [h3]
/-- how many have gone from the queue -/
def qHead (q : Nat) (w : World) : Nat := match w.cell? ⟨q, 1, none⟩ with | some v => (intOf v).toNat | none => 0
theorem QAt.head {w : World} {q : Nat} {v : Value} {its : List Nat} {hd : Nat} (h : QAt w q v its hd) : qHead q w = hd := by
  have h1 : w.cell? ⟨q, 1, none⟩ = some (.int .i64 (hd : Int)) := by have := fld_cell h.blk 1; simpa using this
  simp [qHead, h1, intOf]
theorem QAt.drewN {w : World} {q : Nat} {v : Value} {its : List Nat} {hd : Nat} (h : QAt w q v its hd) (n : Nat) : QAt (w.drewN n) q v its hd := ⟨h.blk, h.own⟩
theorem Grew.drewN {g E : Nat} {w w' : World} (h : Grew g E w w') (n : Nat) : Grew g E w (w'.drewN n) := ⟨below_drewN h.below n, h.other⟩
theorem Grew.refl' (g E : Nat) (w : World) : Grew g E w w := ⟨Below.refl _ _, fun _ _ _ _ _ _ => rfl⟩
def okN : Value → Nat
  | .bool true => 1
  | _ => 0
def Left' (L : Nat) (next : List (List Int)) (its : List Nat) (i : Nat) : Prop := ∀ a : Nat, a < L → ∃ z ∈ its, (next.getD (its.getD i 0) []).getD a 0 = ((z : Nat) : Int)
theorem Left'.more {L : Nat} {next : List (List Int)} {its : List Nat} {i : Nat} (h : Left' L next its i) (hi : i < its.length) (r : List Nat) : Left' L next (its ++ r) i := by
  intro a ha
  obtain ⟨z, hz, e⟩ := h a ha
  refine ⟨z, by simp [hz], ?_⟩
  rw [← e]
  congr 2
  simp [List.getD, List.getElem?_append_left hi]
theorem _root_.Stile.Bfs.all {L n : Nat} {next : List (List Int)} {s S : Nat} {its : List Nat} (h : Bfs L n next s S its) (hc : ∀ i, i < its.length → Left' L next its i) : fromN L next s = S := by
  refine h.done fun y hy a ha => ?_
  obtain ⟨i, hi, rfl⟩ := List.getElem_of_mem hy
  have := hc i hi a ha
  simpa [List.getD, hi] using this
theorem _root_.Stile.Bfs.lt64 {L n : Nat} {next : List (List Int)} {s S : Nat} {its : List Nat} (h : Bfs L n next s S its) (hn : n ≤ 40) : S < 1099511627776 := by
  apply Nat.lt_of_lt_of_le (m := 2 ^ 40)
  · apply Nat.lt_pow_two_of_testBit
    intro i hi
    rw [Bool.eq_false_iff]
    intro hb
    have := h.lt i ((h.bits i).1 hb)
    omega
  · decide
set_option maxRecDepth 100000 in
set_option maxHeartbeats 3200000 in
theorem from_any (L s : Nat) (dv : Value) (d : Da) (w : World) (h : DfV w w.heap.size dv d) (hok : DaOk d) (hL : d.letters = (L : Int)) (hs : s < d.next.length) :
    Calls Tryz.prog 111 #[dv, .int .i64 (s : Int)] w fun e w' => e = .returned (.int .u64 ((fromN L d.next s : Nat) : Int)) ∧ Below w.heap.size w w' ∧ fromN L d.next s < 1099511627776 := by
  obtain ⟨nv, fv, rfl, ⟨rv, hn, hr⟩, hf⟩ := h
  obtain ⟨nb, no, nc, rfl, hnc, hnb, hncell⟩ := Rd.at1 hn hok.pos
  obtain ⟨fA, fc, rfl, _⟩ := hf
  have hL1 : 1 ≤ L := by have := hok.let1; omega
  have hL6 : L ≤ 6 := by have := hok.let6; omega
  have hROW : ∀ x, x < d.next.length → ∃ rb ro rc, w.cell? ⟨nb, no + x, none⟩ = some (.slice (some ⟨rb, ro, none⟩) L rc) ∧ rb < w.heap.size ∧ L ≤ rc ∧ ∀ a, a < L → ∃ y : Nat, y < d.next.length ∧ w.cell? ⟨rb, ro + a, none⟩ = some (.int .i64 (y : Int)) ∧ (d.next.getD x []).getD a 0 = (y : Int) := fun x hx => by
    have hg : d.next.getD x [] = d.next[x] := by simp [List.getD, hx]
    have hrow : (d.next.getD x []).length = L := by
      rw [hg]; have := hok.rowlen _ (List.getElem_mem hx); omega
    obtain ⟨rb, ro, rc, q1, q2, q3, q4⟩ := Rd.at1 (hr x hx) (by rw [hrow]; omega)
    rw [hrow] at q1 q2 q4
    refine ⟨rb, ro, rc, by rw [← q1]; exact hncell x hx, q3, q2, fun a ha => ?_⟩
    have hm : (d.next.getD x []).getD a 0 ∈ d.next[x] := by
      rw [hg, List.getD, List.getElem?_eq_getElem (by rw [← hg, hrow]; exact ha)]; exact List.getElem_mem _
    obtain ⟨y0, y1⟩ := hok.rowin _ (List.getElem_mem hx) _ hm
    refine ⟨((d.next.getD x []).getD a 0).toNat, by omega, ?_, by omega⟩
    rw [q4 a ha, ints, Int.toNat_of_nonneg y0]
  have hn40 := hok.le
  rw [hL]
  generalize hNX : d.next = nx at *
  generalize hnn : nx.length = n at *
  generalize d.final.length = fn at *
  have hB0 := Bfs.begin L n nx s hs
  have HROW := Lib.hid hROW
  have HB0 := Lib.hid hB0
  clear hROW hncell hr hn hok hL hNX hnn hB0
  generalize d.start = st at *
  obtain ⟨W2, hW2⟩ : ∃ W2, (w.alloc (Obj.cells #[.int .i64 (L : Int), .int .i64 st, .slice (some ⟨nb, no, none⟩) n nc, .slice fA fn fc] 59)).alloc (Obj.cells #[.slice none 0 0, .int .i64 0] 188) = W2 := ⟨_, rfl⟩
  have hb2 : Below w.heap.size w W2 := by rw [← hW2]; exact ((Below.refl _ _).alloc (Nat.le_refl _) _).alloc (by simp) _
  have hd2 : W2.heap[w.heap.size]? = some (Obj.cells #[.int .i64 (L : Int), .int .i64 st, .slice (some ⟨nb, no, none⟩) n nc, .slice fA fn fc] 59) := by rw [← hW2]; exact heap_old2 _ _ _
  have hq2 : QAt W2 (w.heap.size + 1) (.slice none 0 0) [] 0 := ⟨by rw [← hW2]; exact heap_new2 _ _ _, World.ownsRow_nil _ _ _ _⟩
  have HPUSH := Lib.hid (push_any (w.heap.size + 1) s 0 _ [] W2 hq2 (by simp))
  have HW2 := Lib.hid hW2
  have HB2 := Lib.hid hb2
  have HD2 := Lib.hid hd2
  clear hW2 hb2 hd2 hq2
  go_enter Tryz.func111, Tryz.ntmps111
  go_wp2_with fail
  rw [HW2.out]
  refine HPUSH.out.mono ?_
  rintro e w3 ⟨⟨u3, rfl⟩, v3, hq3, hg3⟩
  rw [List.nil_append] at hq3
  have hpop := pop_some _ _ _ _ _ hq3 (by simp) (by simp)
  have HPOP := Lib.hid hpop
  have HG3 := Lib.hid hg3
  clear hpop hq3 hg3
  go_wp2_with fail
  refine HPOP.out.mono ?_
  rintro e w4 ⟨rfl, hq4, hg4⟩
  have HQ4 := Lib.hid hq4
  have HG4 := Lib.hid (HG3.out.trans hg4)
  clear hq4 hg4
  go_wp2_with fail
  rw [wrap_pow s (by omega), ← Nat.one_shiftLeft]
  have hb0 := HB0.out
  obtain ⟨S0, hS0⟩ : ∃ S, 1 <<< s = S := ⟨_, rfl⟩
  rw [hS0] at hb0 ⊢
  have HB0' := Lib.hid hb0
  clear hb0 hS0 HB0
  go_loopw [6, 7, 8] (fun S x ok wr => ∃ (SN : Nat) (its : List Nat) (hd : Nat) (v : Value) (okb : Bool) (xx : Nat), S = .int .u64 (SN : Int) ∧ x = .int .i64 (xx : Int) ∧ ok = .bool okb ∧ Bfs L n nx s SN its ∧ QAt wr (w.heap.size + 1) v its hd ∧ Grew (w.heap.size + 1) 3 W2 wr ∧ hd ≤ its.length ∧
      (okb = true → 0 < hd ∧ its.getD (hd - 1) 0 = xx ∧ ∀ i, i < hd - 1 → Left' L nx its i) ∧ (okb = false → ∀ i, i < its.length → Left' L nx its i)) (fun _ _ ok wr => 2 * (50 - qHead (w.heap.size + 1) wr) + okN ok)
  case atStart => exact ⟨S0, [s], 1, v3, true, s, rfl, rfl, rfl, HB0'.out, HQ4.out, HG4.out, by simp, fun _ => ⟨by omega, rfl, fun i hi => by omega⟩, (fun h => by cases h)⟩
  case round =>
    obtain ⟨SN, its, hd, v, okb, xx, rfl, rfl, rfl, hB, hQ, hG, hhd, ht, hf⟩ := hrel
    obtain ⟨wo, rfl⟩ : ∃ wo : World, wo = wr := ⟨_, rfl⟩
    have hlen := hB.len
    cases okb
    · have hR := hB.all (hf rfl)
      have h64 := hB.lt64 hn40
      have HR := Lib.hid hR
      have HG := Lib.hid hG
      clear hB hQ hG ht hf hR
      go_wp2_with fail
      go_ret
      rw [HR.out]
      exact ⟨rfl, HB2.out.trans (HG.out.below.mono (by omega)), h64⟩
    · obtain ⟨hd0, hxx, hleft⟩ := ht rfl
      have hqh := hQ.head
      have hmx : xx ∈ its := by
        rw [← hxx, List.getD, List.getElem?_eq_getElem (by omega)]; exact List.getElem_mem _
      have hxn := hB.lt xx hmx
      obtain ⟨rb, ro, rc, r1, r2, r3, r4⟩ := HROW.out xx hxn
      have hbw : Below w.heap.size w wo := HB2.out.trans (hG.below.mono (by omega))
      have hD := fld_cell ((hG.below.block w.heap.size (by omega)).trans HD2.out) 2
      have hDl := lt_blk ((hG.below.block w.heap.size (by omega)).trans HD2.out)
      have r1' := (hbw.cell (p := ⟨nb, no + xx, none⟩) hnb).trans r1
      have hnl := Nat.lt_of_lt_of_le hnb hbw.size
      simp at hD
      have HBF := Lib.hid hB
      have HQ := Lib.hid hQ
      have HG := Lib.hid hG
      have HLEFT := Lib.hid hleft
      have HXX := Lib.hid hxx
      have HMX := Lib.hid hmx
      have HR4 := Lib.hid r4
      have HQH := Lib.hid hqh
      clear hB hQ hG ht hf hleft hxx hmx r1 r4 hbw hqh
      go_wp2_with fail
      go_loopw [6, 30] (fun S a wr2 => ∃ (k SN' : Nat) (its' r : List Nat) (v' : Value), k ≤ L ∧ a = .int .i64 (k : Int) ∧ S = .int .u64 (SN' : Int) ∧ Bfs L n nx s SN' its' ∧ its' = its ++ r ∧ QAt wr2 (w.heap.size + 1) v' its' hd ∧ Grew (w.heap.size + 1) 3 W2 wr2 ∧ ∀ a', a' < k → ∃ z ∈ its', (nx.getD xx []).getD a' 0 = ((z : Nat) : Int)) (fun _ a _ => L - (intOf a).toNat)
      case atStart => exact ⟨0, SN, its, [], v, by omega, rfl, rfl, HBF.out, by simp, HQ.out, HG.out, fun a h => by omega⟩
      case round =>
        obtain ⟨k, SN', its', r, v', hk, rfl, rfl, hB, hits, hQ, hG, hcl⟩ := hrel
        obtain ⟨wi, rfl⟩ : ∃ wi : World, wi = wr := ⟨_, rfl⟩
        have hlen' := hB.len
        by_cases hkL : k < L
        · obtain ⟨y, hyn, hyc, hyv⟩ := HR4.out k hkL
          have hbw : Below w.heap.size w wi := HB2.out.trans (hG.below.mono (by omega))
          have hyc' := (hbw.cell (p := ⟨rb, ro + k, none⟩) r2).trans hyc
          have hrl := Nat.lt_of_lt_of_le r2 hbw.size
          have h64 := hB.lt64 hn40
          have hbit := bit0_u64 SN' y (by omega)
          have hor := or_pow SN' y (by omega) (by omega)
          cases hb : SN'.testBit y
          · have hpush := push_any (w.heap.size + 1) y hd v' its' wi hQ (by omega)
            have hB' := hB.push (x := xx) (a := k) (by rw [hits]; simp [HMX.out]) hkL hyn hyv hb
            rw [hb] at hbit
            have HP := Lib.hid hpush
            have HBP := Lib.hid hB'
            have HOR := Lib.hid hor
            have HITS := Lib.hid hits
            have HGI := Lib.hid hG
            have HCL := Lib.hid hcl
            have HYV := Lib.hid hyv
            clear hpush hB hB' hor hits hG hcl hyv hb hQ hyc hbw
            simp only [Bool.not_false] at hbit
            go_wp2_with fail
            refine HP.out.mono ?_
            rintro e w7 ⟨⟨u7, rfl⟩, v7, hq7, hg7⟩
            have HQ7 := Lib.hid hq7
            have HG7 := Lib.hid (HGI.out.trans hg7)
            clear hq7 hg7
            go_wp2_with fail
            go_roundw
            case rel =>
              refine ⟨k + 1, SN' ||| (1 <<< y), its' ++ [y], r ++ [y], v7, by omega, by go_num, by rw [HOR.out], HBP.out, by rw [HITS.out, List.append_assoc], HQ7.out, HG7.out, fun a' ha => ?_⟩
              by_cases e : a' = k
              · subst e; exact ⟨y, by simp, HYV.out⟩
              · obtain ⟨z, hz, e2⟩ := HCL.out a' (by omega)
                exact ⟨z, by simp [hz], e2⟩
            case measure => simp [intOf]; omega
          · have hym : y ∈ its' := (hB.bits y).1 hb
            rw [hb] at hbit
            have HBI := Lib.hid hB
            have HITS := Lib.hid hits
            have HGI := Lib.hid hG
            have HCL := Lib.hid hcl
            have HYV := Lib.hid hyv
            have HYM := Lib.hid hym
            have HQI := Lib.hid hQ
            clear hB hor hits hG hcl hyv hb hQ hyc hbw hym
            simp only [Bool.not_true] at hbit
            go_wp2_with fail
            go_roundw
            case rel =>
              refine ⟨k + 1, SN', its', r, v', by omega, by go_num, rfl, HBI.out, HITS.out, HQI.out, HGI.out, fun a' ha => ?_⟩
              by_cases e : a' = k
              · subst e; exact ⟨y, HYM.out, HYV.out⟩
              · exact HCL.out a' (by omega)
            case measure => simp [intOf]; omega
        · have hkL' : k = L := by omega
          subst hkL'
          have hlft : ∀ i, i < hd → Left' k nx its' i := fun i hi => by
            by_cases e : i = hd - 1
            · intro a ha
              have : its'.getD i 0 = xx := by rw [e, hits, ← HXX.out]; simp [List.getD, List.getElem?_append_left (show hd - 1 < its.length by omega)]
              rw [this]
              exact hcl a ha
            · rw [hits]; exact (HLEFT.out i (by omega)).more (by omega) r
          have hge : its.length ≤ its'.length := by rw [hits]; simp
          have HLF := Lib.hid hlft
          have HBI := Lib.hid hB
          have HGI := Lib.hid hG
          by_cases hmore : hd < its'.length
          · have hpop := pop_some _ _ _ _ _ hQ hmore (by omega)
            obtain ⟨yy, hyy⟩ : ∃ y, its'.getD hd 0 = y := ⟨_, rfl⟩
            rw [hyy] at hpop
            have HYY := Lib.hid hyy
            clear hyy
            have HP := Lib.hid hpop
            clear hpop hB hG hQ hcl hits hlft
            go_wp2_with fail
            refine HP.out.mono ?_
            rintro e w8 ⟨rfl, hq8, hg8⟩
            have HQ8 := Lib.hid hq8
            have HG8 := Lib.hid (HGI.out.trans hg8)
            clear hq8 hg8
            go_wp2_with fail
            go_roundw
            case rel => exact ⟨SN', its', hd + 1, v', true, yy, rfl, rfl, rfl, HBI.out, HQ8.out, HG8.out, by omega, fun _ => ⟨by omega, by rw [← HYY.out]; simp, fun i hi => HLF.out i (by omega)⟩, (fun h => by cases h)⟩
            case measure => rw [HQ8.out.head, HQH.out]; simp [okN]; omega
          · have heq : hd = its'.length := by omega
            have hQ' := hQ
            rw [heq] at hQ'
            have hpop := pop_none _ _ _ _ hQ'
            have HP := Lib.hid hpop
            have HQI := Lib.hid hQ
            have HEQ := Lib.hid heq
            clear hpop hB hG hQ hQ' hcl hits hlft heq
            go_wp2_with fail
            refine HP.out.mono ?_
            rintro e w8 ⟨rfl, n8, hw8⟩
            have HQ8 := Lib.hid (show QAt w8 (w.heap.size + 1) v' its' hd by rw [hw8]; exact HQI.out.drewN n8)
            have HG8 := Lib.hid (show Grew (w.heap.size + 1) 3 W2 w8 by rw [hw8]; exact HGI.out.drewN n8)
            clear hw8
            go_wp2_with fail
            go_roundw
            case rel => exact ⟨SN', its', hd, v', false, 0, rfl, rfl, rfl, HBI.out, HQ8.out, HG8.out, by omega, (fun h => by cases h), fun _ i hi => HLF.out i (by rw [HEQ.out]; exact hi)⟩
            case measure => rw [HQ8.out.head, HQH.out]; simp [okN]
end Go.Proofs.YtccknopchddicaaGreatDoor
/- contract: reach.Alive. -/
namespace Go.Proofs.YtccknopchddicaaGreatDoor
open Go.RowKit Stile
/-- the states from which a word is accepted -/
noncomputable def aliveL (L : Nat) (d : Da) : List Nat := (List.range d.next.length).filter fun s => decide (fromN L d.next s &&& packN d.final ≠ 0)
theorem packN_lt40 (l : List Bool) (h : l.length ≤ 40) : packN l < 1099511627776 := by
  have h1 := packN_lt l
  have : 2 ^ l.length ≤ 2 ^ 40 := Nat.pow_le_pow_right (by decide) h
  exact Nat.lt_of_lt_of_le h1 this
set_option maxRecDepth 100000 in
set_option maxHeartbeats 1600000 in
theorem alive_any (L : Nat) (dv : Value) (d : Da) (w : World) (h : DfV w w.heap.size dv d) (hok : DaOk d) (hL : d.letters = (L : Int)) :
    Calls Tryz.prog 90 #[dv] w fun e w' => ∃ lv, e = .returned (.tuple #[lv, .nilIface]) ∧ w'.ownsRow w.heap.size 3 1 lv (aliveL L d).length ((aliveL L d).map natV) ∧ Below w.heap.size w w' := by
  have H1 := fun W hb => dcheck_ok dv d W ((DfV.below h hb).mono hb.size) hok
  have H2 := fun s W hb hs => from_any L s dv d W ((DfV.below h hb).mono hb.size) hok hL hs
  obtain ⟨nv, fv, rfl, ⟨rv, ⟨nA, nc, rfl, hnc, _⟩, hr⟩, hf⟩ := h
  obtain ⟨fb, fo, fc, rfl, hfc, hfb, hfcell⟩ := Rd.at1 hf (by rw [hok.lenF]; exact hok.pos)
  have hlenF := hok.lenF
  have hn40 := hok.le
  have hpk := packN_take d.final
  have hpl := fun k => packN_lt40 (d.final.take k) (by simp; omega)
  have hpt : d.final.take d.final.length = d.final := List.take_length
  unfold aliveL
  rw [hlenF] at hfc hfcell hpk hpt
  generalize hFL : d.final = FL at *
  generalize hNX : d.next = NX at *
  rw [hL] at H1 H2 ⊢
  rw [hlenF] at H1 H2 ⊢
  generalize hnn : NX.length = n at *
  have HH1 := Lib.hid H1
  have HH2 := Lib.hid H2
  have HPK := Lib.hid hpk
  have HPL := Lib.hid hpl
  have HPT := Lib.hid hpt
  have HFC := Lib.hid hfcell
  clear H1 H2 hpk hpl hpt hfcell hr hf hok hL hlenF hFL hNX hnn
  generalize d.start = st at *
  obtain ⟨i0, hi0, hz0, hz1, hz2⟩ := info_parts info_i
  go_enter Tryz.func90, Tryz.ntmps90
  go_wp2_with fail
  refine (HH1.out _ ((Below.refl _ _).alloc (Nat.le_refl _) _)).mono ?_
  rintro e w1 ⟨rfl, hb1⟩
  have hbx := (hb1.block _ (by simp)).trans (heap_new w (Obj.cells #[.int .i64 (L : Int), .int .i64 st, .slice nA n nc, .slice (some ⟨fb, fo, none⟩) n fc] 59))
  have hb1' : Below w.heap.size w w1 := ((Below.refl w.heap.size w).alloc (Nat.le_refl _) _).trans (hb1.mono (by simp))
  have b3 := fld_cell hbx 3
  have bl := lt_blk hbx
  simp at b3
  have hsz1 := hb1'.size
  have HBX := Lib.hid hbx
  have HB1 := Lib.hid hb1'
  clear hb1 hb1' hbx
  go_wp2_with fail
  go_loop [5, 18] (fun F i => ∃ k : Nat, k ≤ n ∧ i = .int .i64 (k : Int) ∧ F = .int .u64 ((packN (FL.take k) : Nat) : Int)) (fun _ i => n - (intOf i).toNat)
  case atStart => exact ⟨0, by omega, rfl, rfl⟩
  case round =>
    obtain ⟨k, hk, rfl, rfl⟩ := hrel
    by_cases hlt : k < n
    · have hc := (HB1.out.cell (p := ⟨fb, fo + k, none⟩) hfb).trans (HFC.out k hlt)
      unfold bools at hc
      have hfl := Nat.lt_of_lt_of_le hfb hsz1
      have hpk := HPK.out k hlt
      have hpl := HPL.out k
      obtain ⟨P, hP⟩ : ∃ P, packN (FL.take k) = P := ⟨_, rfl⟩
      rw [hP] at hpk hpl ⊢
      have hor := or_pow P k (by omega) (by omega)
      have HOR := Lib.hid hor
      have HPK' := Lib.hid hpk
      clear hor hpk hP
      cases hb : FL.getD k false
      · rw [hb] at hc HPK'
        clear hb
        go_wp2_with fail
        go_round
        case rel => exact ⟨k + 1, by omega, by go_num, by rw [HPK'.out]; rfl⟩
        case measure => simp [intOf]; omega
      · rw [hb] at hc HPK'
        clear hb
        go_wp2_with fail
        go_round
        case rel => exact ⟨k + 1, by omega, by go_num, by rw [HOR.out, HPK'.out]; simp [Nat.one_shiftLeft]⟩
        case measure => simp [intOf]; omega
    · have hkn : k = n := by omega
      subst hkn
      rw [HPT.out]
      have hp64 : packN FL < 1099511627776 := by have := HPL.out k; rw [HPT.out] at this; exact this
      obtain ⟨P, hP⟩ : ∃ P, packN FL = P := ⟨_, rfl⟩
      rw [hP] at hp64 ⊢
      have b0 := fld_cell HBX.out 0
      have b1 := fld_cell HBX.out 1
      have b2 := fld_cell HBX.out 2
      simp at b0 b1 b2
      have HP := Lib.hid hP
      clear hP
      go_wp2_with fail
      go_loopw [8, 32] (fun v i wr => ∃ j : Nat, j ≤ k ∧ i = .int .i64 (j : Int) ∧ Below w1.heap.size w1 wr ∧ wr.ownsRow w1.heap.size 3 1 v ((List.range j).filter fun s => decide (fromN L NX s &&& P ≠ 0)).length (((List.range j).filter fun s => decide (fromN L NX s &&& P ≠ 0)).map natV)) (fun _ i _ => k - (intOf i).toNat)
      case atStart => exact ⟨0, by omega, rfl, Below.refl _ _, World.ownsRow_nil _ _ _ _⟩
      case round =>
        obtain ⟨j, hj, rfl, hbr, hown⟩ := hrel
        obtain ⟨wo, rfl⟩ : ∃ wo : World, wo = wr := ⟨_, rfl⟩
        have hwsz := hbr.size
        by_cases hltj : j < k
        · have hcall := HH2.out j wo (HB1.out.trans (hbr.mono hsz1)) hltj
          have hbx2 := (hbr.block _ bl).trans HBX.out
          have c0 := fld_cell hbx2 0
          have c1 := fld_cell hbx2 1
          have c2 := fld_cell hbx2 2
          have c3 := fld_cell hbx2 3
          have bl2 := lt_blk hbx2
          simp at c0 c1 c2 c3
          have hsuc : (List.range (j + 1)).filter (fun s => decide (fromN L NX s &&& P ≠ 0)) = (List.range j).filter (fun s => decide (fromN L NX s &&& P ≠ 0)) ++ (if decide (fromN L NX j &&& P ≠ 0) then [j] else []) := by
            rw [List.range_succ, List.filter_append]; simp [List.filter_cons]
          have hle : ((List.range j).filter fun s => decide (fromN L NX s &&& P ≠ 0)).length ≤ j := Nat.le_trans (List.length_filter_le _ _) (by simp)
          obtain ⟨S, hS⟩ : ∃ S, fromN L NX j = S := ⟨_, rfl⟩
          rw [hS] at hcall hsuc
          obtain ⟨Q, hQ⟩ : ∃ Q, (List.range j).filter (fun s => decide (fromN L NX s &&& P ≠ 0)) = Q := ⟨_, rfl⟩
          rw [hQ] at hown hsuc hle
          obtain ⟨QN, hQN⟩ : ∃ q, Q.length = q := ⟨_, rfl⟩
          rw [hQN] at hown hle
          obtain ⟨vA, vc, rfl⟩ := own_shape hown
          have HC := Lib.hid hcall
          have HS := Lib.hid hsuc
          have HOWN := Lib.hid hown
          have HBR := Lib.hid hbr
          have HQN := Lib.hid hQN
          clear hcall hsuc hown hbr hbx2 hS hQ hQN
          go_wp2_with fail
          refine HC.out.mono ?_
          rintro e w5 ⟨rfl, hb5, h64⟩
          have hsz5 := hb5.size
          have hown5 := own_below HOWN.out hb5
          have HB5 := Lib.hid hb5
          have HOWN5 := Lib.hid hown5
          obtain ⟨B, hB⟩ : ∃ B, decide (S &&& P ≠ 0) = B := ⟨_, rfl⟩
          have hbb : (bits .and .u64 (S : Int) (P : Int) != 0) = B := by
            rw [u64_and_nat S P (by omega) (by omega), ← hB, Bool.eq_iff_iff]; simp
          rw [hB] at HS
          clear hb5 hown5 hB
          cases B
          · go_wp2_with fail
            go_roundw
            case rel =>
              refine ⟨j + 1, by omega, by go_num, HBR.out.trans (HB5.out.mono hwsz), ?_⟩
              have e := HS.out
              simp only [Bool.false_eq_true, if_false, List.append_nil] at e
              rw [e, HQN.out]
              exact HOWN5.out
            case measure => simp [intOf]; omega
          · go_wp2_with (at_builtin; refine wpList_append_lies _ rfl _ _ 23 rfl w1.heap.size 3 i0 _ 1 8 Tryz.underlying23 hi0 hz0 hz1 hz2 rfl (by decide) (.slice vA QN vc) QN _ rfl (HOWN5.out.alloc _) ⟨w5.heap.size, 0, none⟩ 1 1 [.int .i64 (j : Int)] rfl rfl (cell_one_new _ _ _) (by simp [Value.oneCell']) (by decide) (by unfold maxLen; omega) (by omega) (by simp; omega) _ rfl ?_; intro g' cap' w8 hown8 hgrow8 hat8 hlt8)
            have hb8 : Below w1.heap.size w1 w8 := by
              have h1 := (HBR.out.trans (HB5.out.mono hwsz)).alloc (by omega) (Obj.cells #[.int .i64 (j : Int)] 3)
              exact h1.grown hgrow8 (by simp; omega) (fun b hb => (HOWN5.out.lt b hb).1)
            have HB8 := Lib.hid hb8
            have HOWN8 := Lib.hid hown8
            clear hb8 hown8 hgrow8 hat8
            go_roundw
            case rel =>
              refine ⟨j + 1, by omega, by go_num, HB8.out, ?_⟩
              have e := HS.out
              simp only [if_true] at e
              rw [e, List.length_append, HQN.out, List.map_append]
              exact HOWN8.out
            case measure => simp [intOf]; omega
        · have hjk : j = k := by omega
          subst hjk
          have hB := HB1.out.trans (hbr.mono hsz1)
          have HOWN := Lib.hid hown
          have HB := Lib.hid hB
          obtain ⟨vA, vc, rfl⟩ := own_shape hown
          clear hown hB hbr
          go_wp2_with fail
          go_ret2
          rw [HP.out]
          refine ⟨_, rfl, ?_, HB.out⟩
          obtain ⟨a1, a2⟩ := HOWN.out
          refine ⟨a1, ?_⟩
          rcases a2 with a2 | ⟨g, cap, cur, e, hbs, r⟩
          · exact .inl a2
          · exact .inr ⟨g, cap, cur, e, by omega, r⟩
end Go.Proofs.YtccknopchddicaaGreatDoor
/- contracts: core.Copy, dfa.Not. -/
namespace Go.Proofs.YtccknopchddicaaGreatDoor
open Go.RowKit Stile
theorem info_row : (Tryz.prog.info? 23).map (fun i => (i.zero, i.size, i.bytes)) = some (some (.slice none 0 0), 1, 24) := by kernel_rfl
theorem cell_set1 {W : World} {X b k j : Nat} {v u : Value} (h : W.cell? ⟨X, k, none⟩ = some v) (hb : X ≠ b) : (W.setCell ⟨b, j, none⟩ u).cell? ⟨X, k, none⟩ = some v :=
  (World.cell?_of_block (w := W) (Below.heap_setCell W _ _ _ hb)).trans h
/-- the first k rows are copied, each into a block of its own above ob -/
def CpAt (W : World) (ob n L : Nat) (next : List (List Int)) (k : Nat) : Prop :=
  ∃ rs : Nat → Value, W.rowIs ob 23 n rs ∧ ∀ j, j < k → ∃ g c, rs j = .slice (some ⟨g, 0, none⟩) L c ∧ ob < g ∧ g < W.heap.size ∧ L ≤ c ∧ ∀ t, t < L → W.cell? ⟨g, t, none⟩ = some (ints (next.getD j []) t)
theorem CpAt.lt {W : World} {ob n L : Nat} {next : List (List Int)} {k : Nat} (h : CpAt W ob n L next k) : ob < W.heap.size := by
  obtain ⟨rs, h1, _⟩ := h; exact h1.lt
theorem CpAt.step {W W8 : World} {ob n L : Nat} {next : List (List Int)} {k g' cap' : Nat} (h : CpAt W ob n L next k) (hb : Below W.heap.size W W8) (hg : W.heap.size ≤ g') (hg2 : g' < W8.heap.size) (hcap : L ≤ cap') (hk : k < n)
    (hrow : ∀ t, t < L → W8.cell? ⟨g', t, none⟩ = some (ints (next.getD k []) t)) :
    CpAt (W8.setCell ⟨ob, k, none⟩ (.slice (some ⟨g', 0, none⟩) L cap')) ob n L next (k + 1) := by
  obtain ⟨rs, h1, h2⟩ := h
  have hl := h1.lt
  have h1' : W8.rowIs ob 23 n rs := h1.of_block (hb.block _ hl)
  refine ⟨fun j => if j = k then .slice (some ⟨g', 0, none⟩) L cap' else rs j, (h1'.set k _).congr (fun j _ => by first | rfl | (by_cases e : j = k <;> simp [e]) ), fun j hj => ?_⟩
  by_cases e : j = k
  · subst e
    refine ⟨g', cap', by simp, by omega, by simpa using hg2, hcap, fun t ht => ?_⟩
    exact cell_set1 (hrow t ht) (by omega)
  · obtain ⟨g, c, e1, e2, e3, e4, e5⟩ := h2 j (by omega)
    refine ⟨g, c, by simp [e, e1], e2, by have := hb.size; simp; omega, e4, fun t ht => ?_⟩
    exact cell_set1 ((hb.cell (p := ⟨g, t, none⟩) e3).trans (e5 t ht)) (by omega)
theorem CpAt.rd {W : World} {ob n L : Nat} {next : List (List Int)} (h : CpAt W ob n L next n) (hn : next.length = n) (hrow : ∀ row ∈ next, row.length = L) : RdRows W W.heap.size (.slice (some ⟨ob, 0, none⟩) n n) next := by
  obtain ⟨rs, h1, h2⟩ := h
  refine ⟨rs, by rw [hn]; exact Rd.of_rowIs h1 h1.lt, fun j hj => ?_⟩
  obtain ⟨g, c, e1, e2, e3, e4, e5⟩ := h2 j (by omega)
  have hl : (next.getD j []).length = L := by rw [List.getD, List.getElem?_eq_getElem hj]; exact hrow _ (List.getElem_mem hj)
  unfold RdI
  rw [e1, hl]
  exact ⟨_, c, rfl, e4, fun _ => ⟨g, 0, rfl, e3, fun t ht => by rw [Nat.zero_add]; exact e5 t (by omega)⟩⟩
set_option maxRecDepth 100000 in
set_option maxHeartbeats 1600000 in
theorem dcopy_any (L : Nat) (v : Value) (next : List (List Int)) (w : World) (h : RdRows w w.heap.size v next) (hrow : ∀ row ∈ next, row.length = L) (hL1 : 1 ≤ L) (hL6 : L ≤ 6) (h0 : 0 < next.length) (hn40 : next.length ≤ 40) :
    Calls Tryz.prog 110 #[v] w fun e w' => e = .returned (.slice (some ⟨w.heap.size, 0, none⟩) next.length next.length) ∧ CpAt w' w.heap.size next.length L next next.length ∧ Below w.heap.size w w' := by
  obtain ⟨rv, hr1, hr2⟩ := h
  obtain ⟨b, off, c, rfl, hnc, hb, hcell⟩ := Rd.at1 hr1 h0
  have HR : ∀ k, k < next.length → ∃ rb ro rc, w.cell? ⟨b, off + k, none⟩ = some (.slice (some ⟨rb, ro, none⟩) L rc) ∧ L ≤ rc ∧ rb < w.heap.size ∧ (∀ t, t < L → w.cell? ⟨rb, ro + t, none⟩ = some (ints (next.getD k []) t)) ∧ (next.getD k []).length = L := fun k hk => by
    have hl : (next.getD k []).length = L := by rw [List.getD, List.getElem?_eq_getElem hk]; exact hrow _ (List.getElem_mem hk)
    have := hr2 k hk
    unfold RdI at this
    rw [hl] at this
    obtain ⟨rb, ro, rc, e1, e2, e3, e4⟩ := Rd.at1 this (by omega)
    have hc := hcell k hk
    rw [e1] at hc
    exact ⟨rb, ro, rc, hc, e2, e3, e4, hl⟩
  have hmk := fun w => run_make_row' (P := Tryz.prog) 56 23 (.slice none 0 0) 24 Tryz.underlying56 info_row rfl .i64 .i64 next.length (by omega) (by omega) w
  generalize hnn : next.length = n at *
  have HHR := Lib.hid HR
  obtain ⟨i0, hi0, hz0, hz1, hz2⟩ := info_parts info_int
  clear HR hr1 hr2 hcell hrow hnn
  go_enter Tryz.func110, Tryz.ntmps110
  go_wp2_with fail
  go_loopw [11] (fun i wr => ∃ k : Nat, k ≤ n ∧ i = .int .i64 (k : Int) ∧ Below w.heap.size w wr ∧ CpAt wr w.heap.size n L next k) (fun i _ => n - (intOf i).toNat)
  case atStart => exact ⟨0, by omega, rfl, (Below.refl _ _).alloc (Nat.le_refl _) _, _, World.rowIs_made _ _ _ _, fun j hj => by omega⟩
  case round =>
    obtain ⟨k, hk, rfl, hB, hcp⟩ := hrel
    clear hmk
    by_cases hlt : k < n
    · obtain ⟨rb, ro, rc, h1, h2, h3, h4, h5⟩ := HHR.out k hlt
      have h1' := (hB.cell (p := ⟨b, off + k, none⟩) hb).trans h1
      have hsz := hB.size
      have hnews : ∀ j u, ((List.range L).map (ints (next.getD k [])))[j]? = some u → wr.cell? ((⟨rb, ro, none⟩ : Addr).add j) = some u := fun j u hu => by
        have hj : j < L := by have := (List.getElem?_eq_some_iff.1 hu).1; simpa using this
        simp [hj] at hu
        have e : (⟨rb, ro, none⟩ : Addr).add j = ⟨rb, ro + j, none⟩ := by unfold Addr.add; split <;> simp_all
        rw [e, ← hu]
        exact (hB.cell (p := ⟨rb, ro + j, none⟩) h3).trans (h4 j hj)
      have hone : ∀ u ∈ (List.range L).map (ints (next.getD k [])), u.oneCell' = true := fun u hu => by
        obtain ⟨x, _, rfl⟩ := List.mem_map.1 hu
        simp [ints, Value.oneCell']
      have hob := hcp.lt
      have hob' : wr.cell? ⟨w.heap.size, k, none⟩ ≠ none := by
        obtain ⟨rs, hrs, _⟩ := hcp
        rw [hrs.cell hlt]; simp
      obtain ⟨ov, hov⟩ := Option.ne_none_iff_exists'.1 hob'
      have hof : wr.frozen? ⟨w.heap.size, k, none⟩ = false := by obtain ⟨rs, hrs, _⟩ := hcp; exact hrs.frozen _
      have hbl := lt_of_cell h1'
      dsimp only at hbl
      have HN := Lib.hid hnews
      have HO := Lib.hid hone
      have HB := Lib.hid hB
      have HC := Lib.hid hcp
      clear h1 h4 h5 hnews hone hB hcp hob'
      go_wp2_with (at_builtin; refine wpList_append_lies _ rfl _ _ 23 rfl wr.heap.size 3 i0 _ 1 8 Tryz.underlying23 hi0 hz0 hz1 hz2 rfl (by decide) (.slice none 0 0) 0 [] rfl (World.ownsRow_nil _ _ _ _) ⟨rb, ro, none⟩ L rc ((List.range L).map (ints (next.getD k []))) rfl (by simp) HN.out HO.out (by omega) (by unfold maxLen; omega) (by omega) (Nat.le_refl _) _ rfl ?_; intro g' cap' w8 hown8 hgrow8 hat8 hlt8; have hb8 : Below wr.heap.size wr w8 := (Below.refl _ _).grown hgrow8 (Nat.le_refl _) (fun b hb => by simp [Value.ownBlock] at hb); have ho8 := (hb8.cell (p := ⟨w.heap.size, k, none⟩) hob).trans hov; have hf8 : w8.frozen? ⟨w.heap.size, k, none⟩ = false := by (rw [← hof]; exact World.frozen?_of_block (hb8.block _ hob)))
      have hrow8 : ∀ t, t < L → w8.cell? ⟨g', t, none⟩ = some (ints (next.getD k []) t) := fun t ht => by
        have := (Rd.of_own (g := ints (next.getD k [])) hown8 (fun j hj => by simp at hj ⊢; simp [hj]))
        obtain ⟨A, c, e, _, r⟩ := this
        obtain ⟨bb, oo, e1, e2, e3⟩ := r (by omega)
        subst e1
        injection e with eA eN eC
        injection eA with eA
        injection eA with eB eO
        have := e3 t (by omega)
        rw [← eB, ← eO] at this
        simpa using this
      have hcap8 : L ≤ cap' := by
        obtain ⟨A, c, e, hc, _⟩ := (Rd.of_own (g := ints (next.getD k [])) hown8 (fun j hj => by simp at hj ⊢; simp [hj]))
        injection e with eA eN eC
        omega
      have hg8 : wr.heap.size ≤ g' := by
        rcases hat8 with h | h
        · simp [Value.ownBlock] at h
        · omega
      have hcp8 := HC.out.step hb8 hg8 hlt8 hcap8 hlt hrow8
      have hB8 : Below w.heap.size w (w8.setCell ⟨w.heap.size, k, none⟩ (.slice (some ⟨g', 0, none⟩) L cap')) := ((HB.out.trans (hb8.mono hsz)).setCell (by simp) _)
      have HC8 := Lib.hid hcp8
      have HB8 := Lib.hid hB8
      clear hrow8 hcp8 hB8 hb8 hown8 hgrow8 hat8
      go_roundw
      case rel => exact ⟨k + 1, by omega, by go_num, by simpa using HB8.out, by simpa using HC8.out⟩
      case measure => simp [intOf]; omega
    · have hkn : k = n := by omega
      subst hkn
      have HRES := Lib.hid hcp
      have HB := Lib.hid hB
      clear hB hcp
      go_wp2_with fail
      go_ret
      exact ⟨rfl, HRES.out, HB.out⟩
end Go.Proofs.YtccknopchddicaaGreatDoor
/- contract: dfa.Not. -/
namespace Go.Proofs.YtccknopchddicaaGreatDoor
open Go.RowKit Stile
/-- a copy of rows that lies in none of three blocks -/
def CpX (W : World) (x y z : Nat) (cb n L : Nat) (next : List (List Int)) : Prop :=
  (cb ≠ x ∧ cb ≠ y ∧ cb ≠ z) ∧ ∃ rs : Nat → Value, W.rowIs cb 23 n rs ∧ ∀ j, j < n → ∃ g c, rs j = .slice (some ⟨g, 0, none⟩) L c ∧ (g ≠ x ∧ g ≠ y ∧ g ≠ z) ∧ g < W.heap.size ∧ L ≤ c ∧ ∀ t, t < L → W.cell? ⟨g, t, none⟩ = some (ints (next.getD j []) t)
theorem CpAt.x {W W' : World} {cb n L : Nat} {next : List (List Int)} (h : CpAt W cb n L next n) (hb : Below W.heap.size W W') {x y z : Nat} (hx : x < cb ∨ W.heap.size ≤ x) (hy : y < cb ∨ W.heap.size ≤ y) (hz : z < cb ∨ W.heap.size ≤ z) : CpX W' x y z cb n L next := by
  have hl := h.lt
  obtain ⟨rs, h1, h2⟩ := h
  refine ⟨by omega, rs, h1.of_block (hb.block _ hl), fun j hj => ?_⟩
  obtain ⟨g, c, e1, e2, e3, e4, e5⟩ := h2 j hj
  exact ⟨g, c, e1, by omega, by have := hb.size; omega, e4, fun t ht => (hb.cell (p := ⟨g, t, none⟩) e3).trans (e5 t ht)⟩
theorem CpX.set {W : World} {x y z cb n L : Nat} {next : List (List Int)} (h : CpX W x y z cb n L next) {b : Nat} (hb : b = x ∨ b = y ∨ b = z) (k : Nat) (u : Value) : CpX (W.setCell ⟨b, k, none⟩ u) x y z cb n L next := by
  obtain ⟨h0, rs, h1, h2⟩ := h
  refine ⟨h0, rs, h1.of_block (Below.heap_setCell W _ _ _ (by dsimp only; omega)), fun j hj => ?_⟩
  obtain ⟨g, c, e1, e2, e3, e4, e5⟩ := h2 j hj
  exact ⟨g, c, e1, e2, by simpa using e3, e4, fun t ht => cell_set1 (e5 t ht) (by omega)⟩
theorem up_alloc1 (w1 : World) (o : Obj) : Below w1.heap.size w1 (w1.alloc o) := (Below.refl _ _).alloc (Nat.le_refl _) _
theorem CpX.up {W W' : World} {x y z cb n L : Nat} {next : List (List Int)} (h : CpX W x y z cb n L next) (hb : Below W.heap.size W W') : CpX W' x y z cb n L next := by
  obtain ⟨h0, rs, h1, h2⟩ := h
  refine ⟨h0, rs, h1.of_block (hb.block _ h1.lt), fun j hj => ?_⟩
  obtain ⟨g, c, e1, e2, e3, e4, e5⟩ := h2 j hj
  exact ⟨g, c, e1, e2, by have := hb.size; omega, e4, fun t ht => (hb.cell (p := ⟨g, t, none⟩) e3).trans (e5 t ht)⟩
theorem CpX.rd {W : World} {x y z cb n L : Nat} {next : List (List Int)} (h : CpX W x y z cb n L next) (hn : next.length = n) (hrow : ∀ row ∈ next, row.length = L) : RdRows W W.heap.size (.slice (some ⟨cb, 0, none⟩) n n) next := by
  obtain ⟨_, rs, h1, h2⟩ := h
  refine ⟨rs, by rw [hn]; exact Rd.of_rowIs h1 h1.lt, fun j hj => ?_⟩
  obtain ⟨g, c, e1, e2, e3, e4, e5⟩ := h2 j (by omega)
  have hl : (next.getD j []).length = L := by rw [List.getD, List.getElem?_eq_getElem hj]; exact hrow _ (List.getElem_mem hj)
  unfold RdI
  rw [e1, hl]
  exact ⟨_, c, rfl, e4, fun _ => ⟨g, 0, rfl, e3, fun t ht => by rw [Nat.zero_add]; exact e5 t (by omega)⟩⟩
/-- a new automaton's block -/
def NewD (W : World) (b : Nat) : Prop := W.cell? ⟨b, 0, none⟩ = some (.int .i64 0) ∧ W.cell? ⟨b, 1, none⟩ = some (.int .i64 0) ∧ W.cell? ⟨b, 2, none⟩ = some (.slice none 0 0) ∧ W.cell? ⟨b, 3, none⟩ = some (.slice none 0 0) ∧
  W.frozen? ⟨b, 0, none⟩ = false ∧ W.frozen? ⟨b, 1, none⟩ = false ∧ W.frozen? ⟨b, 2, none⟩ = false ∧ W.frozen? ⟨b, 3, none⟩ = false ∧ b < W.heap.size ∧ Hid (W.heap[b]? = some (Obj.cells #[.int .i64 0, .int .i64 0, .slice none 0 0, .slice none 0 0] 59))
theorem newD_at {W : World} {b : Nat} (h : W.heap[b]? = some (Obj.cells #[.int .i64 0, .int .i64 0, .slice none 0 0, .slice none 0 0] 59)) : NewD W b :=
  ⟨by have := fld_cell h 0; simpa using this, by have := fld_cell h 1; simpa using this, by have := fld_cell h 2; simpa using this, by have := fld_cell h 3; simpa using this, fld_frozen h 0, fld_frozen h 1, fld_frozen h 2, fld_frozen h 3, lt_blk h, Lib.hid h⟩
theorem newD1 {w1 w2 : World} {R : Obj} (h : Below ((w1.alloc (Obj.cells #[.int .i64 0, .int .i64 0, .slice none 0 0, .slice none 0 0] 59)).alloc R).drew.heap.size ((w1.alloc (Obj.cells #[.int .i64 0, .int .i64 0, .slice none 0 0, .slice none 0 0] 59)).alloc R).drew w2) : NewD w2 w1.heap.size :=
  newD_at ((h.block _ (by simp; omega)).trans (heap_old2 w1 _ R))
theorem newD2 {w1 w2 : World} {R : Obj} (h : Below ((w1.alloc R).alloc (Obj.cells #[.int .i64 0, .int .i64 0, .slice none 0 0, .slice none 0 0] 59)).drew.heap.size ((w1.alloc R).alloc (Obj.cells #[.int .i64 0, .int .i64 0, .slice none 0 0, .slice none 0 0] 59)).drew w2) : NewD w2 (w1.heap.size + 1) :=
  newD_at ((h.block _ (by simp)).trans (heap_new2 w1 R _))
theorem newD3 {w1 w2 : World} (h : Below (w1.alloc (Obj.cells #[.int .i64 0, .int .i64 0, .slice none 0 0, .slice none 0 0] 59)).drew.heap.size (w1.alloc (Obj.cells #[.int .i64 0, .int .i64 0, .slice none 0 0, .slice none 0 0] 59)).drew w2) : NewD w2 w1.heap.size :=
  newD_at ((h.block _ (by simp)).trans (heap_new w1 _))
def daNot (d : Da) : Da := { d with final := d.final.map (!·) }
theorem DaOk.not {d : Da} (h : DaOk d) : DaOk (daNot d) := ⟨h.let1, h.let6, by simpa [daNot] using h.lenF, h.pos, h.le, h.st0, h.st1, h.rowlen, h.rowin⟩
def notV (FL : List Bool) (k : Nat) (j : Nat) : Value := .bool (if j < k then !(FL.getD j false) else false)
set_option maxRecDepth 100000 in
set_option maxHeartbeats 1600000 in
theorem not_any (L : Nat) (dv : Value) (d : Da) (w : World) (h : DfV w w.heap.size dv d) (hok : DaOk d) (hL : d.letters = (L : Int)) :
    Calls Tryz.prog 89 #[dv] w fun e w' => ∃ v', e = .returned (.tuple #[v', .nilIface]) ∧ DfV w' w'.heap.size v' (daNot d) ∧ Below w.heap.size w w' := by
  have H1 := fun W hb => dcheck_ok dv d W ((DfV.below h hb).mono hb.size) hok
  have hrl : ∀ row ∈ d.next, row.length = L := fun row hr => by have := hok.rowlen row hr; omega
  obtain ⟨nv, fv, rfl, hrows, hf⟩ := h
  have H2 := fun W hb => dcopy_any L nv d.next W ((RdRows.below hrows hb).mono hb.size) hrl (by have := hok.let1; omega) (by have := hok.let6; omega) hok.pos hok.le
  obtain ⟨rv, ⟨nA, nc, rfl, hnc, _⟩, _⟩ := hrows
  obtain ⟨fb, fo, fc, rfl, hfc, hfb, hfcell⟩ := Rd.at1 hf (by rw [hok.lenF]; exact hok.pos)
  have hlenF := hok.lenF
  have hn40 := hok.le
  have hnpos := hok.pos
  have hmk := fun w => run_make_row' (P := Tryz.prog) 57 4 (.bool false) 1 Tryz.underlying57 info_bool rfl .i64 .i64 d.next.length (by omega) (by omega) w
  have hend : ∀ W x y z cb nb, CpX W x y z cb d.next.length L d.next → W.rowIs nb 4 d.next.length (notV d.final d.next.length) → DfV W W.heap.size (.agg #[.int .i64 (L : Int), .int .i64 d.start, .slice (some ⟨cb, 0, none⟩) d.next.length d.next.length, .slice (some ⟨nb, 0, none⟩) d.next.length d.next.length]) (daNot d) := fun W x y z cb nb h1 h2 => by
    refine ⟨_, _, by rw [← hL]; rfl, h1.rd rfl hrl, ?_⟩
    have hl : (daNot d).final.length = d.next.length := by simp [daNot, hlenF]
    unfold RdB
    rw [hl]
    refine Rd.of_rowIs (h2.congr fun j hj => ?_) h2.lt
    simp [notV, bools, daNot, hj, List.getD, show j < d.final.length by omega]
  rw [hlenF] at hfc hfcell
  rw [hL] at H1 ⊢
  rw [hlenF] at H1 ⊢
  generalize hDN : daNot d = DN at *
  generalize hFL : d.final = FL at *
  generalize hNX : d.next = NX at *
  generalize d.start = st at *
  generalize hnn : NX.length = n at *
  have HH1 := Lib.hid H1
  have HH2 := Lib.hid H2
  have HEND := Lib.hid hend
  have HFC := Lib.hid hfcell
  clear H1 H2 hend hfcell hf hok hL hlenF hFL hNX hnn hDN hrl
  go_enter Tryz.func89, Tryz.ntmps89
  go_wp2_with fail
  refine (HH1.out _ (((Below.refl _ _).alloc (Nat.le_refl _) _).alloc (by simp) _)).mono ?_
  rintro e w1 ⟨rfl, hb1⟩
  have hbx := (hb1.block w.heap.size (by simp; omega)).trans (heap_old2 w (Obj.cells #[.int .i64 (L : Int), .int .i64 st, .slice nA n nc, .slice (some ⟨fb, fo, none⟩) n fc] 59) (Obj.cells #[.int .i64 0, .int .i64 0, .slice none 0 0, .slice none 0 0] 59))
  have hrx := (hb1.block (w.heap.size + 1) (by simp)).trans (heap_new2 w (Obj.cells #[.int .i64 (L : Int), .int .i64 st, .slice nA n nc, .slice (some ⟨fb, fo, none⟩) n fc] 59) (Obj.cells #[.int .i64 0, .int .i64 0, .slice none 0 0, .slice none 0 0] 59))
  have hb1' : Below w.heap.size w w1 := (((Below.refl w.heap.size w).alloc (Nat.le_refl _) _).alloc (by simp) _).trans (hb1.mono (by simp; omega))
  have b0 := fld_cell hbx 0
  have b1 := fld_cell hbx 1
  have b2 := fld_cell hbx 2
  have b3 := fld_cell hbx 3
  have bl := lt_blk hbx
  have rl := lt_blk hrx
  simp at b0 b1 b2 b3
  have hS0 : (w1.cell? ⟨w.heap.size, 0, none⟩ = some (.int .i64 (L : Int)) ∧ w1.cell? ⟨w.heap.size, 1, none⟩ = some (.int .i64 st) ∧ w1.cell? ⟨w.heap.size, 2, none⟩ = some (.slice nA n nc) ∧ w1.cell? ⟨w.heap.size, 3, none⟩ = some (.slice (some ⟨fb, fo, none⟩) n fc)) := ⟨b0, b1, b2, b3⟩
  have keepD : ∀ W : World, (W.cell? ⟨w.heap.size, 0, none⟩ = some (.int .i64 (L : Int)) ∧ W.cell? ⟨w.heap.size, 1, none⟩ = some (.int .i64 st) ∧ W.cell? ⟨w.heap.size, 2, none⟩ = some (.slice nA n nc) ∧ W.cell? ⟨w.heap.size, 3, none⟩ = some (.slice (some ⟨fb, fo, none⟩) n fc)) → (W.drew.cell? ⟨w.heap.size, 0, none⟩ = some (.int .i64 (L : Int)) ∧ W.drew.cell? ⟨w.heap.size, 1, none⟩ = some (.int .i64 st) ∧ W.drew.cell? ⟨w.heap.size, 2, none⟩ = some (.slice nA n nc) ∧ W.drew.cell? ⟨w.heap.size, 3, none⟩ = some (.slice (some ⟨fb, fo, none⟩) n fc)) := fun W h => h
  have keepA : ∀ (W : World) (o : Obj), (W.cell? ⟨w.heap.size, 0, none⟩ = some (.int .i64 (L : Int)) ∧ W.cell? ⟨w.heap.size, 1, none⟩ = some (.int .i64 st) ∧ W.cell? ⟨w.heap.size, 2, none⟩ = some (.slice nA n nc) ∧ W.cell? ⟨w.heap.size, 3, none⟩ = some (.slice (some ⟨fb, fo, none⟩) n fc)) →
      ((W.alloc o).cell? ⟨w.heap.size, 0, none⟩ = some (.int .i64 (L : Int)) ∧ (W.alloc o).cell? ⟨w.heap.size, 1, none⟩ = some (.int .i64 st) ∧ (W.alloc o).cell? ⟨w.heap.size, 2, none⟩ = some (.slice nA n nc) ∧ (W.alloc o).cell? ⟨w.heap.size, 3, none⟩ = some (.slice (some ⟨fb, fo, none⟩) n fc)) := fun W o h =>
    have hb : Below W.heap.size W (W.alloc o) := (Below.refl _ _).alloc (Nat.le_refl _) _
    ⟨(hb.cell (lt_of_cell h.1)).trans h.1, (hb.cell (lt_of_cell h.2.1)).trans h.2.1, (hb.cell (lt_of_cell h.2.2.1)).trans h.2.2.1, (hb.cell (lt_of_cell h.2.2.2)).trans h.2.2.2⟩
  have keepB : ∀ (W W' : World), Below W.heap.size W W' → (W.cell? ⟨w.heap.size, 0, none⟩ = some (.int .i64 (L : Int)) ∧ W.cell? ⟨w.heap.size, 1, none⟩ = some (.int .i64 st) ∧ W.cell? ⟨w.heap.size, 2, none⟩ = some (.slice nA n nc) ∧ W.cell? ⟨w.heap.size, 3, none⟩ = some (.slice (some ⟨fb, fo, none⟩) n fc)) →
      (W'.cell? ⟨w.heap.size, 0, none⟩ = some (.int .i64 (L : Int)) ∧ W'.cell? ⟨w.heap.size, 1, none⟩ = some (.int .i64 st) ∧ W'.cell? ⟨w.heap.size, 2, none⟩ = some (.slice nA n nc) ∧ W'.cell? ⟨w.heap.size, 3, none⟩ = some (.slice (some ⟨fb, fo, none⟩) n fc)) := fun W W' hb h =>
    ⟨(hb.cell (lt_of_cell h.1)).trans h.1, (hb.cell (lt_of_cell h.2.1)).trans h.2.1, (hb.cell (lt_of_cell h.2.2.1)).trans h.2.2.1, (hb.cell (lt_of_cell h.2.2.2)).trans h.2.2.2⟩
  have keepS : ∀ (W : World) (b k : Nat) (u : Value), b ≠ w.heap.size → (W.cell? ⟨w.heap.size, 0, none⟩ = some (.int .i64 (L : Int)) ∧ W.cell? ⟨w.heap.size, 1, none⟩ = some (.int .i64 st) ∧ W.cell? ⟨w.heap.size, 2, none⟩ = some (.slice nA n nc) ∧ W.cell? ⟨w.heap.size, 3, none⟩ = some (.slice (some ⟨fb, fo, none⟩) n fc)) → ((W.setCell ⟨b, k, none⟩ u).cell? ⟨w.heap.size, 0, none⟩ = some (.int .i64 (L : Int)) ∧ (W.setCell ⟨b, k, none⟩ u).cell? ⟨w.heap.size, 1, none⟩ = some (.int .i64 st) ∧ (W.setCell ⟨b, k, none⟩ u).cell? ⟨w.heap.size, 2, none⟩ = some (.slice nA n nc) ∧ (W.setCell ⟨b, k, none⟩ u).cell? ⟨w.heap.size, 3, none⟩ = some (.slice (some ⟨fb, fo, none⟩) n fc)) := fun W b k u hb h =>
    ⟨cell_set1 h.1 hb.symm, cell_set1 h.2.1 hb.symm, cell_set1 h.2.2.1 hb.symm, cell_set1 h.2.2.2 hb.symm⟩
  have HBX := Lib.hid hbx
  have HRX := Lib.hid hrx
  have HB1 := Lib.hid hb1'
  clear hb1 hb1' hbx hrx b0 b1 b2 b3
  go_upto_region 4 with fail
  go_cut [5] from 14 to 26 (fun p wx => ∃ ob cb nb, p = .pointer (some ⟨ob, 0, none⟩) ∧ wx.heap[ob]? = some (Obj.cells #[.int .i64 (L : Int), .int .i64 st, .slice (some ⟨cb, 0, none⟩) n n, .slice (some ⟨nb, 0, none⟩) n n] 59) ∧ wx.rowIs nb 4 n (notV FL 0) ∧ CpX wx (w.heap.size + 1) nb ob cb n L NX ∧ ob ≠ nb ∧ w1.heap.size ≤ nb ∧ Below w1.heap.size w1 wx)
  case first =>
    go_region_held3 (fun w' => (w'.cell? ⟨w.heap.size, 0, none⟩ = some (.int .i64 (L : Int)) ∧ w'.cell? ⟨w.heap.size, 1, none⟩ = some (.int .i64 st) ∧ w'.cell? ⟨w.heap.size, 2, none⟩ = some (.slice nA n nc) ∧ w'.cell? ⟨w.heap.size, 3, none⟩ = some (.slice (some ⟨fb, fo, none⟩) n fc)))
      (first | with_reducible assumption | ((repeat with_reducible refine keepA _ _ ?_); (repeat with_reducible refine keepS _ _ _ _ (by omega) ?_); (try with_reducible refine keepD _ ?_); (repeat with_reducible refine keepA _ _ ?_); with_reducible assumption))
      (first
        | (go_at_call 110; refine (HH2.out _ (by first | exact HB1.out.drew | exact (HB1.out.alloc HB1.out.size _).drew | exact ((HB1.out.alloc HB1.out.size _).alloc (by simp; omega) _).drew)).mono ?_; rintro en w2 ⟨rfl, hcp2, hb2⟩; have hS2 := keepB _ _ hb2 (by with_reducible assumption); (first | (have ho2 : NewD w2 w1.heap.size := (by with_reducible exact newD1 hb2); obtain ⟨q0, q1, q2, q3, g0, g1, g2, g3, gl, HOB⟩ := ho2) | (have ho2 : NewD w2 (w1.heap.size + 1) := (by with_reducible exact newD2 hb2); obtain ⟨q0, q1, q2, q3, g0, g1, g2, g3, gl, HOB⟩ := ho2) | (have ho2 : NewD w2 w1.heap.size := (by with_reducible exact newD3 hb2); obtain ⟨q0, q1, q2, q3, g0, g1, g2, g3, gl, HOB⟩ := ho2) | skip)))
    all_goals (go_wp2_with fail; go_meet)
    all_goals (have hsz2 := hb2.size; have hw1 : w.heap.size + 1 < w1.heap.size := rl; simp at hsz2 hcp2)
    · refine ⟨_, w1.heap.size, w2.heap.size, rfl, heap_new2 _ _ _, ((World.rowIs_made _ _ _ _).alloc _).congr (fun j _ => by simp [notV]), hcp2.x (((Below.refl _ _).alloc (Nat.le_refl _) _).alloc (by simp) _) (by omega) (.inr (by omega)) (.inr (by omega)), by omega, by omega, ?_⟩
      exact (((Below.refl w1.heap.size w1).drew.trans (hb2.mono (Nat.le_refl _))).alloc (by omega) _).alloc (by simp; omega) _
    · refine ⟨_, w1.heap.size, w2.heap.size + 1, rfl, heap_old2 _ _ _, by have := (World.rowIs_made (w2.alloc (Obj.cells #[.int .i64 (L : Int), .int .i64 st, .slice (some ⟨w1.heap.size, 0, none⟩) n n, .slice (some ⟨w2.heap.size + 1, 0, none⟩) n n] 59)) (.bool false) n 4).congr (g := notV FL 0) (fun j _ => by simp [notV]); simpa using this, hcp2.x (((Below.refl _ _).alloc (Nat.le_refl _) _).alloc (by simp) _) (by omega) (.inr (by omega)) (.inr (by omega)), by omega, by omega, ?_⟩
      exact (((Below.refl w1.heap.size w1).drew.trans (hb2.mono (Nat.le_refl _))).alloc (by omega) _).alloc (by simp; omega) _
    · have hr := ((World.rowIs_made w1 (.bool false) n 4).congr (g := notV FL 0) (fun j _ => by simp [notV]))
      refine ⟨_, w1.heap.size + 1, w1.heap.size, rfl, heap_new _ _, (hr.of_block (hb2.block _ hr.lt)).alloc _, hcp2.x ((Below.refl _ _).alloc (Nat.le_refl _) _) (by omega) (.inl (by omega)) (.inr (by omega)), by omega, by omega, ?_⟩
      exact (((Below.refl w1.heap.size w1).alloc (Nat.le_refl _) _).drew.trans (hb2.mono (by simp))).alloc (by omega) _
    · have hr := ((World.rowIs_made w1 (.bool false) n 4).congr (g := notV FL 0) (fun j _ => by simp [notV]))
      have hr2 := (hr.alloc (Obj.cells #[.int .i64 0, .int .i64 0, .slice none 0 0, .slice none 0 0] 59)).of_block (hb2.block w1.heap.size (by simp; omega))
      have hs := fun v0 v1 v2 v3 => fld_set (fld_set (fld_set (fld_set HOB.out 0 v0) 1 v1) 2 v2) 3 v3
      refine ⟨_, w1.heap.size + 1 + 1, w1.heap.size, rfl, by simpa using hs _ _ _ _, ?_, ?_, by omega, by omega, ?_⟩
      · exact ((((hr2.setOther (by simp) _).setOther (by simp) _).setOther (by simp) _).setOther (by simp) _)
      · exact ((((hcp2.x (z := w1.heap.size + 1) (Below.refl _ _) (by omega) (.inl (by omega)) (.inl (by omega))).set (.inr (.inr rfl)) _ _).set (.inr (.inr rfl)) _ _).set (.inr (.inr rfl)) _ _).set (.inr (.inr rfl)) _ _
      · exact ((((((((Below.refl w1.heap.size w1).alloc (Nat.le_refl _) _).alloc (by simp) _).drew).trans (hb2.mono (by simp; omega))).setCell (by simp) _).setCell (by simp) _).setCell (by simp) _).setCell (by simp) _
    · have hs := fun v0 v1 v2 v3 => fld_set (fld_set (fld_set (fld_set HOB.out 0 v0) 1 v1) 2 v2) 3 v3
      have hx := ((((hcp2.x (x := w.heap.size + 1) (y := w2.heap.size) (z := w1.heap.size) (Below.refl _ _) (by omega) (.inr (by omega)) (.inl (by omega))).set (.inr (.inr rfl)) 0 (.int .i64 (L : Int))).set (.inr (.inr rfl)) 1 (.int .i64 st)).set (.inr (.inr rfl)) 2 (.slice (some ⟨w1.heap.size + 1, 0, none⟩) n n)).set (.inr (.inr rfl)) 3 (.slice (some ⟨w2.heap.size, 0, none⟩) n n)
      obtain ⟨W4, hW4⟩ : ∃ W4, (((w2.setCell ⟨w1.heap.size, 0, none⟩ (.int .i64 (L : Int))).setCell ⟨w1.heap.size, 1, none⟩ (.int .i64 st)).setCell ⟨w1.heap.size, 2, none⟩ (.slice (some ⟨w1.heap.size + 1, 0, none⟩) n n)).setCell ⟨w1.heap.size, 3, none⟩ (.slice (some ⟨w2.heap.size, 0, none⟩) n n) = W4 := ⟨_, rfl⟩
      have hs4 := hs (.int .i64 (L : Int)) (.int .i64 st) (.slice (some ⟨w1.heap.size + 1, 0, none⟩) n n) (.slice (some ⟨w2.heap.size, 0, none⟩) n n)
      have hz4 : w2.heap.size = W4.heap.size := by rw [← hW4]; simp
      have hb4 : Below w1.heap.size w1 W4 := by
        rw [← hW4]
        exact (((((((Below.refl w1.heap.size w1).alloc (Nat.le_refl _) _).drew).trans (hb2.mono (by simp))).setCell (by simp) _).setCell (by simp) _).setCell (by simp) _).setCell (by simp) _
      rw [hW4] at hx hs4 ⊢
      rw [hz4] at hx hs4
      refine ⟨_, w1.heap.size + 1, W4.heap.size, rfl, ((up_alloc1 W4 _).block _ (by omega)).trans (by simpa using hs4), (World.rowIs_made W4 (.bool false) n 4).congr (g := notV FL 0) (fun j _ => by simp [notV]), hx.up (up_alloc1 W4 _), by omega, by omega, hb4.alloc (by omega) _⟩
    · have hr := ((World.rowIs_made (w1.alloc (Obj.cells #[.int .i64 0, .int .i64 0, .slice none 0 0, .slice none 0 0] 59)) (.bool false) n 4).congr (g := notV FL 0) (fun j _ => by simp [notV]))
      have e1 : (w1.alloc (Obj.cells #[.int .i64 0, .int .i64 0, .slice none 0 0, .slice none 0 0] 59)).heap.size = w1.heap.size + 1 := by simp
      rw [e1] at hr
      have hr2 := hr.of_block (hb2.block (w1.heap.size + 1) (by simp))
      have hs := fun v0 v1 v2 v3 => fld_set (fld_set (fld_set (fld_set HOB.out 0 v0) 1 v1) 2 v2) 3 v3
      refine ⟨_, w1.heap.size + 1 + 1, w1.heap.size + 1, rfl, by simpa using hs _ _ _ _, ?_, ?_, by omega, by omega, ?_⟩
      · exact ((((hr2.setOther (by simp) _).setOther (by simp) _).setOther (by simp) _).setOther (by simp) _)
      · exact ((((hcp2.x (z := w1.heap.size) (Below.refl _ _) (by omega) (.inl (by omega)) (.inl (by omega))).set (.inr (.inr rfl)) _ _).set (.inr (.inr rfl)) _ _).set (.inr (.inr rfl)) _ _).set (.inr (.inr rfl)) _ _
      · exact ((((((((Below.refl w1.heap.size w1).alloc (Nat.le_refl _) _).alloc (by simp) _).drew).trans (hb2.mono (by simp; omega))).setCell (by simp) _).setCell (by simp) _).setCell (by simp) _).setCell (by simp) _
  case rest =>
    obtain ⟨ob, cb, nb, rfl, hob, hnb, hx, hne, hnl, hbw⟩ := hcut
    clear keepA keepB keepS keepD hS0 hmk
    obtain ⟨wo, rfl⟩ : ∃ wo : World, wo = wc := ⟨_, rfl⟩
    have hbx := (hbw.block _ bl).trans HBX.out
    have hrx := (hbw.block _ rl).trans HRX.out
    have b3 := fld_cell hbx 3
    have bl' := lt_blk hbx
    have rl' := lt_blk hrx
    simp at b3
    have hob' := hob
    have hb := HB1.out.trans (hbw.mono HB1.out.size)
    have hobl := lt_blk hob
    have hrl' : w.heap.size + 1 < w1.heap.size := rl
    have HX := Lib.hid hx
    have HOB := Lib.hid hob
    have HNB := Lib.hid hnb
    have HRX' := Lib.hid hrx
    have HB := Lib.hid hb
    clear hx hob hob' hnb hb hbw hbx hrx
    go_wp2_with fail
    go_loopw [29] (fun i wr => ∃ k : Nat, k ≤ n ∧ i = .int .i64 (k : Int) ∧ Below w.heap.size w wr ∧ wr.heap[ob]? = some (Obj.cells #[.int .i64 (L : Int), .int .i64 st, .slice (some ⟨cb, 0, none⟩) n n, .slice (some ⟨nb, 0, none⟩) n n] 59) ∧ wr.rowIs nb 4 n (notV FL k) ∧ CpX wr (w.heap.size + 1) nb ob cb n L NX ∧ wr.heap[w.heap.size + 1]? = some (Obj.cells #[.int .i64 0, .int .i64 0, .slice none 0 0, .slice none 0 0] 59)) (fun i _ => n - (intOf i).toNat)
    case atStart => exact ⟨0, by omega, rfl, HB.out, HOB.out, HNB.out, HX.out, HRX'.out⟩
    case round =>
      obtain ⟨k, hk, rfl, hB, hO, hN, hX, hR⟩ := hrel
      have o3 := fld_cell hO 3
      have ol := lt_blk hO
      simp at o3
      by_cases hlt : k < n
      · have hc := (hB.cell (p := ⟨fb, fo + k, none⟩) hfb).trans (HFC.out k hlt)
        unfold bools at hc
        have hsz := hB.size
        have hfl : fb < wr.heap.size := by omega
        have hnc := hN.cell hlt
        have hnf := hN.frozen k
        have hnlt := hN.lt
        have hset := (hN.set k (.bool (!(FL.getD k false)))).congr (g := notV FL (k + 1)) (fun j hj => by
          unfold notV
          by_cases e : j = k
          · subst e; simp
          · rw [if_neg e]; congr 1
            by_cases e2 : j < k
            · rw [if_pos e2, if_pos (by omega)]
            · rw [if_neg e2, if_neg (by omega)])
        have hX2 := hX.set (.inr (.inl rfl)) k (.bool (!(FL.getD k false)))
        have hO2 : (wr.setCell ⟨nb, k, none⟩ (.bool (!(FL.getD k false)))).heap[ob]? = _ := (Below.heap_setCell wr _ _ _ (by dsimp only; omega)).trans hO
        have hR2 : (wr.setCell ⟨nb, k, none⟩ (.bool (!(FL.getD k false)))).heap[w.heap.size + 1]? = _ := (Below.heap_setCell wr _ _ _ (by dsimp only; omega)).trans hR
        have hB2 : Below w.heap.size w (wr.setCell ⟨nb, k, none⟩ (.bool (!(FL.getD k false)))) := hB.setCell (by dsimp only; omega) _
        have HS := Lib.hid hset
        have HX2 := Lib.hid hX2
        have HO2 := Lib.hid hO2
        have HR2 := Lib.hid hR2
        have HB2 := Lib.hid hB2
        clear hset hX2 hO2 hR2 hB2 hN hO hX hR hB
        cases hfv : FL.getD k false <;> rw [hfv] at hc HS HX2 HO2 HR2 HB2 <;> clear hfv
        all_goals
          go_wp2_with fail
          go_roundw
          case rel => exact ⟨k + 1, by omega, by go_num, HB2.out, HO2.out, HS.out, HX2.out, HR2.out⟩
          case measure => simp [intOf]; omega
      · have hkn : k = n := by omega
        subst hkn
        have o0 := fld_cell hO 0
        have o1 := fld_cell hO 1
        have o2 := fld_cell hO 2
        have r0 := fld_cell hR 0
        have r1 := fld_cell hR 1
        have r2 := fld_cell hR 2
        have r3 := fld_cell hR 3
        have f0 := fld_frozen hR 0
        have f1 := fld_frozen hR 1
        have f2 := fld_frozen hR 2
        have f3 := fld_frozen hR 3
        have rlt := lt_blk hR
        simp at o0 o1 o2 r0 r1 r2 r3
        have hwz : w.heap.size < wr.heap.size := by omega
        have HR := Lib.hid hR
        have HX := Lib.hid hX
        have HN := Lib.hid hN
        have HB := Lib.hid hB
        clear hR hX hN hO hB
        go_wp2_with fail
        have hx4 := (((HX.out.set (.inl rfl) 0 (.int .i64 (L : Int))).set (.inl rfl) 1 (.int .i64 st)).set (.inl rfl) 2 (.slice (some ⟨cb, 0, none⟩) k k)).set (.inl rfl) 3 (.slice (some ⟨nb, 0, none⟩) k k)
        have hn4 := (((HN.out.setOther (a := ⟨w.heap.size + 1, 0, none⟩) (by dsimp only; omega) (.int .i64 (L : Int))).setOther (a := ⟨w.heap.size + 1, 1, none⟩) (by dsimp only; omega) (.int .i64 st)).setOther (a := ⟨w.heap.size + 1, 2, none⟩) (by dsimp only; omega) (.slice (some ⟨cb, 0, none⟩) k k)).setOther (a := ⟨w.heap.size + 1, 3, none⟩) (by dsimp only; omega) (.slice (some ⟨nb, 0, none⟩) k k)
        have hr4 := fld_set (fld_set (fld_set (fld_set HR.out 0 (.int .i64 (L : Int))) 1 (.int .i64 st)) 2 (.slice (some ⟨cb, 0, none⟩) k k)) 3 (.slice (some ⟨nb, 0, none⟩) k k)
        have hb4 : Below w.heap.size w ((((wr.setCell ⟨w.heap.size + 1, 0, none⟩ (.int .i64 (L : Int))).setCell ⟨w.heap.size + 1, 1, none⟩ (.int .i64 st)).setCell ⟨w.heap.size + 1, 2, none⟩ (.slice (some ⟨cb, 0, none⟩) k k)).setCell ⟨w.heap.size + 1, 3, none⟩ (.slice (some ⟨nb, 0, none⟩) k k)) := (((HB.out.setCell (by dsimp only; omega) _).setCell (by dsimp only; omega) _).setCell (by dsimp only; omega) _).setCell (by dsimp only; omega) _
        have hend := HEND.out _ _ _ _ _ _ hx4 hn4
        generalize (((wr.setCell ⟨w.heap.size + 1, 0, none⟩ (.int .i64 (L : Int))).setCell ⟨w.heap.size + 1, 1, none⟩ (.int .i64 st)).setCell ⟨w.heap.size + 1, 2, none⟩ (.slice (some ⟨cb, 0, none⟩) k k)).setCell ⟨w.heap.size + 1, 3, none⟩ (.slice (some ⟨nb, 0, none⟩) k k) = W4 at *
        have e0 := fld_cell hr4 0
        have e1 := fld_cell hr4 1
        have e2 := fld_cell hr4 2
        have e3 := fld_cell hr4 3
        simp at e0 e1 e2 e3
        exact bodyPost_ret (v := .tuple #[.agg #[.int .i64 (L : Int), .int .i64 st, .slice (some ⟨cb, 0, none⟩) k k, .slice (some ⟨nb, 0, none⟩) k k], .nilIface]) (by simp [results, Tryz.results89, go_sem, e0, e1, e2, e3]) rfl ⟨_, rfl, hend, hb4⟩
end Go.Proofs.YtccknopchddicaaGreatDoor
/- contract: verdict.verdicts. -/
namespace Go.Proofs.YtccknopchddicaaGreatDoor
open Go.RowKit Stile
theorem info_two : (Tryz.prog.info? 138).map (fun i => (i.zero, i.size, i.bytes)) = some (some (.agg #[.bool false, .bool false]), 2, 2) := by kernel_rfl
theorem run_make_two (n : Nat) (h : n ≤ 1000) (w : World) : (Instr.makeSlice 136 (.int .i64 (n : Int)) (.int .i64 (n : Int))).run Tryz.prog w = .ok (.slice (some ⟨w.heap.size, 0, none⟩) n n) (w.alloc (.cells (madeCells #[.bool false, .bool false] (n * 2)) 138)) := by
  obtain ⟨i, hi, hzz⟩ := Option.map_eq_some_iff.1 info_two
  simp only [Prod.mk.injEq] at hzz
  obtain ⟨hz, hs, hb⟩ := hzz
  have hr := run_make (P := Tryz.prog) w 136 138 i _ Tryz.underlying136 hi hz .i64 .i64 n n (by omega) (Int.le_refl _) (by rw [hb]; omega) (by omega)
  simp only [Int.toNat_natCast, hs] at hr
  exact hr
def mayV (A B : List Nat) (c : Nat) : Value := .bool (decide ((c / 2) ∈ (if c % 2 = 0 then A else B)))
theorem may_made (w : World) (n : Nat) : (w.alloc (.cells (madeCells #[.bool false, .bool false] (n * 2)) 138)).rowIs w.heap.size 138 (n * 2) (mayV [] []) :=
  ⟨_, heap_new w _, size_madeCells _ _, fun i hi => by
    have : i % 2 = 0 ∨ i % 2 = 1 := by omega
    rcases this with e | e <;> simp [madeCells, hi, e, mayV]⟩
theorem may_set0 {w : World} {b n : Nat} {A B : List Nat} {s : Nat} (h : w.rowIs b 138 n (mayV A B)) : (w.setCell ⟨b, s * 2, none⟩ (.bool true)).rowIs b 138 n (mayV (A ++ [s]) B) := by
  refine (h.set (s * 2) _).congr fun j _ => ?_
  by_cases e : j = s * 2
  · subst e; simp [mayV, show s * 2 / 2 = s by omega, show s * 2 % 2 = 0 by omega]
  · rw [if_neg e]
    unfold mayV
    by_cases e2 : j % 2 = 0
    · rw [if_pos e2, if_pos e2]
      have : ¬ j / 2 = s := by omega
      simp [this]
    · rw [if_neg e2, if_neg e2]
theorem may_set1 {w : World} {b n : Nat} {A B : List Nat} {s : Nat} (h : w.rowIs b 138 n (mayV A B)) : (w.setCell ⟨b, s * 2 + 1, none⟩ (.bool true)).rowIs b 138 n (mayV A (B ++ [s])) := by
  refine (h.set (s * 2 + 1) _).congr fun j _ => ?_
  by_cases e : j = s * 2 + 1
  · subst e; simp [mayV, show (s * 2 + 1) / 2 = s by omega, show (s * 2 + 1) % 2 = 1 by omega]
  · rw [if_neg e]
    unfold mayV
    by_cases e2 : j % 2 = 0
    · rw [if_pos e2, if_pos e2]
    · rw [if_neg e2, if_neg e2]
      have : ¬ j / 2 = s := by omega
      simp [this]
def verdV (Y N : List Nat) (FL : List Bool) (s : Nat) : Int := if s ∉ Y then 0 else if s ∉ N then 3 else if FL.getD s false = true then 2 else 1
noncomputable def verdL (L : Nat) (d : Da) : List Int := (List.range d.next.length).map (verdV (aliveL L d) (aliveL L (daNot d)) d.final)
theorem alive_lt {L : Nat} {d : Da} {s : Nat} (h : s ∈ aliveL L d) : s < d.next.length := by
  unfold aliveL at h
  simpa using (List.mem_filter.1 h).1
/-- what reach.Alive gives, as it is read -/
theorem alive_rd {w' : World} {base : Nat} {lv : Value} {l : List Nat} (h : w'.ownsRow base 3 1 lv l.length (l.map natV)) : ∃ A c, lv = .slice A l.length c ∧ ∀ k, k < l.length → ∃ b, A = some ⟨b, 0, none⟩ ∧ b < w'.heap.size ∧ w'.cell? ⟨b, k, none⟩ = some (.int .i64 ((l.getD k 0 : Nat) : Int)) := by
  have hl := h.1
  rcases h.2 with ⟨rfl, e0⟩ | ⟨b, cap, cur, rfl, hb, hh, hnc, hmax, hsz, htk⟩
  · exact ⟨none, 0, by rw [e0], fun k hk => by omega⟩
  · refine ⟨_, cap, rfl, fun k hk => ⟨b, rfl, lt_blk hh, ?_⟩⟩
    have q : (l.map natV)[k]? = some (natV (l.getD k 0)) := by simp [List.getD, hk]
    rw [← htk, List.getElem?_take, if_pos (by omega)] at q
    rw [fld_cell hh]
    simpa [natV] using q
def outV (Y N : List Nat) (FL : List Bool) (k : Nat) (j : Nat) : Value := .int .i64 (if j < k then verdV Y N FL j else 0)
theorem out_set {w : World} {b n k : Nat} {Y N : List Nat} {FL : List Bool} (h : w.rowIs b 3 n (outV Y N FL k)) : (w.setCell ⟨b, k, none⟩ (.int .i64 (verdV Y N FL k))).rowIs b 3 n (outV Y N FL (k + 1)) := by
  refine (h.set k _).congr fun j _ => ?_
  unfold outV
  by_cases e : j = k
  · subst e; simp
  · rw [if_neg e]; congr 1
    by_cases e2 : j < k
    · rw [if_pos e2, if_pos (by omega)]
    · rw [if_neg e2, if_neg (by omega)]
theorem out_rd {w : World} {b n : Nat} {Y N : List Nat} {FL : List Bool} (h : w.rowIs b 3 n (outV Y N FL n)) : RdI w w.heap.size (.slice (some ⟨b, 0, none⟩) n n) ((List.range n).map (verdV Y N FL)) := by
  have hl : ((List.range n).map (verdV Y N FL)).length = n := by simp
  unfold RdI
  rw [hl]
  exact Rd.of_rowIs (h.congr fun j hj => by simp [outV, ints, hj, List.getD]) h.lt
set_option maxRecDepth 100000 in
set_option maxHeartbeats 3200000 in
theorem verd_any (L : Nat) (dv : Value) (d : Da) (w : World) (h : DfV w w.heap.size dv d) (hok : DaOk d) (hL : d.letters = (L : Int)) :
    Calls Tryz.prog 61 #[dv] w fun e w' => ∃ v', e = .returned (.tuple #[v', .nilIface]) ∧ RdI w' w'.heap.size v' (verdL L d) ∧ Below w.heap.size w w' := by
  have H1 := fun W hb => dcheck_ok dv d W ((DfV.below h hb).mono hb.size) hok
  have H2 := fun W hb => not_any L dv d W ((DfV.below h hb).mono hb.size) hok hL
  have H3 := fun W hb => alive_any L dv d W ((DfV.below h hb).mono hb.size) hok hL
  have H4 := fun v2 W (h2 : DfV W W.heap.size v2 (daNot d)) => alive_any L v2 (daNot d) W h2 hok.not hL
  have hy := fun s (hs : s ∈ aliveL L d) => alive_lt hs
  have hno : ∀ s, s ∈ aliveL L (daNot d) → s < d.next.length := fun s hs => (alive_lt (d := daNot d) hs)
  have hyl : (aliveL L d).length ≤ 40 := Nat.le_trans (List.length_filter_le _ _) (by have := hok.le; simpa using this)
  have hnl : (aliveL L (daNot d)).length ≤ 40 := Nat.le_trans (List.length_filter_le _ _) (by have := hok.le; simpa [daNot] using this)
  obtain ⟨nv, fv, rfl, ⟨rv, ⟨nA, nc, rfl, hnc, _⟩, hr⟩, hf⟩ := h
  obtain ⟨fb, fo, fc, rfl, hfc, hfb, hfcell⟩ := Rd.at1 hf (by rw [hok.lenF]; exact hok.pos)
  have hlenF := hok.lenF
  have hn40 := hok.le
  have hmk1 := fun w => run_make_two d.next.length (by omega) w
  have hmk2 := fun w => run_make_row' (P := Tryz.prog) 23 3 (.int .i64 0) 8 Tryz.underlying23 info_int rfl .i64 .i64 d.next.length (by omega) (by omega) w
  unfold verdL
  rw [hlenF] at hfc hfcell
  generalize hFL : d.final = FL at *
  rw [hL] at H1 H2 H3 ⊢
  rw [hlenF] at H1 H2 H3 ⊢
  generalize hY : aliveL L d = Y at *
  generalize hN : aliveL L (daNot d) = N at *
  generalize hDN : daNot d = DN at *
  generalize hNX : d.next = NX at *
  generalize hnn : NX.length = n at *
  generalize d.start = st at *
  have HH1 := Lib.hid H1
  have HH2 := Lib.hid H2
  have HH3 := Lib.hid H3
  have HH4 := Lib.hid H4
  have HFC := Lib.hid hfcell
  have HY := Lib.hid hy
  have HN := Lib.hid hno
  clear H1 H2 H3 H4 hfcell hr hf hok hL hlenF hFL hNX hnn hDN hY hN hy hno
  go_enter Tryz.func61, Tryz.ntmps61
  go_wp2_with fail
  refine (HH1.out _ ((Below.refl _ _).alloc (Nat.le_refl _) _)).mono ?_
  rintro e w1 ⟨rfl, hb1⟩
  have hbx := (hb1.block _ (by simp)).trans (heap_new w (Obj.cells #[.int .i64 (L : Int), .int .i64 st, .slice nA n nc, .slice (some ⟨fb, fo, none⟩) n fc] 59))
  have hb1' : Below w.heap.size w w1 := ((Below.refl w.heap.size w).alloc (Nat.le_refl _) _).trans (hb1.mono (by simp))
  have bl := lt_blk hbx
  have b0 := fld_cell hbx 0
  have b1 := fld_cell hbx 1
  have b2 := fld_cell hbx 2
  have b3 := fld_cell hbx 3
  simp at b0 b1 b2 b3
  have HBX := Lib.hid hbx
  have HB1 := Lib.hid hb1'
  clear hb1 hb1' hbx
  go_wp2_with fail
  refine (HH2.out _ HB1.out).mono ?_
  rintro e w2 ⟨v2, rfl, hd2, hb2⟩
  obtain ⟨n2A, n2n, n2c, f2A, f2n, f2c, rfl⟩ := hd2.shape
  have hbx := (hb2.block _ bl).trans HBX.out
  have hb2' := HB1.out.trans (hb2.mono HB1.out.size)
  clear bl b0 b1 b2 b3
  have bl := lt_blk hbx
  have b0 := fld_cell hbx 0
  have b1 := fld_cell hbx 1
  have b2 := fld_cell hbx 2
  have b3 := fld_cell hbx 3
  simp at b0 b1 b2 b3
  have HBX2 := Lib.hid hbx
  have HB2 := Lib.hid hb2'
  have HD2 := Lib.hid hd2
  clear hb2 hb2' hbx hd2
  generalize DN.letters = L2 at *
  generalize DN.start = st2 at *
  go_wp2_with fail
  refine (HH3.out _ (HB2.out.alloc HB2.out.size _)).mono ?_
  rintro e w3 ⟨l1, rfl, hown3, hb3⟩
  have hbx := (hb3.block _ (by simp; omega)).trans ((up_alloc1 w2 (Obj.cells #[.int .i64 L2, .int .i64 st2, .slice n2A n2n n2c, .slice f2A f2n f2c] 59)).block _ bl |>.trans HBX2.out)
  have hbn := (hb3.block w2.heap.size (by simp)).trans (heap_new w2 (Obj.cells #[.int .i64 L2, .int .i64 st2, .slice n2A n2n n2c, .slice f2A f2n f2c] 59))
  have hb23 : Below w2.heap.size w2 w3 := (up_alloc1 w2 _).trans (hb3.mono (by simp))
  have hb3' := HB2.out.trans (hb23.mono HB2.out.size)
  obtain ⟨yA, yc, rfl, hycell⟩ := alive_rd hown3
  have hd3 := (HD2.out.below hb23).mono hb23.size
  clear bl b0 b1 b2 b3
  have bl := lt_blk hbx
  have b0 := fld_cell hbx 0
  have b1 := fld_cell hbx 1
  have b2 := fld_cell hbx 2
  have b3 := fld_cell hbx 3
  simp at b0 b1 b2 b3
  have nl := lt_blk hbn
  have n0 := fld_cell hbn 0
  have n1 := fld_cell hbn 1
  have n2 := fld_cell hbn 2
  have n3 := fld_cell hbn 3
  simp at n0 n1 n2 n3
  have HBX3 := Lib.hid hbx
  have HB3 := Lib.hid hb3'
  have HYC := Lib.hid hycell
  have HD3 := Lib.hid hd3
  clear hb3 hb3' hbx hbn hb23 hd3 hown3 hycell
  go_wp2_with fail
  refine (HH4.out _ _ HD3.out).mono ?_
  rintro e w4 ⟨l2, rfl, hown4, hb4⟩
  have hbx := (hb4.block _ bl).trans HBX3.out
  have hb4' := HB3.out.trans (hb4.mono HB3.out.size)
  obtain ⟨zA, zc, rfl, hzcell⟩ := alive_rd hown4
  have hycell : ∀ k, k < Y.length → ∃ b, yA = some ⟨b, 0, none⟩ ∧ b < w4.heap.size ∧ w4.cell? ⟨b, k, none⟩ = some (.int .i64 ((Y.getD k 0 : Nat) : Int)) := fun k hk => by
    obtain ⟨b, e1, e2, e3⟩ := HYC.out k hk
    exact ⟨b, e1, by have := hb4.size; omega, (hb4.cell (p := ⟨b, k, none⟩) e2).trans e3⟩
  clear bl b0 b1 b2 b3 nl n0 n1 n2 n3 HYC
  have bl := lt_blk hbx
  have b0 := fld_cell hbx 0
  have b1 := fld_cell hbx 1
  have b2 := fld_cell hbx 2
  have b3 := fld_cell hbx 3
  simp at b0 b1 b2 b3
  have HBX4 := Lib.hid hbx
  have HB4 := Lib.hid hb4'
  have HYC := Lib.hid hycell
  have HZC := Lib.hid hzcell
  clear hb4 hb4' hbx hown4 hycell hzcell
  have hyt : Y.take Y.length = Y := List.take_length
  have hnt : N.take N.length = N := List.take_length
  have HYT := Lib.hid hyt
  have HNT := Lib.hid hnt
  clear hyt hnt
  go_wp2_with fail
  obtain ⟨W5, hW5⟩ : ∃ W5, w4.alloc (Obj.cells (madeCells #[.bool false, .bool false] (n * 2)) 138) = W5 := ⟨_, rfl⟩
  have hm5 : W5.rowIs w4.heap.size 138 (n * 2) (mayV [] []) := by rw [← hW5]; exact may_made w4 n
  have hb5 : Below w4.heap.size w4 W5 := by rw [← hW5]; exact up_alloc1 _ _
  have HM5 := Lib.hid hm5
  have HB5 := Lib.hid hb5
  rw [hW5]
  clear hm5 hb5 hW5
  have hi0 : ∀ w, (Instr.index 137 (.agg #[.slice yA Y.length yc, .slice zA N.length zc]) (.int .i64 0)).run Tryz.prog w = .ok (.slice yA Y.length yc) w := fun _ => by kernel_rfl
  have hi1 : ∀ w, (Instr.index 137 (.agg #[.slice yA Y.length yc, .slice zA N.length zc]) (.int .i64 1)).run Tryz.prog w = .ok (.slice zA N.length zc) w := fun _ => by kernel_rfl
  go_loopw [53] (fun i wr => ∃ k : Nat, k ≤ 2 ∧ i = .int .i64 (k : Int) ∧ Below w4.heap.size w4 wr ∧ wr.rowIs w4.heap.size 138 (n * 2) (mayV (if 1 ≤ k then Y else []) (if 2 ≤ k then N else []))) (fun i _ => 2 - (intOf i).toNat)
  case atStart => exact ⟨0, by omega, rfl, HB5.out, by simpa using HM5.out⟩
  case round =>
    obtain ⟨k, hk, rfl, hbr, hmr⟩ := hrel
    clear HM5 HB5
    have HBR := Lib.hid hbr
    have HMR := Lib.hid hmr
    clear hbr hmr
    have hk3 : k = 0 ∨ k = 1 ∨ k = 2 := by omega
    rcases hk3 with rfl | rfl | rfl
    · go_wp2_with fail
      go_loopw [59] (fun i wq => ∃ j : Nat, j ≤ Y.length ∧ i = .int .i64 (j : Int) ∧ Below w4.heap.size w4 wq ∧ wq.rowIs w4.heap.size 138 (n * 2) (mayV (Y.take j) [])) (fun i _ => Y.length - (intOf i).toNat)
      case atStart => exact ⟨0, by omega, rfl, HBR.out, by simpa using HMR.out⟩
      case round =>
        obtain ⟨j, hj, rfl, hbq, hmq⟩ := hrel
        by_cases hlt : j < Y.length
        · obtain ⟨b, rfl, hyb, hc⟩ := HYC.out j hlt
          have hc := (hbq.cell (p := ⟨b, j, none⟩) hyb).trans hc
          have hbl := lt_of_cell hc
          have hs := HY.out (Y.getD j 0) (by rw [List.getD, List.getElem?_eq_getElem hlt]; exact List.getElem_mem hlt)
          have hst : Y.take (j + 1) = Y.take j ++ [Y.getD j 0] := by rw [List.take_succ_eq_append_getElem hlt]; simp [List.getD, hlt]
          generalize Y.getD j 0 = s at *
          have hcl := hmq.cell (i := s * 2) (by omega)
          have hfr := hmq.frozen (s * 2)
          have hml := hmq.lt
          have hset := may_set0 (s := s) hmq
          rw [← hst] at hset
          have hbset : Below w4.heap.size w4 (wr.setCell ⟨w4.heap.size, s * 2, none⟩ (.bool true)) := hbq.setCell (Nat.le_refl _) _
          have HS := Lib.hid hset
          have HBS := Lib.hid hbset
          clear hset hbset hst hbq hmq
          go_wp2_with fail
          go_roundw
          case rel => exact ⟨j + 1, by omega, by go_num, HBS.out, HS.out⟩
          case measure => simp [intOf]; omega
        · have hjl : j = Y.length := by omega
          subst hjl
          rw [HYT.out] at hmq
          have HBQ := Lib.hid hbq
          have HMQ := Lib.hid hmq
          clear hbq hmq
          go_wp2_with fail
          go_roundw
          case rel => exact ⟨1, by omega, by go_num, HBQ.out, by simpa using HMQ.out⟩
          case measure => simp [intOf]
    · go_wp2_with fail
      go_loopw [59] (fun i wq => ∃ j : Nat, j ≤ N.length ∧ i = .int .i64 (j : Int) ∧ Below w4.heap.size w4 wq ∧ wq.rowIs w4.heap.size 138 (n * 2) (mayV Y (N.take j))) (fun i _ => N.length - (intOf i).toNat)
      case atStart => exact ⟨0, by omega, rfl, HBR.out, by simpa using HMR.out⟩
      case round =>
        obtain ⟨j, hj, rfl, hbq, hmq⟩ := hrel
        by_cases hlt : j < N.length
        · obtain ⟨b, rfl, hyb, hc⟩ := HZC.out j hlt
          have hc := (hbq.cell (p := ⟨b, j, none⟩) hyb).trans hc
          have hbl := lt_of_cell hc
          have hs := HN.out (N.getD j 0) (by rw [List.getD, List.getElem?_eq_getElem hlt]; exact List.getElem_mem hlt)
          have hst : N.take (j + 1) = N.take j ++ [N.getD j 0] := by rw [List.take_succ_eq_append_getElem hlt]; simp [List.getD, hlt]
          generalize N.getD j 0 = s at *
          have hcl := hmq.cell (i := s * 2 + 1) (by omega)
          have hfr := hmq.frozen (s * 2 + 1)
          have hml := hmq.lt
          have hset := may_set1 (s := s) hmq
          rw [← hst] at hset
          have hbset : Below w4.heap.size w4 (wr.setCell ⟨w4.heap.size, s * 2 + 1, none⟩ (.bool true)) := hbq.setCell (Nat.le_refl _) _
          have HS := Lib.hid hset
          have HBS := Lib.hid hbset
          clear hset hbset hst hbq hmq
          go_wp2_with fail
          go_roundw
          case rel => exact ⟨j + 1, by omega, by go_num, HBS.out, HS.out⟩
          case measure => simp [intOf]; omega
        · have hjl : j = N.length := by omega
          subst hjl
          rw [HNT.out] at hmq
          have HBQ := Lib.hid hbq
          have HMQ := Lib.hid hmq
          clear hbq hmq
          go_wp2_with fail
          go_roundw
          case rel => exact ⟨2, by omega, by go_num, HBQ.out, by simpa using HMQ.out⟩
          case measure => simp [intOf]
    · have hmr := HMR.out
      simp at hmr
      have HMR2 := Lib.hid hmr
      clear hmr HMR HYC HZC hi0 hi1
      obtain ⟨wa, rfl⟩ : ∃ wa : World, wa = wr := ⟨_, rfl⟩
      have hbx := (HBR.out.block _ bl).trans HBX4.out
      have a2 := fld_cell hbx 2
      have al := lt_blk hbx
      simp at a2
      clear hbx
      go_wp2_with fail
      obtain ⟨W6, hW6⟩ : ∃ W6, wa.alloc (Obj.cells (madeCells #[.int .i64 0] n) 3) = W6 := ⟨_, rfl⟩
      have ho6 : W6.rowIs wa.heap.size 3 n (outV Y N FL 0) := by rw [← hW6]; exact (World.rowIs_made wa (.int .i64 0) n 3).congr (fun j _ => by simp [outV])
      have hb6 : Below wa.heap.size wa W6 := by rw [← hW6]; exact up_alloc1 _ _
      have hm6 := HMR2.out.of_block (hb6.block _ HMR2.out.lt)
      have hm6l := HMR2.out.lt
      have hbr6 := HBR.out.trans (hb6.mono HBR.out.size)
      rw [hW6]
      have HO6 := Lib.hid ho6
      have HM6 := Lib.hid hm6
      have HBR6 := Lib.hid hbr6
      clear ho6 hb6 hm6 hbr6 hW6 hmk1 hmk2
      generalize wa.heap.size = ob at *
      go_loopw [76] (fun i wr => ∃ k : Nat, k ≤ n ∧ i = .int .i64 (k : Int) ∧ Below w4.heap.size w4 wr ∧ wr.rowIs w4.heap.size 138 (n * 2) (mayV Y N) ∧ wr.rowIs ob 3 n (outV Y N FL k)) (fun i _ => n - (intOf i).toNat)
      case atStart => exact ⟨0, by omega, rfl, HBR6.out, HM6.out, HO6.out⟩
      case round =>
        obtain ⟨k, hk, rfl, hbr, hmr, hor⟩ := hrel
        obtain ⟨wo, rfl⟩ : ∃ wo : World, wo = wr := ⟨_, rfl⟩
        by_cases hlt : k < n
        · have hc := (HB4.out.trans (hbr.mono HB4.out.size)).cell (p := ⟨fb, fo + k, none⟩) hfb |>.trans (HFC.out k hlt)
          unfold bools at hc
          have c0 := hmr.cell (i := k * 2) (by omega)
          have c1 := hmr.cell (i := k * 2 + 1) (by omega)
          have ml := hmr.lt
          have oc := hor.cell hlt
          have ofz := hor.frozen k
          have ol := hor.lt
          have hbx := (hbr.block _ bl).trans HBX4.out
          have x3 := fld_cell hbx 3
          have xl := lt_blk hbx
          have hfl := lt_of_cell hc
          simp at x3
          unfold mayV at c0 c1
          rw [show k * 2 / 2 = k by omega, show k * 2 % 2 = 0 by omega, if_pos rfl] at c0
          rw [show (k * 2 + 1) / 2 = k by omega, show (k * 2 + 1) % 2 = 1 by omega, if_neg (by omega)] at c1
          have hset := fun o => (out_set hor).alloc o
          have hms := fun u o => ((hmr.setOther (a := ⟨ob, k, none⟩) (by dsimp only; omega) u).alloc o)
          have hbs : ∀ u o, Below w4.heap.size w4 ((wo.setCell ⟨ob, k, none⟩ u).alloc o) := fun u o => (hbr.setCell (by dsimp only; omega) u).alloc (by have := hbr.size; simpa using this) o
          have HS := Lib.hid hset
          have HMS := Lib.hid hms
          have HBS := Lib.hid hbs
          have hv : verdV Y N FL k = if decide (k ∈ Y) = false then 0 else if decide (k ∈ N) = false then 3 else if FL.getD k false = true then 2 else 1 := by simp [verdV]
          rw [hv] at HS
          clear hset hms hbs hbr hmr hor hbx hv
          generalize decide (k ∈ Y) = q0 at *
          generalize decide (k ∈ N) = q1 at *
          generalize FL.getD k false = q2 at *
          cases q0
          · go_wp2_with fail
            go_roundw
            case rel => exact ⟨k + 1, by omega, by go_num, HBS.out _ _, HMS.out _ _, HS.out _⟩
            case measure => simp [intOf]; omega
          · cases q1
            · go_wp2_with fail
              go_roundw
              case rel => exact ⟨k + 1, by omega, by go_num, HBS.out _ _, HMS.out _ _, HS.out _⟩
              case measure => simp [intOf]; omega
            · cases q2
              · go_wp2_with fail
                go_roundw
                case rel => exact ⟨k + 1, by omega, by go_num, HBS.out _ _, HMS.out _ _, HS.out _⟩
                case measure => simp [intOf]; omega
              · go_wp2_with fail
                go_roundw
                case rel => exact ⟨k + 1, by omega, by go_num, HBS.out _ _, HMS.out _ _, HS.out _⟩
                case measure => simp [intOf]; omega
        · have hkn : k = n := by omega
          subst hkn
          have hB := HB4.out.trans (hbr.mono HB4.out.size)
          have HO := Lib.hid (out_rd hor)
          have HB := Lib.hid hB
          clear hbr hmr hor hB
          go_wp2_with fail
          go_ret2
          exact ⟨_, rfl, HO.out, HB.out⟩
end Go.Proofs.YtccknopchddicaaGreatDoor
/- contract: verdict.Of. -/
namespace Go.Proofs.YtccknopchddicaaGreatDoor
open Go.RowKit Stile
noncomputable def verdictP (L : Nat) (d : Da) (l : List Int) : Int := (verdL L d).getD (goes d.next d.start l).toNat 0
set_option maxRecDepth 100000 in
set_option maxHeartbeats 800000 in
theorem vof_any (L : Nat) (dv lv : Value) (d : Da) (l : List Int) (w : World) (h : DfV w w.heap.size dv d) (hok : DaOk d) (hL : d.letters = (L : Int)) (hl : RdI w w.heap.size lv l) (hw : wcheckP L l = 0) :
    Calls Tryz.prog 44 #[dv, lv] w fun e w' => e = .returned (.tuple #[.int .i64 (verdictP L d l), .nilIface]) ∧ Below w.heap.size w w' := by
  have H1 := fun W hb => run_any L dv lv d l W ((DfV.below h hb).mono hb.size) hok hL (Rd.mono (Rd.below hl hb) hb.size) hw
  have H2 := fun W hb => verd_any L dv d W ((DfV.below h hb).mono hb.size) hok hL
  have hwd : Wrd L l := fun a ha => (wcheckP_ok.1 hw).2.2 a ha
  obtain ⟨g0, g1⟩ := goes_in hok hL hok.st0 hok.st1 l hwd
  have hvl : (verdL L d).length = d.next.length := by simp [verdL]
  have hend : ∀ S : Nat, goes d.next d.start l = (S : Int) → verdictP L d l = (verdL L d).getD S 0 := fun S e => by simp [verdictP, e]
  obtain ⟨nA, nn, nc, fA, fn, fc, rfl⟩ := h.shape
  rw [hL] at H1 H2 ⊢
  obtain ⟨S, hS⟩ : ∃ S : Nat, goes d.next d.start l = (S : Int) := ⟨(goes d.next d.start l).toNat, by omega⟩
  have hend2 := hend S hS
  clear hend
  rw [hS] at H1 g1
  generalize d.start = st at *
  rw [hend2]
  rw [← hvl] at g1
  generalize hVL : verdL L d = VL at *
  obtain ⟨lA, lc, rfl, _⟩ := id hl
  generalize hvn : VL.length = vn at *
  have HVN := Lib.hid hvn
  have HH1 := Lib.hid H1
  have HH2 := Lib.hid H2
  clear H1 H2 h hok hL hl hw hwd hvl hend2 hS g0 hVL hvn
  go_enter Tryz.func44, Tryz.ntmps44
  go_wp2_with fail
  refine (HH1.out _ ((Below.refl _ _).alloc (Nat.le_refl _) _)).mono ?_
  rintro e w1 ⟨rfl, hb1⟩
  have hbx := (hb1.block _ (by simp)).trans (heap_new w (Obj.cells #[.int .i64 (L : Int), .int .i64 st, .slice nA nn nc, .slice fA fn fc] 59))
  have hb1' : Below w.heap.size w w1 := ((Below.refl w.heap.size w).alloc (Nat.le_refl _) _).trans (hb1.mono (by simp))
  have bl := lt_blk hbx
  have b0 := fld_cell hbx 0
  have b1 := fld_cell hbx 1
  have b2 := fld_cell hbx 2
  have b3 := fld_cell hbx 3
  simp at b0 b1 b2 b3
  have HB1 := Lib.hid hb1'
  clear hb1 hb1' hbx
  go_wp2_with fail
  refine (HH2.out _ HB1.out).mono ?_
  rintro e w2 ⟨v2, rfl, hr2, hb2⟩
  obtain ⟨vb, vo, vc, rfl, hvc, hvb, hcell⟩ := Rd.at1 hr2 (by rw [HVN.out]; omega)
  rw [HVN.out] at hcell hvc
  have hc := hcell S (by omega)
  unfold ints at hc
  rw [HVN.out]
  have hB := HB1.out.trans (hb2.mono HB1.out.size)
  have hS : S < vn := by omega
  have HB := Lib.hid hB
  clear hb2 hB hr2 hcell
  go_wp2_with fail
  go_ret2
  exact ⟨rfl, HB.out⟩
end Go.Proofs.YtccknopchddicaaGreatDoor
