/- contracts: form.reader's put; strings.IndexByte. -/
import Derived.Test.YtccknopchddicaaGreatDoorMGe
import Derived.Test.YtccknopchddicaaGreatDoorMU7
import Derived.Lib.Bytealg
set_option linter.unusedSimpArgs false
set_option linter.unusedVariables false
set_option linter.unnecessarySimpa false
namespace Go.Proofs.YtccknopchddicaaGreatDoor
open Go.RowKit Stile
set_option maxRecDepth 100000 in
set_option maxHeartbeats 800000 in
theorem put_any (b : Nat) (L : Int) (s : List UInt8) (f : List Nd) (v : Value) (x : Nd) (w : World) (h : RrAt w b L s f v) (hlen : f.length ≤ 1000) :
    Calls Tryz.prog 75 #[.pointer (some ⟨b, 0, none⟩), .int .i64 x.k, .int .i64 x.a, .int .i64 x.b] w fun e w' => e = .returned (.int .i64 (f.length : Int)) ∧ ∃ v', RrAt w' b L s (f ++ [x]) v' ∧ Grew b 71 w w' := by
  obtain ⟨n, hn⟩ : ∃ n, f.length = n := ⟨_, rfl⟩
  have hown := h.own
  rw [hn] at hown hlen ⊢
  obtain ⟨vA, vc, rfl⟩ : ∃ A c, v = .slice A n c := own_shape hown
  have hc0 := fld_cell h.blk 2
  have hf0 := fld_frozen h.blk 2
  have hql := lt_blk h.blk
  simp only [List.getElem?_toArray, List.getElem?_cons_zero, List.getElem?_cons_succ] at hc0
  obtain ⟨xk, xa, xb⟩ := x
  have HQ := Lib.hid h
  have HN := Lib.hid hn
  have HOWN := Lib.hid hown
  obtain ⟨i0, hi0, hz0, hz1, hz2⟩ := info_parts info_nd
  clear h hn hown
  go_enter Tryz.func75, Tryz.ntmps75
  go_wp2_with (at_builtin; refine wpList_append_lies _ rfl _ _ 22 rfl b 71 i0 _ 3 24 Tryz.underlying22 hi0 hz0 hz1 hz2 rfl (by decide) (.slice vA n vc) n _ rfl (HOWN.out.alloc _) ⟨w.heap.size, 0, none⟩ 1 1 [.int .i64 xk, .int .i64 xa, .int .i64 xb] rfl rfl (cell_three_new _ _ _ _ _) (by simp [Value.oneCell']) (by decide) (by unfold maxLen; omega) (by omega) (by simp; omega) _ rfl ?_; intro g' cap' w5 hown5 hgrow5 hat5 hlt5; have hk5 := fld_keep HQ.out.blk HOWN.out hgrow5 (by decide); have hc5 := fld_cell hk5 2; simp only [List.getElem?_toArray, List.getElem?_cons_zero, List.getElem?_cons_succ] at hc5; have hf5 := fld_frozen hk5 2; have hl5 := lt_blk hk5; clear hk5)
  go_ret
  obtain ⟨r1, r2⟩ := fld_grew (k := 2) (u := .slice (some ⟨g', 0, none⟩) (n + 1) cap') HQ.out.blk HOWN.out hgrow5 hown5 (by decide)
  have hk := fld_keep HQ.out.blk HOWN.out hgrow5 (by decide)
  have hs := fld_set hk 2 (.slice (some ⟨g', 0, none⟩) (n + 1) cap')
  refine ⟨rfl, .slice (some ⟨g', 0, none⟩) (n + 1) cap', ⟨by simpa using hs, ?_⟩, r2⟩
  rw [List.length_append, HN.out, ndCells_append]
  exact r1
theorem ibx (K : Int) (hK : 0 ≤ K) (hK9 : K ≤ 9) (w : World) : (Extern.BytealgIndexByte.indexByte #[.string ⟨#[116, 102, 91, 33, 38, 124, 88, 87, 85, 82]⟩, .int .u8 ((signB K).toNat : Int)]).run Tryz.prog w = .ok (.int .i64 K) w := by
  rw [Lib.run_indexByteString]
  have : K = 0 ∨ K = 1 ∨ K = 2 ∨ K = 3 ∨ K = 4 ∨ K = 5 ∨ K = 6 ∨ K = 7 ∨ K = 8 ∨ K = 9 := by omega
  rcases this with rfl | rfl | rfl | rfl | rfl | rfl | rfl | rfl | rfl | rfl <;> rfl
set_option maxRecDepth 100000 in
theorem lib_any (K : Int) (hK : 0 ≤ K) (hK9 : K ≤ 9) (w : World) : Calls Tryz.prog 101 #[.string ⟨#[116, 102, 91, 33, 38, 124, 88, 87, 85, 82]⟩, .int .u8 ((signB K).toNat : Int)] w fun e w' => e = .returned (.int .i64 K) ∧ w = w' := by
  have h := ibx K hK hK9
  generalize ((signB K).toNat : Int) = c at *
  go_enter Tryz.func101, Tryz.ntmps101
  go_wp2
  rw [run_callFunc_extern Tryz.func119 (by kernel_rfl) (by kernel_rfl) (by kernel_rfl) (e := Extern.BytealgIndexByte.indexByte) (by kernel_rfl)]
  rw [h]
  simp only [Result.andThen]
  rw [Oper.upon_value]
  go_wp2
  go_ret
  exact ⟨rfl, rfl⟩
set_option maxRecDepth 100000 in
theorem ib_any (K : Int) (hK : 0 ≤ K) (hK9 : K ≤ 9) (w : World) : Calls Tryz.prog 76 #[.string ⟨#[116, 102, 91, 33, 38, 124, 88, 87, 85, 82]⟩, .int .u8 ((signB K).toNat : Int)] w fun e w' => e = .returned (.int .i64 K) ∧ w = w' := by
  have h := lib_any K hK hK9
  generalize ((signB K).toNat : Int) = c at *
  have HH := Lib.hid h
  clear h
  go_enter Tryz.func76, Tryz.ntmps76
  go_wp2_with fail
  refine (HH.out _).mono ?_
  rintro e w' ⟨rfl, rfl⟩
  go_wp2
  go_ret
  exact ⟨rfl, rfl⟩
end Go.Proofs.YtccknopchddicaaGreatDoor
/- contract: form.reader's set. -/
namespace Go.Proofs.YtccknopchddicaaGreatDoor
open Go.RowKit Stile
theorem or_pow64' (S x : Nat) (hS : S < 9223372036854775808) (hx : x < 62) : bits .or .i64 (S : Int) (wrap64 (2 ^ x)) = ((S ||| (1 <<< x) : Nat) : Int) := by
  have h1 : 2 ^ x < 9223372036854775808 := Nat.pow_lt_pow_right (a := 2) (m := x) (n := 63) (by decide) (by omega)
  have h2 : wrap64 (2 ^ x) = ((2 ^ x : Nat) : Int) := by
    rw [show ((2 : Int) ^ x) = ((2 ^ x : Nat) : Int) by simp]
    generalize 2 ^ x = P at *
    unfold wrap64; omega
  rw [h2, i64_or_nat S (2 ^ x) hS h1, Nat.one_shiftLeft]
def bitL (s : Nat) : List Nat := (List.range 6).filter fun a => s.testBit a
def setB (s i : Nat) : Nat := ((bitL s).take i).foldl (fun a b => a ||| (1 <<< b)) 0
def lastB (s i : Nat) : Int := if i = 0 then -1 else (((bitL s).getD (i - 1) 0 : Nat) : Int)
theorem bit_step : ∀ s : Fin 64, ∀ i : Fin 6, i.val < (bitL s.val).length → lastB s.val i.val < (((bitL s.val).getD i.val 0 : Nat) : Int) ∧ setB s.val (i.val + 1) = setB s.val i.val ||| (1 <<< ((bitL s.val).getD i.val 0)) ∧ setB s.val i.val < 64 := by decide +kernel
theorem bit_end : ∀ s : Fin 64, setB s.val (bitL s.val).length = s.val := by decide +kernel
theorem bit_in : ∀ L : Fin 7, ∀ s : Fin 64, s.val < 2 ^ L.val → ∀ b ∈ bitL s.val, b < L.val := by decide +kernel
theorem bitL_le (s : Nat) : (bitL s).length ≤ 6 := Nat.le_trans (List.length_filter_le _ _) (by simp)
theorem digB_nat (b : Nat) (h : b < 6) : (digB b).toNat = 48 + b := by
  have : b = 0 ∨ b = 1 ∨ b = 2 ∨ b = 3 ∨ b = 4 ∨ b = 5 := by omega
  rcases this with rfl | rfl | rfl | rfl | rfl | rfl <;> rfl
theorem setTxt_bitL (s : Nat) : setTxt (s : Int) 6 = (bitL s).map digB := by simp [setTxt, bitL]
set_option maxRecDepth 100000 in
set_option maxHeartbeats 1600000 in
theorem rset_any (b : Nat) (L s : Nat) (rest : List UInt8) (f : List Nd) (v : Value) (w : World) (h : RrAt w b (L : Int) (setTxt (s : Int) 6 ++ 93 :: rest) f v) (hL : L ≤ 6) (hs : s < 64) (hsL : s < 2 ^ L) :
    Calls Tryz.prog 100 #[.pointer (some ⟨b, 0, none⟩)] w fun e w' => e = .returned (.int .i64 (s : Int)) ∧ RrAt w' b (L : Int) rest f v ∧ Grew b 71 w w' := by
  rw [setTxt_bitL] at h
  have hst := fun i (hi : i < (bitL s).length) => bit_step ⟨s, hs⟩ ⟨i, by have := bitL_le s; omega⟩ hi
  have hen := bit_end ⟨s, hs⟩
  have hin := bit_in ⟨L, by omega⟩ ⟨s, hs⟩ hsL
  simp only at hst hen hin
  have hst : ∀ i, i < (bitL s).length → ∃ B : Nat, B < L ∧ B < 6 ∧ lastB s i < (B : Int) ∧ lastB s (i + 1) = (B : Int) ∧ setB s (i + 1) = setB s i ||| (1 <<< B) ∧ setB s i < 64 ∧ (bitL s).drop i = B :: (bitL s).drop (i + 1) := fun i hi => by
    obtain ⟨a1, a2, a3⟩ := hst i hi
    have hm : (bitL s).getD i 0 ∈ bitL s := by rw [List.getD, List.getElem?_eq_getElem hi]; exact List.getElem_mem hi
    refine ⟨(bitL s).getD i 0, hin _ hm, by have := hin _ hm; omega, a1, by simp [lastB], a2, a3, ?_⟩
    rw [List.drop_eq_getElem_cons hi]
    simp [List.getD, hi]
  have hl0 : lastB s 0 = -1 := rfl
  have hs0 : setB s 0 = 0 := rfl
  have hde : (bitL s).drop (bitL s).length = [] := List.drop_length
  have h : RrAt w b (L : Int) (((bitL s).drop 0).map digB ++ 93 :: rest) f v := by simpa using h
  have hlast : ∀ i, i ≤ (bitL s).length → -1 ≤ lastB s i ∧ lastB s i ≤ 5 := fun i hi => by
    match i with
    | 0 => rw [hl0]; omega
    | i + 1 => obtain ⟨B, b1, b2, b3, b4, _⟩ := hst i (by omega); rw [b4]; omega
  generalize (bitL s).length = n at *
  generalize hD : (fun i => (bitL s).drop i) = D at *
  have hDx : ∀ i, (bitL s).drop i = D i := fun i => by rw [← hD]
  simp only [hDx] at hst hde h
  generalize hSB : (fun i => setB s i) = SB at *
  have hSx : ∀ i, setB s i = SB i := fun i => by rw [← hSB]
  simp only [hSx] at hst hen hs0
  generalize hLB : (fun i => lastB s i) = LB at *
  have hLx : ∀ i, lastB s i = LB i := fun i => by rw [← hLB]
  simp only [hLx] at hst hl0 hlast
  have H := Lib.hid h
  have HST := Lib.hid hst
  have HEN := Lib.hid hen
  have HDE := Lib.hid hde
  have HL0 := Lib.hid hl0
  have HS0 := Lib.hid hs0
  have HLA := Lib.hid hlast
  clear h hst hen hde hl0 hs0 hin hD hDx hSB hSx hLB hLx hlast
  go_enter Tryz.func100, Tryz.ntmps100
  go_wp2_with fail
  go_loopw [3, 4] (fun S la wr => ∃ i : Nat, i ≤ n ∧ S = .int .i64 (SB i : Int) ∧ la = .int .i64 (LB i) ∧ RrAt wr b (L : Int) ((D i).map digB ++ 93 :: rest) f v ∧ Grew b 71 w wr) (fun _ la _ => (6 - intOf la).toNat)
  case atStart => exact ⟨0, by omega, by rw [HS0.out]; rfl, by rw [HL0.out], H.out, Below.refl _ _, fun _ _ _ _ _ _ => rfl⟩
  case round =>
    obtain ⟨i, hi, rfl, rfl, hr, hg⟩ := hrel
    obtain ⟨wo, rfl⟩ : ∃ wo : World, wo = wr := ⟨_, rfl⟩
    by_cases hlt : i < n
    · obtain ⟨B, hBL, hB6, hB1, hB2, hB3, hB4, hB5⟩ := HST.out i hlt
      obtain ⟨l0, l1⟩ := HLA.out i hi
      rw [hB5, List.map_cons, List.cons_append] at hr
      have hcall := take_any b L (digB B) _ f v wo hr
      rw [digB_nat B hB6] at hcall
      have hor := or_pow64' (SB i) B (by omega) (by omega)
      rw [← hB3] at hor
      generalize hlb : LB i = la at *
      have hcast : ((48 + B : Nat) : Int) = 48 + (B : Int) := by omega
      rw [hcast] at hcall
      have c1 : ((48 : Int) + (B : Int) == 93) = false := beq_eq_false_iff_ne.2 (by omega)
      have HC := Lib.hid hcall
      have HG := Lib.hid hg
      have HB2 := Lib.hid hB2
      have HB3 := Lib.hid hB3
      have HOR := Lib.hid hor
      clear hcall hg hr hB2 hB3 hB5 hlb hcast hor
      go_wp2_with fail
      refine HC.out.mono ?_
      rintro e w2 ⟨rfl, h2, hg2⟩
      have hL2 := fld_cell h2.blk 1
      have hbl2 := lt_blk h2.blk
      simp only [List.getElem?_toArray, List.getElem?_cons_zero, List.getElem?_cons_succ] at hL2
      have H2 := Lib.hid h2
      have HG2 := Lib.hid (HG.out.trans' hg2)
      clear h2 hg2
      go_wp2_with fail
      go_roundw
      case rel => exact ⟨i + 1, by omega, by rw [HOR.out], by rw [HB2.out]; congr 1; omega, H2.out, HG2.out⟩
      case measure => simp [intOf]; omega
    · have hin : i = n := by omega
      subst hin
      rw [HDE.out, List.map_nil, List.nil_append] at hr
      have hcall := take_any b L 93 _ f v wo hr
      rw [show ((93 : UInt8).toNat : Int) = 93 from rfl] at hcall
      have hen := HEN.out
      rw [hen]
      have HC := Lib.hid hcall
      have HG := Lib.hid hg
      clear hcall hg hr hen
      go_wp2_with fail
      refine HC.out.mono ?_
      rintro e w2 ⟨rfl, h2, hg2⟩
      have H2 := Lib.hid h2
      have HG2 := Lib.hid (HG.out.trans' hg2)
      clear h2 hg2
      go_wp2_with fail
      go_ret
      exact ⟨rfl, H2.out, HG2.out⟩
end Go.Proofs.YtccknopchddicaaGreatDoor
/- contracts: form.reader's upTo over what unary reads. -/
namespace Go.Proofs.YtccknopchddicaaGreatDoor
open Go.RowKit Stile
/-- unary reads the text of u -/
def UnOk (L : Nat) (u : W) : Prop := ∀ (b : Nat) (rest : List UInt8) (f : List Nd) (v : Value) (w : World), RrAt w b (L : Int) (u.txt ++ rest) f v → f.length + u.size ≤ 1000 →
  Calls Tryz.prog 71 #[.pointer (some ⟨b, 0, none⟩)] w fun e w' => e = .returned (.int .i64 ((f.length : Int) + u.size - 1)) ∧ ∃ v', RrAt w' b (L : Int) rest (f ++ u.flat f.length) v' ∧ Grew b 71 w w'
set_option maxRecDepth 100000 in
set_option maxHeartbeats 1600000 in
theorem upto_end (L : Nat) (u : W) (hu : UnOk L u) (least : Int) (b : Nat) (rest : List UInt8) (f : List Nd) (v : Value) (w : World) (h : RrAt w b (L : Int) (u.txt ++ rest) f v) (hlen : f.length + u.size ≤ 1000) (hr : bindP (headB rest) = 0) :
    Calls Tryz.prog 54 #[.pointer (some ⟨b, 0, none⟩), .int .i64 least] w fun e w' => e = .returned (.int .i64 ((f.length : Int) + u.size - 1)) ∧ ∃ v', RrAt w' b (L : Int) rest (f ++ u.flat f.length) v' ∧ Grew b 71 w w' := by
  have hc := hu b rest f v w h hlen
  obtain ⟨A, hA⟩ : ∃ A : Int, (f.length : Int) + u.size - 1 = A := ⟨_, rfl⟩
  rw [hA] at hc ⊢
  have hb := fun W => bind_any (headB rest) W
  rw [hr] at hb
  have hpk := fun W v' F (hh : RrAt W b (L : Int) rest F v') => peek_any b (L : Int) rest F v' W hh
  generalize ((headB rest).toNat : Int) = hd at *
  have HC := Lib.hid hc
  have HB := Lib.hid hb
  have HPK := Lib.hid hpk
  clear hc hb hpk h hA hlen hr hu
  go_enter Tryz.func54, Tryz.ntmps54
  go_wp2_with fail
  refine HC.out.mono ?_
  rintro e w1 ⟨rfl, v1, h1, hg1⟩
  have HP1 := Lib.hid (HPK.out w1 _ _ h1)
  have H1 := Lib.hid h1
  have HG1 := Lib.hid hg1
  clear h1 hg1
  go_wp2_with fail
  go_loopw [5] (fun a wr => a = .int .i64 A ∧ wr = w1) (fun _ _ => 0)
  case atStart => exact ⟨rfl, rfl⟩
  case round =>
    obtain ⟨rfl, hw⟩ := hrel
    subst hw
    go_wp2_with fail
    refine HP1.out.mono ?_
    rintro e w2 ⟨rfl, rfl⟩
    go_wp2_with fail
    refine (HB.out _).mono ?_
    rintro e w2 ⟨rfl, rfl⟩
    go_wp2_with fail
    go_ret
    exact ⟨rfl, v1, H1.out, HG1.out⟩
end Go.Proofs.YtccknopchddicaaGreatDoor
/- contracts: form.reader's upTo over two parts; unary. -/
namespace Go.Proofs.YtccknopchddicaaGreatDoor
open Go.RowKit Stile
theorem head_app (c : UInt8) (l : List UInt8) : headB (c :: l) = c := rfl
set_option maxRecDepth 100000 in
set_option maxHeartbeats 1600000 in
theorem upto_two (L : Nat) (x y : W) (K : Int) (hK : K = 4 ∨ K = 5 ∨ K = 8 ∨ K = 9) (hx : UnOk L x) (hy : UnOk L y) (b : Nat) (rest : List UInt8) (f : List Nd) (v : Value) (w : World) (h : RrAt w b (L : Int) (x.txt ++ (signB K :: (y.txt ++ (41 :: rest)))) f v) (hlen : f.length + (W.n2 K x y).size ≤ 1000) :
    Calls Tryz.prog 54 #[.pointer (some ⟨b, 0, none⟩), .int .i64 1] w fun e w' => e = .returned (.int .i64 ((f.length : Int) + (W.n2 K x y).size - 1)) ∧ ∃ v', RrAt w' b (L : Int) (41 :: rest) (f ++ (W.n2 K x y).flat f.length) v' ∧ Grew b 71 w w' := by
  have hsz : (W.n2 K x y).size = x.size + y.size + 1 := by simp [W.size]
  rw [hsz] at hlen ⊢
  have hc := hx b _ f v w h (by omega)
  have hxp := x.size_pos
  have hyp := y.size_pos
  obtain ⟨A, hA⟩ : ∃ A : Nat, (f.length : Int) + x.size - 1 = (A : Int) := ⟨f.length + x.size - 1, by omega⟩
  obtain ⟨C, hC⟩ : ∃ C : Nat, (f.length : Int) + ((x.size + y.size + 1 : Nat) : Int) - 1 = (C : Int) := ⟨f.length + x.size + y.size, by omega⟩
  rw [hA] at hc
  rw [hC]
  have hAC : A < C := by omega
  obtain ⟨k, hk⟩ : ∃ k : Int, bindP (signB K) = k := ⟨_, rfl⟩
  have hk3 : (k = 3) ∨ k = 1 ∨ k = 2 := by rcases hK with rfl | rfl | rfl | rfl <;> (rw [← hk]; decide)
  have hb := fun W => bind_any (signB K) W
  rw [hk] at hb
  have hb2 := fun W => bind_any 41 W
  rw [show bindP 41 = 0 from rfl, show ((41 : UInt8).toNat : Int) = 41 from rfl] at hb2
  have hpk := fun W v' F (hh : RrAt W b (L : Int) (signB K :: (y.txt ++ (41 :: rest))) F v') => peek_any b (L : Int) _ F v' W hh
  have hpk2 := fun W v' F (hh : RrAt W b (L : Int) (41 :: rest) F v') => peek_any b (L : Int) _ F v' W hh
  simp only [head_app] at hpk hpk2
  rw [show ((41 : UInt8).toNat : Int) = 41 from rfl] at hpk2
  have htk := fun W v' F (hh : RrAt W b (L : Int) (signB K :: (y.txt ++ (41 :: rest))) F v') => take_any b (L : Int) _ _ F v' W hh
  have hup := fun W v' (hh : RrAt W b (L : Int) (y.txt ++ (41 :: rest)) (f ++ x.flat f.length) v') (least : Int) => upto_end L y hy least b (41 :: rest) (f ++ x.flat f.length) v' W hh (by rw [List.length_append, Stile.W.flat_len]; omega) rfl
  have hle : (f ++ x.flat f.length).length = f.length + x.size := by rw [List.length_append, Stile.W.flat_len]
  have hB1 : (((f ++ x.flat f.length).length : Nat) : Int) + y.size - 1 = ((C - 1 : Nat) : Int) := by rw [hle]; omega
  simp only [hB1] at hup
  have hib := ib_any K (by omega) (by omega)
  have hfl : f ++ (W.n2 K x y).flat f.length = (f ++ x.flat f.length) ++ y.flat (f ++ x.flat f.length).length ++ [⟨K, (A : Int), ((C - 1 : Nat) : Int)⟩] := by
    have e1 : ((C - 1 : Nat) : Int) = (f.length : Int) + x.size + y.size - 1 := by omega
    rw [hle, e1, ← hA]
    simp [W.flat]
  have hpt := fun W v' (hh : RrAt W b (L : Int) (41 :: rest) ((f ++ x.flat f.length) ++ y.flat (f ++ x.flat f.length).length) v') => put_any b (L : Int) _ _ v' ⟨K, (A : Int), ((C - 1 : Nat) : Int)⟩ W hh (by rw [List.length_append, hle, Stile.W.flat_len]; omega)
  have hln : (((f ++ x.flat f.length) ++ y.flat (f ++ x.flat f.length).length).length : Int) = (C : Int) := by rw [List.length_append, hle, Stile.W.flat_len]; omega
  simp only [hln] at hpt
  rw [← hfl] at hpt
  generalize hF2 : (f ++ x.flat f.length) ++ y.flat (f ++ x.flat f.length).length = F2 at *
  generalize hF1 : f ++ x.flat f.length = F1 at *
  generalize hF3 : f ++ (W.n2 K x y).flat f.length = F3 at *
  rw [show ((C - 1 : Nat) : Int) = (C : Int) - 1 by omega] at *
  generalize hs : ((signB K).toNat : Int) = sg at *
  have hC1000 : C ≤ 1000 := by omega
  have HC := Lib.hid hc
  have HB := Lib.hid hb
  have HB2 := Lib.hid hb2
  have HPK := Lib.hid hpk
  have HPK2 := Lib.hid hpk2
  have HTK := Lib.hid htk
  have HUP := Lib.hid hup
  have HIB := Lib.hid hib
  have HPT := Lib.hid hpt
  clear hc hb hb2 hpk hpk2 htk hup hib hpt h hA hC hlen hsz hx hy hxp hyp hk hle hB1 hfl hln hF1 hF2 hF3 hs
  go_enter Tryz.func54, Tryz.ntmps54
  go_wp2_with fail
  refine HC.out.mono ?_
  rintro e w1 ⟨rfl, v1, h1, hg1⟩
  have H1 := Lib.hid h1
  have HG1 := Lib.hid hg1
  clear h1 hg1
  go_wp2_with fail
  go_loopw [5] (fun a wr => (a = .int .i64 (A : Int) ∧ ∃ v', RrAt wr b (L : Int) (signB K :: (y.txt ++ (41 :: rest))) F1 v' ∧ Grew b 71 w wr) ∨ (a = .int .i64 (C : Int) ∧ ∃ v', RrAt wr b (L : Int) (41 :: rest) F3 v' ∧ Grew b 71 w wr)) (fun a _ => C - (intOf a).toNat)
  case atStart => exact .inl ⟨rfl, v1, H1.out, HG1.out⟩
  case round =>
    obtain ⟨wo, rfl⟩ : ∃ wo : World, wo = wr := ⟨_, rfl⟩
    rcases hrel with ⟨rfl, v2, h2, hg2⟩ | ⟨rfl, v2, h2, hg2⟩
    · have HP := Lib.hid (HPK.out _ _ _ h2)
      have HT := Lib.hid (HTK.out _ _ _ h2)
      have HG2 := Lib.hid hg2
      clear h2 hg2
      have hk1 : (k == 0) = false := beq_eq_false_iff_ne.2 (by omega)
      have hk2 : decide (k < 1) = false := by simp; omega
      go_wp2_with fail
      refine HP.out.mono ?_
      rintro e w2 ⟨rfl, rfl⟩
      go_wp2_with fail
      refine (HB.out _).mono ?_
      rintro e w2 ⟨rfl, rfl⟩
      go_wp2_with fail
      refine HT.out.mono ?_
      rintro e w3 ⟨rfl, h3, hg3⟩
      have HU := Lib.hid (fun least => HUP.out _ _ h3 least)
      have HG3 := Lib.hid (HG2.out.trans' hg3)
      clear h3 hg3
      rcases hk3 with rfl | hk12
      · go_wp2_with fail
        refine (HU.out _).mono ?_
        rintro e w4 ⟨rfl, v4, h4, hg4⟩
        have HP4 := Lib.hid (HPT.out _ _ h4)
        have HG4 := Lib.hid (HG3.out.trans' hg4)
        clear h4 hg4
        go_wp2_with fail
        refine (HIB.out _).mono ?_
        rintro e w5 ⟨rfl, rfl⟩
        go_wp2_with fail
        refine HP4.out.mono ?_
        rintro e w6 ⟨rfl, v6, h6, hg6⟩
        have H6 := Lib.hid h6
        have HG6 := Lib.hid (HG4.out.trans' hg6)
        clear h6 hg6
        go_wp2_with fail
        go_roundw
        case rel => exact .inr ⟨rfl, v6, H6.out, HG6.out⟩
        case measure => simp [intOf]; omega
      · have hk3' : (k == 3) = false := beq_eq_false_iff_ne.2 (by omega)
        have hk4 : ¬ k = 3 := by omega
        have hkw : IntKind.i64.wrap (k + 1) = k + 1 := IntWalk.i64_in _ (by omega)
        go_wp2_with fail
        refine (HU.out _).mono ?_
        rintro e w4 ⟨rfl, v4, h4, hg4⟩
        have HP4 := Lib.hid (HPT.out _ _ h4)
        have HG4 := Lib.hid (HG3.out.trans' hg4)
        clear h4 hg4
        go_wp2_with fail
        refine (HIB.out _).mono ?_
        rintro e w5 ⟨rfl, rfl⟩
        go_wp2_with fail
        refine HP4.out.mono ?_
        rintro e w6 ⟨rfl, v6, h6, hg6⟩
        have H6 := Lib.hid h6
        have HG6 := Lib.hid (HG4.out.trans' hg6)
        clear h6 hg6
        go_wp2_with fail
        go_roundw
        case rel => exact .inr ⟨rfl, v6, H6.out, HG6.out⟩
        case measure => simp [intOf]; omega
    · have HP := Lib.hid (HPK2.out _ _ _ h2)
      have H2 := Lib.hid h2
      have HG2 := Lib.hid hg2
      clear h2 hg2
      go_wp2_with fail
      refine HP.out.mono ?_
      rintro e w2 ⟨rfl, rfl⟩
      go_wp2_with fail
      refine (HB2.out _).mono ?_
      rintro e w2 ⟨rfl, rfl⟩
      go_wp2_with fail
      go_ret
      exact ⟨rfl, v2, H2.out, HG2.out⟩
end Go.Proofs.YtccknopchddicaaGreatDoor
/- contract: form.reader's unary: it reads what node wrote. -/
namespace Go.Proofs.YtccknopchddicaaGreatDoor
open Go.RowKit Stile
set_option maxRecDepth 100000 in
set_option maxHeartbeats 1600000 in
theorem un_leaf (L : Nat) (K : Int) (hK : K = 0 ∨ K = 1) : UnOk L (.n0 K 0) := by
  intro b rest f v w h hlen
  have ht : (W.n0 K 0).txt = [signB K] := by simp [W.txt]; omega
  rw [ht] at h
  have hc := take_any b (L : Int) (signB K) rest f v w h
  have hsz : (f.length : Int) + (W.n0 K 0).size - 1 = (f.length : Int) := by simp [W.size]
  have hfl : f ++ (W.n0 K 0).flat f.length = f ++ [⟨K, 0, 0⟩] := rfl
  have hpt := fun W v' (hh : RrAt W b (L : Int) rest f v') => put_any b (L : Int) rest f v' ⟨K, 0, 0⟩ W hh (by omega)
  rw [hsz, hfl]
  generalize f.length = n at *
  have HC := Lib.hid hc
  have HPT := Lib.hid hpt
  clear h hc hpt ht hsz hfl hlen
  rcases hK with rfl | rfl
  all_goals
    go_enter Tryz.func71, Tryz.ntmps71
    go_wp2_with fail
    refine HC.out.mono ?_
    rintro e w1 ⟨rfl, h1, hg1⟩
    have HP := Lib.hid (HPT.out _ _ h1)
    have HG1 := Lib.hid hg1
    clear h1 hg1
    go_wp2_with fail
    refine HP.out.mono ?_
    rintro e w2 ⟨rfl, v2, h2, hg2⟩
    have H2 := Lib.hid h2
    have HG2 := Lib.hid (HG1.out.trans' hg2)
    clear h2 hg2
    go_wp2_with fail
    go_ret
    exact ⟨rfl, v2, H2.out, HG2.out⟩
set_option maxRecDepth 100000 in
set_option maxHeartbeats 1600000 in
theorem un_set (L s : Nat) (hL : L ≤ 6) (hs : s < 64) (hsL : s < 2 ^ L) : UnOk L (.n0 2 (s : Int)) := by
  intro b rest f v w h hlen
  have ht : (W.n0 2 (s : Int)).txt ++ rest = 91 :: (setTxt (s : Int) 6 ++ 93 :: rest) := by simp [W.txt]
  rw [ht] at h
  have hc := take_any b (L : Int) 91 _ f v w h
  rw [show ((91 : UInt8).toNat : Int) = 91 from rfl] at hc
  have hst := fun W v' (hh : RrAt W b (L : Int) (setTxt (s : Int) 6 ++ 93 :: rest) f v') => rset_any b L s rest f v' W hh hL hs hsL
  have hsz : (f.length : Int) + (W.n0 2 (s : Int)).size - 1 = (f.length : Int) := by simp [W.size]
  have hfl : f ++ (W.n0 2 (s : Int)).flat f.length = f ++ [⟨2, (s : Int), 0⟩] := rfl
  have hpt := fun W v' (hh : RrAt W b (L : Int) rest f v') => put_any b (L : Int) rest f v' ⟨2, (s : Int), 0⟩ W hh (by omega)
  rw [hsz, hfl]
  generalize f.length = n at *
  have HC := Lib.hid hc
  have HST := Lib.hid hst
  have HPT := Lib.hid hpt
  clear h hc hst hpt ht hsz hfl hlen
  go_enter Tryz.func71, Tryz.ntmps71
  go_wp2_with fail
  refine HC.out.mono ?_
  rintro e w1 ⟨rfl, h1, hg1⟩
  have HS := Lib.hid (HST.out _ _ h1)
  have HG1 := Lib.hid hg1
  clear h1 hg1
  go_wp2_with fail
  refine HS.out.mono ?_
  rintro e w1 ⟨rfl, h1, hg1⟩
  have HP := Lib.hid (HPT.out _ _ h1)
  have HG2 := Lib.hid (HG1.out.trans' hg1)
  clear h1 hg1
  go_wp2_with fail
  refine HP.out.mono ?_
  rintro e w2 ⟨rfl, v2, h2, hg2⟩
  have H2 := Lib.hid h2
  have HG3 := Lib.hid (HG2.out.trans' hg2)
  clear h2 hg2
  go_wp2_with fail
  go_ret
  exact ⟨rfl, v2, H2.out, HG3.out⟩
set_option maxRecDepth 100000 in
set_option maxHeartbeats 1600000 in
theorem un_one (L : Nat) (x : W) (K : Int) (hK : K = 3 ∨ K = 6 ∨ K = 7) (hx : UnOk L x) : UnOk L (.n1 K x) := by
  intro b rest f v w h hlen
  have ht : (W.n1 K x).txt ++ rest = signB K :: (x.txt ++ rest) := by simp [W.txt]
  rw [ht] at h
  have hc := take_any b (L : Int) (signB K) _ f v w h
  have hsz : (W.n1 K x).size = x.size + 1 := by simp [W.size]
  rw [hsz] at hlen ⊢
  have hxp := x.size_pos
  have hux := fun W v' (hh : RrAt W b (L : Int) (x.txt ++ rest) f v') => hx b rest f v' W hh (by omega)
  obtain ⟨A, hA⟩ : ∃ A : Nat, (f.length : Int) + x.size - 1 = (A : Int) := ⟨f.length + x.size - 1, by omega⟩
  simp only [hA] at hux
  have hr : (f.length : Int) + ((x.size + 1 : Nat) : Int) - 1 = ((f ++ x.flat f.length).length : Int) := by rw [List.length_append, Stile.W.flat_len]; omega
  have hfl : f ++ (W.n1 K x).flat f.length = (f ++ x.flat f.length) ++ [⟨K, (A : Int), 0⟩] := by rw [← hA]; simp [W.flat]
  have hib := ib_any K (by omega) (by omega)
  have hpt := fun W v' (hh : RrAt W b (L : Int) rest (f ++ x.flat f.length) v') => put_any b (L : Int) rest (f ++ x.flat f.length) v' ⟨K, (A : Int), 0⟩ W hh (by rw [List.length_append, Stile.W.flat_len]; omega)
  rw [hr, hfl]
  generalize f ++ x.flat f.length = F1 at *
  generalize F1.length = n1 at *
  have hs : ((signB K).toNat : Int) = 33 ∨ ((signB K).toNat : Int) = 88 ∨ ((signB K).toNat : Int) = 87 := by rcases hK with rfl | rfl | rfl <;> decide
  generalize ((signB K).toNat : Int) = c at *
  have HC := Lib.hid hc
  have HUX := Lib.hid hux
  have HIB := Lib.hid hib
  have HPT := Lib.hid hpt
  clear h hc hux hib hpt ht hsz hfl hlen hr hA hxp hx hK
  rcases hs with rfl | rfl | rfl
  all_goals
    go_enter Tryz.func71, Tryz.ntmps71
    go_wp2_with fail
    refine HC.out.mono ?_
    rintro e w1 ⟨rfl, h1, hg1⟩
    have HU := Lib.hid (HUX.out _ _ h1)
    have HG1 := Lib.hid hg1
    clear h1 hg1
    go_wp2_with fail
    refine HU.out.mono ?_
    rintro e w2 ⟨rfl, v2, h2, hg2⟩
    have HP := Lib.hid (HPT.out _ _ h2)
    have HG2 := Lib.hid (HG1.out.trans' hg2)
    clear h2 hg2
    go_wp2_with fail
    refine (HIB.out _).mono ?_
    rintro e w3 ⟨rfl, rfl⟩
    go_wp2_with fail
    refine HP.out.mono ?_
    rintro e w4 ⟨rfl, v4, h4, hg4⟩
    have H4 := Lib.hid h4
    have HG4 := Lib.hid (HG2.out.trans' hg4)
    clear h4 hg4
    go_wp2_with fail
    go_ret
    exact ⟨rfl, v4, H4.out, HG4.out⟩
set_option maxRecDepth 100000 in
set_option maxHeartbeats 1600000 in
theorem un_two (L : Nat) (x y : W) (K : Int) (hK : K = 4 ∨ K = 5 ∨ K = 8 ∨ K = 9) (hx : UnOk L x) (hy : UnOk L y) : UnOk L (.n2 K x y) := by
  intro b rest f v w h hlen
  have ht : (W.n2 K x y).txt ++ rest = 40 :: (x.txt ++ (signB K :: (y.txt ++ (41 :: rest)))) := by simp [W.txt]
  rw [ht] at h
  have hc := take_any b (L : Int) 40 _ f v w h
  rw [show ((40 : UInt8).toNat : Int) = 40 from rfl] at hc
  have hup := fun W v' (hh : RrAt W b (L : Int) (x.txt ++ (signB K :: (y.txt ++ (41 :: rest)))) f v') => upto_two L x y K hK hx hy b rest f v' W hh hlen
  have htk := fun W v' F (hh : RrAt W b (L : Int) (41 :: rest) F v') => take_any b (L : Int) 41 rest F v' W hh
  simp only [show ((41 : UInt8).toNat : Int) = 41 from rfl] at htk
  generalize (f.length : Int) + (W.n2 K x y).size - 1 = A at *
  generalize f ++ (W.n2 K x y).flat f.length = F3 at *
  have HC := Lib.hid hc
  have HUP := Lib.hid hup
  have HTK := Lib.hid htk
  clear h hc hup htk ht hlen hx hy hK
  go_enter Tryz.func71, Tryz.ntmps71
  go_wp2_with fail
  refine HC.out.mono ?_
  rintro e w1 ⟨rfl, h1, hg1⟩
  have HU := Lib.hid (HUP.out _ _ h1)
  have HG1 := Lib.hid hg1
  clear h1 hg1
  go_wp2_with fail
  refine HU.out.mono ?_
  rintro e w2 ⟨rfl, v2, h2, hg2⟩
  have HT := Lib.hid (HTK.out _ _ _ h2)
  have HG2 := Lib.hid (HG1.out.trans' hg2)
  clear h2 hg2
  go_wp2_with fail
  refine HT.out.mono ?_
  rintro e w4 ⟨rfl, h4, hg4⟩
  have H4 := Lib.hid h4
  have HG4 := Lib.hid (HG2.out.trans' hg4)
  clear h4 hg4
  go_wp2_with fail
  go_ret
  exact ⟨rfl, v2, H4.out, HG4.out⟩
theorem un_all (L : Nat) (hL : L ≤ 6) (m : Int) (hm : m ≤ 2 ^ L) : ∀ u : W, u.ok futK m → UnOk L u := by
  intro u
  have h64 : (2 : Nat) ^ L ≤ 2 ^ 6 := Nat.pow_le_pow_right (by decide) hL
  have hcast : ((2 : Int) ^ L) = ((2 ^ L : Nat) : Int) := by simp
  induction u with
  | n0 k s =>
    rintro ⟨h1, h2, h3, h4⟩
    by_cases h : k = 2
    · subst h
      obtain ⟨a0, a1⟩ := h3 rfl
      obtain ⟨s, rfl⟩ := Int.eq_ofNat_of_zero_le a0
      have : s < 2 ^ L := by rw [hcast] at hm; omega
      exact un_set L s hL (by omega) this
    · have : s = 0 := h4 h
      subst this
      exact un_leaf L k (by simp [leafK] at h2; omega)
  | n1 k x ih =>
    rintro ⟨h1, h2, h3⟩
    exact un_one L x k (by simp [oneK] at h2; simp [futK] at h1; omega) (ih h3)
  | n2 k x y ih1 ih2 =>
    rintro ⟨h1, h2, h3, h4⟩
    exact un_two L x y k (by simp [twoK] at h2; simp [futK] at h1; omega) (ih1 h3) (ih2 h4)
end Go.Proofs.YtccknopchddicaaGreatDoor
