/- contract: form's writer.node. -/
import Derived.Test.YtccknopchddicaaGreatDoorMGa
import Derived.Test.YtccknopchddicaaGreatDoorMGf
import Derived.Test.YtccknopchddicaaGreatDoorMM1
import Derived.Test.YtccknopchddicaaGreatDoorMU2
import Derived.Deep.RegionHeld3
set_option linter.unusedSimpArgs false
set_option linter.unusedVariables false
set_option linter.unnecessarySimpa false
namespace Go.Proofs.YtccknopchddicaaGreatDoor
open Go.RowKit Stile
theorem Grew.trans' {g E : Nat} {w w1 w2 : World} (h1 : Grew g E w w1) (h2 : Grew g E w1 w2) : Grew g E w w2 :=
  ⟨h1.below.trans h2.below, fun b t cs hb ht hne => by
    have e := h1.other b t cs hb ht hne
    exact (h2.other b t cs (e.trans hb) ht hne).trans e⟩
theorem Grew.made' {g E : Nat} {w w1 : World} {o : Obj} (hg : g < w.heap.size) (h : Grew g E (w.alloc o) w1) : Grew g E w w1 :=
  ⟨((Below.refl g w).alloc (by omega) o).trans h.below, fun b t cs hb ht hne => by
    have e := Below.heap_alloc w o b (lt_blk hb)
    exact (h.other b t cs (e.trans hb) ht hne).trans e⟩
theorem WrAt.made {w : World} {b : Nat} {fv : Value} {l : List UInt8} {p v : Value} (h : WrAt w b fv l p v) (o : Obj) : WrAt (w.alloc o) b fv l p v :=
  ⟨(Below.heap_alloc w o b (lt_blk h.blk)).trans h.blk, h.ptr, h.own.alloc o⟩
theorem WrAt.drew {w : World} {b : Nat} {fv : Value} {l : List UInt8} {p v : Value} (h : WrAt w b fv l p v) : WrAt w.drew b fv l p v := ⟨h.blk, h.ptr, h.own⟩
theorem Grew.undrew {g E : Nat} {w w1 : World} (h : Grew g E w.drew w1) : Grew g E w w1 := ⟨(Below.refl g w).drew.trans h.below, h.other⟩
def NodeOk (f : List Nd) (k : Nat) : Prop := ∀ (b : Nat) (fv p v : Value) (w : World) (l : List UInt8), WrAt w b fv l p v → RdN w b fv f → l.length + (getW (treesL f) (k : Int)).txt.length ≤ 5000 →
  Calls Tryz.prog 50 #[.pointer (some ⟨b, 0, none⟩), .int .i64 (k : Int)] w fun e w' => (∃ u, e = .returned u) ∧ ∃ p' v', WrAt w' b fv (l ++ (getW (treesL f) (k : Int)).txt) p' v' ∧ Grew b 5 w w'
set_option maxRecDepth 100000 in
set_option maxHeartbeats 1600000 in
theorem node_leaf (f : List Nd) (k : Nat) (hk : k < f.length) (K : Int) (hK : (nd f k).k = K) (hK2 : K = 0 ∨ K = 1) (ht : getW (treesL f) (k : Int) = .n0 K 0) : NodeOk f k := by
  intro b fv p v w l h hf hlen
  rw [ht] at hlen ⊢
  have htx : (W.n0 K 0).txt = [signB K] := by simp [W.txt]; omega
  rw [htx] at hlen ⊢
  simp at hlen
  obtain ⟨fb, fo, fc, rfl, hfc, hfb, hcell⟩ := hf.at_ (by omega)
  obtain ⟨c1, c2, c3⟩ := hcell k hk
  rw [hK] at c1
  generalize (nd f k).a = xa at *
  generalize (nd f k).b = xb at *
  have hfl := lt_of_cell c1
  have hbl := lt_blk h.blk
  have w2 := fld_cell h.blk 2
  simp at w2
  generalize f.length = fn at *
  have H := Lib.hid h
  have hp : partsP K = 0 := by rcases hK2 with rfl | rfl <;> rfl
  have HP := fun w => parts_any K w
  have hix : ∀ W, (Instr.index 9 (.string ⟨#[116, 102, 91, 33, 38, 124, 88, 87, 85, 82]⟩) (.int .i64 K)).run Tryz.prog W = .ok (.int .u8 ((signB K).toNat : Int)) W := fun W => by rcases hK2 with rfl | rfl <;> kernel_rfl
  have hne2 : (K == 2) = false := by rcases hK2 with rfl | rfl <;> rfl
  have hne2' : ¬ K = 2 := by omega
  simp only [hp] at HP
  have HHP := Lib.hid HP
  clear h hf hcell hp HP hK ht htx
  go_enter Tryz.func50, Tryz.ntmps50
  go_wp2_with fail
  refine (HHP.out _).mono ?_
  rintro e w' ⟨rfl, rfl⟩
  have hW0 := H.out.made (Obj.cells #[.int .i64 K, .int .i64 xa, .int .i64 xb] 71)
  have hX := heap_new w (Obj.cells #[.int .i64 K, .int .i64 xa, .int .i64 xb] 71)
  obtain ⟨W, hW⟩ : ∃ W, w.alloc (Obj.cells #[.int .i64 K, .int .i64 xa, .int .i64 xb] 71) = W := ⟨_, rfl⟩
  have hgW : ∀ w2, Grew b 5 W w2 → Grew b 5 w w2 := fun w2 h => Grew.made' hbl (by rw [hW]; exact h)
  rw [hW] at hW0 hX ⊢
  have x0 := fld_cell hX 0
  have xl := lt_blk hX
  simp at x0
  have HX := Lib.hid hX
  have HW0 := Lib.hid hW0
  have HGW := Lib.hid hgW
  clear hW hX hW0 hgW
  go_upto_region 8 with fail
  go_region_held3 (fun w' => w'.cell? ⟨w.heap.size, 0, none⟩ = some (.int .i64 K)) (first | assumption | exact x0)
    (first
      | (go_at_call 69; refine (wbyte_any b (signB K) _ rfl _ _ p v l HW0.out.drew (by omega)).mono ?_; rintro e w2 ⟨rfl, p2, v2, h2, hg2⟩; have hg2 := hg2.undrew; have hx2 := (hg2.other _ _ _ HX.out (by decide) (by omega)).trans HX.out; have hS2 := fld_cell hx2 0; simp at hS2; have hl2 := lt_blk hx2; have H2 := Lib.hid h2; have HG2 := Lib.hid hg2; clear h2 hg2 hx2))
  go_wp2_with fail
  exact bodyPost_ret (v := .tuple #[]) (by simp [results, Tryz.results50, go_sem]) rfl ⟨⟨_, rfl⟩, p2, v2, H2.out, HGW.out _ HG2.out⟩
set_option maxRecDepth 100000 in
set_option maxHeartbeats 1600000 in
theorem node_set (f : List Nd) (k : Nat) (hk : k < f.length) (s : Nat) (hK : (nd f k).k = 2) (hs : (nd f k).a = (s : Int)) (hs1 : s < 64) (ht : getW (treesL f) (k : Int) = .n0 2 (s : Int)) : NodeOk f k := by
  intro b fv p v w l h hf hlen
  rw [ht] at hlen ⊢
  have htx : (W.n0 2 (s : Int)).txt = 91 :: (setTxt (s : Int) 6 ++ [93]) := by simp [W.txt]
  rw [htx] at hlen ⊢
  simp at hlen
  obtain ⟨fb, fo, fc, rfl, hfc, hfb, hcell⟩ := hf.at_ (by omega)
  obtain ⟨c1, c2, c3⟩ := hcell k hk
  rw [hK] at c1
  rw [hs] at c2
  generalize (nd f k).b = xb at *
  have hfl := lt_of_cell c1
  have hbl := lt_blk h.blk
  have w2 := fld_cell h.blk 2
  simp at w2
  generalize f.length = fn at *
  have H := Lib.hid h
  have hp : partsP 2 = 0 := rfl
  have HP := fun w => parts_any 2 w
  have hix : ∀ W, (Instr.index 9 (.string ⟨#[116, 102, 91, 33, 38, 124, 88, 87, 85, 82]⟩) (.int .i64 2)).run Tryz.prog W = .ok (.int .u8 91) W := fun W => by kernel_rfl
  simp only [hp] at HP
  have HHP := Lib.hid HP
  clear h hf hcell hp HP hK hs ht htx
  go_enter Tryz.func50, Tryz.ntmps50
  go_wp2_with fail
  refine (HHP.out _).mono ?_
  rintro e w' ⟨rfl, rfl⟩
  have hW0 := H.out.made (Obj.cells #[.int .i64 2, .int .i64 (s : Int), .int .i64 xb] 71)
  have hX := heap_new w (Obj.cells #[.int .i64 2, .int .i64 (s : Int), .int .i64 xb] 71)
  obtain ⟨W, hW⟩ : ∃ W, w.alloc (Obj.cells #[.int .i64 2, .int .i64 (s : Int), .int .i64 xb] 71) = W := ⟨_, rfl⟩
  have hgW : ∀ w2, Grew b 5 W w2 → Grew b 5 w w2 := fun w2 h => Grew.made' hbl (by rw [hW]; exact h)
  rw [hW] at hW0 hX ⊢
  have x0 := fld_cell hX 0
  have xl := lt_blk hX
  simp at x0
  have HX := Lib.hid hX
  have HW0 := Lib.hid hW0
  have HGW := Lib.hid hgW
  clear hW hX hW0 hgW
  go_upto_region 8 with fail
  go_region_held3 (fun w' => w'.cell? ⟨w.heap.size, 0, none⟩ = some (.int .i64 2)) (first | assumption | exact x0)
    (first
      | (go_at_call 69; refine (wbyte_any b 91 _ rfl _ _ p v l HW0.out.drew (by omega)).mono ?_; rintro e w2 ⟨rfl, p2, v2, h2, hg2⟩; have hg2 := hg2.undrew; have hx2 := (hg2.other _ _ _ HX.out (by decide) (by omega)).trans HX.out; have hS2 := fld_cell hx2 0; simp at hS2; have hl2 := lt_blk hx2; have H2 := Lib.hid h2; have HG2 := Lib.hid hg2; have HX2 := Lib.hid hx2; clear h2 hg2 hx2))
  go_wp2_with fail
  go_loopw [51] (fun i wr => ∃ a : Nat, ∃ p' v' : Value, a ≤ 6 ∧ i = .int .i64 (a : Int) ∧ WrAt wr b (.slice (some ⟨fb, fo, none⟩) fn fc) (l ++ 91 :: setTxt (s : Int) a) p' v' ∧ Grew b 5 W wr ∧ wr.heap[w.heap.size]? = some (Obj.cells #[.int .i64 2, .int .i64 (s : Int), .int .i64 xb] 71)) (fun i _ => 6 - (intOf i).toNat)
  case atStart => exact ⟨0, p2, v2, by omega, rfl, by simpa [setTxt] using H2.out, HG2.out, HX2.out⟩
  case round =>
    obtain ⟨a, p3, v3, ha, rfl, h3, hg3, hx3⟩ := hrel
    obtain ⟨wo, rfl⟩ : ∃ wo : World, wo = wr := ⟨_, rfl⟩
    have hsl := setTxt_le (s : Int) a
    have y1 := fld_cell hx3 1
    have yl := lt_blk hx3
    simp at y1
    have H3 := Lib.hid h3
    have HG3 := Lib.hid hg3
    have HX3 := Lib.hid hx3
    clear h3 hg3 hx3
    by_cases hlt : a < 6
    · have hsu := setTxt_succ (s : Int) a
      have hib := isbit (s : Int) a (by omega) (by omega)
      have hbt : (s : Int).toNat.testBit a = bit (s : Int) (a : Int) := by simp [bit]
      rw [hbt] at hsu
      obtain ⟨q, hq⟩ : ∃ q, bit (s : Int) (a : Int) = q := ⟨_, rfl⟩
      rw [hq] at hib hsu
      have hdig : (48 + (a : Int)) = ((digB a).toNat : Int) := by
        have : a = 0 ∨ a = 1 ∨ a = 2 ∨ a = 3 ∨ a = 4 ∨ a = 5 := by omega
        rcases this with rfl | rfl | rfl | rfl | rfl | rfl <;> decide
      have hlw : (l ++ 91 :: setTxt (s : Int) a).length ≤ 100000 := by simp; omega
      have hcw := wbyte_any b (digB a) (48 + (a : Int)) hdig wo _ p3 v3 _ H3.out hlw
      have HCW := Lib.hid hcw
      have HSU := Lib.hid hsu
      clear hsu hbt hq hdig hcw hlw
      cases q
      · go_wp2_with fail
        go_roundw
        case rel => exact ⟨a + 1, p3, v3, by omega, by go_num, by rw [HSU.out]; simpa using H3.out, HG3.out, HX3.out⟩
        case measure => simp [intOf]; omega
      · go_upto_region 14 with fail
        go_wp2_with fail
        refine HCW.out.mono ?_
        rintro e w4 ⟨rfl, p4, v4, h4, hg4⟩
        have hx4 := (hg4.other _ _ _ HX3.out (by decide) (by omega)).trans HX3.out
        have H4 := Lib.hid h4
        have HG4 := Lib.hid (HG3.out.trans' hg4)
        have HX4 := Lib.hid hx4
        clear h4 hg4 hx4
        go_wp2_with fail
        go_roundw
        case rel => exact ⟨a + 1, p4, v4, by omega, by go_num, by rw [HSU.out]; simpa using H4.out, HG4.out, HX4.out⟩
        case measure => simp [intOf]; omega
    · have ha6 : a = 6 := by omega
      subst ha6
      have hlw : (l ++ 91 :: setTxt (s : Int) 6).length ≤ 100000 := by simp; omega
      have HCW := Lib.hid (wbyte_any b 93 93 rfl wo _ p3 v3 _ H3.out hlw)
      go_wp2_with fail
      refine HCW.out.mono ?_
      rintro e w4 ⟨rfl, p4, v4, h4, hg4⟩
      have H4 := Lib.hid h4
      have HG4 := Lib.hid (HG3.out.trans' hg4)
      clear h4 hg4
      go_wp2_with fail
      go_end0
      exact ⟨⟨_, rfl⟩, p4, v4, by simpa using H4.out, HGW.out _ HG4.out⟩
end Go.Proofs.YtccknopchddicaaGreatDoor
/- contract: form's writer.node, nodes of parts; all. -/
namespace Go.Proofs.YtccknopchddicaaGreatDoor
open Go.RowKit Stile
set_option maxRecDepth 100000 in
set_option maxHeartbeats 1600000 in
theorem node_one (f : List Nd) (k : Nat) (hk : k < f.length) (K : Int) (A : Nat) (hK : (nd f k).k = K) (hK2 : K = 3 ∨ K = 6 ∨ K = 7) (hA : (nd f k).a = (A : Int)) (ih : NodeOk f A) (ht : getW (treesL f) (k : Int) = .n1 K (getW (treesL f) (A : Int))) : NodeOk f k := by
  intro b fv p v w l h hf hlen
  rw [ht] at hlen ⊢
  unfold NodeOk at ih
  obtain ⟨T, hT⟩ : ∃ T, (getW (treesL f) (A : Int)).txt = T := ⟨_, rfl⟩
  have htx : (W.n1 K (getW (treesL f) (A : Int))).txt = signB K :: T := by simp [W.txt, hT]
  rw [htx] at hlen ⊢
  rw [hT] at ih
  simp at hlen
  have HIH := Lib.hid (fun p v w l h hw => ih b fv p v w l h hw)
  have hf' := hf
  obtain ⟨fb, fo, fc, rfl, hfc, hfb, hcell⟩ := hf.at_ (by omega)
  obtain ⟨c1, c2, c3⟩ := hcell k hk
  rw [hK] at c1
  rw [hA] at c2
  generalize (nd f k).b = xb at *
  have hfl := lt_of_cell c1
  have hbl := lt_blk h.blk
  have w2 := fld_cell h.blk 2
  simp at w2
  have hfr : ∀ w2, Below b w w2 → RdN w2 b (.slice (some ⟨fb, fo, none⟩) f.length fc) f := fun w2 hb => Rd.below hf' hb
  generalize hfn : f.length = fn at *
  have H := Lib.hid h
  have HFR := Lib.hid hfr
  have hp : partsP K = 1 := by rcases hK2 with rfl | rfl | rfl <;> rfl
  have HP := fun w => parts_any K w
  have hix : ∀ W, (Instr.index 9 (.string ⟨#[116, 102, 91, 33, 38, 124, 88, 87, 85, 82]⟩) (.int .i64 K)).run Tryz.prog W = .ok (.int .u8 ((signB K).toNat : Int)) W := fun W => by rcases hK2 with rfl | rfl | rfl <;> kernel_rfl
  simp only [hp] at HP
  have HHP := Lib.hid HP
  clear h hf hf' hcell hp HP hK ht htx hA hT ih hfr hfn
  go_enter Tryz.func50, Tryz.ntmps50
  go_wp2_with fail
  refine (HHP.out _).mono ?_
  rintro e w' ⟨rfl, rfl⟩
  have hW0 := H.out.made (Obj.cells #[.int .i64 K, .int .i64 (A : Int), .int .i64 xb] 71)
  have hX := heap_new w (Obj.cells #[.int .i64 K, .int .i64 (A : Int), .int .i64 xb] 71)
  obtain ⟨W, hW⟩ : ∃ W, w.alloc (Obj.cells #[.int .i64 K, .int .i64 (A : Int), .int .i64 xb] 71) = W := ⟨_, rfl⟩
  have hgW : ∀ w2, Grew b 5 W w2 → Grew b 5 w w2 := fun w2 h => Grew.made' hbl (by rw [hW]; exact h)
  rw [hW] at hW0 hX ⊢
  have x0 := fld_cell hX 0
  have xl := lt_blk hX
  simp at x0
  have HX := Lib.hid hX
  have HW0 := Lib.hid hW0
  have HGW := Lib.hid hgW
  clear hW hX hW0 hgW
  go_upto_region 18 with fail
  go_region_held3 (fun w' => w'.cell? ⟨w.heap.size, 0, none⟩ = some (.int .i64 K)) (first | assumption | exact x0)
    (first
      | (go_at_call 69; refine (wbyte_any b (signB K) _ rfl _ _ p v l HW0.out.drew (by omega)).mono ?_; rintro e w2 ⟨rfl, p2, v2, h2, hg2⟩; have hg2 := hg2.undrew; have hx2 := (hg2.other _ _ _ HX.out (by decide) (by omega)).trans HX.out; have hS2 := fld_cell hx2 0; have hS3 := fld_cell hx2 1; simp at hS2 hS3; have hl2 := lt_blk hx2; have H2 := Lib.hid h2; have HG2 := Lib.hid hg2; have HX2 := Lib.hid hx2; clear h2 hg2 hx2))
  have hlw : (l ++ [signB K]).length + T.length ≤ 5000 := by simp; omega
  have hG2 := HGW.out _ HG2.out
  have HC := Lib.hid (HIH.out p2 v2 w2 (l ++ [signB K]) H2.out (HFR.out w2 hG2.below) hlw)
  have HG2' := Lib.hid hG2
  clear hlw hG2
  go_wp2_with fail
  refine HC.out.mono ?_
  rintro e w3 ⟨⟨u, rfl⟩, p3, v3, h3, hg3⟩
  have H3 := Lib.hid h3
  have HG3 := Lib.hid (HG2'.out.trans' hg3)
  clear h3 hg3
  go_wp2_with fail
  go_end0
  exact ⟨⟨_, rfl⟩, p3, v3, by simpa using H3.out, HG3.out⟩
set_option maxRecDepth 100000 in
set_option maxHeartbeats 1600000 in
theorem node_two (f : List Nd) (k : Nat) (hk : k < f.length) (K : Int) (A B : Nat) (hK : (nd f k).k = K) (hK2 : K = 4 ∨ K = 5 ∨ K = 8 ∨ K = 9) (hA : (nd f k).a = (A : Int)) (hB : (nd f k).b = (B : Int)) (ih : NodeOk f A) (ih2 : NodeOk f B)
    (ht : getW (treesL f) (k : Int) = .n2 K (getW (treesL f) (A : Int)) (getW (treesL f) (B : Int))) : NodeOk f k := by
  intro b fv p v w l h hf hlen
  rw [ht] at hlen ⊢
  unfold NodeOk at ih ih2
  obtain ⟨T, hT⟩ : ∃ T, (getW (treesL f) (A : Int)).txt = T := ⟨_, rfl⟩
  obtain ⟨T2, hT2⟩ : ∃ T, (getW (treesL f) (B : Int)).txt = T := ⟨_, rfl⟩
  have htx : (W.n2 K (getW (treesL f) (A : Int)) (getW (treesL f) (B : Int))).txt = 40 :: (T ++ (signB K :: (T2 ++ [41]))) := by simp [W.txt, hT, hT2]
  rw [htx] at hlen ⊢
  rw [hT] at ih
  rw [hT2] at ih2
  simp at hlen
  have HIH := Lib.hid (fun p v w l h hw => ih b fv p v w l h hw)
  have HIH2 := Lib.hid (fun p v w l h hw => ih2 b fv p v w l h hw)
  have hf' := hf
  obtain ⟨fb, fo, fc, rfl, hfc, hfb, hcell⟩ := hf.at_ (by omega)
  obtain ⟨c1, c2, c3⟩ := hcell k hk
  rw [hK] at c1
  rw [hA] at c2
  rw [hB] at c3
  have hfl := lt_of_cell c1
  have hbl := lt_blk h.blk
  have w2 := fld_cell h.blk 2
  simp at w2
  have hfr : ∀ w2, Below b w w2 → RdN w2 b (.slice (some ⟨fb, fo, none⟩) f.length fc) f := fun w2 hb => Rd.below hf' hb
  generalize hfn : f.length = fn at *
  have H := Lib.hid h
  have HFR := Lib.hid hfr
  have hp : partsP K = 2 := by rcases hK2 with rfl | rfl | rfl | rfl <;> rfl
  have HP := fun w => parts_any K w
  have hix : ∀ W, (Instr.index 9 (.string ⟨#[116, 102, 91, 33, 38, 124, 88, 87, 85, 82]⟩) (.int .i64 K)).run Tryz.prog W = .ok (.int .u8 ((signB K).toNat : Int)) W := fun W => by rcases hK2 with rfl | rfl | rfl | rfl <;> kernel_rfl
  simp only [hp] at HP
  have HHP := Lib.hid HP
  clear h hf hf' hcell hp HP hK ht htx hA hB hT hT2 ih ih2 hfr hfn
  go_enter Tryz.func50, Tryz.ntmps50
  go_wp2_with fail
  refine (HHP.out _).mono ?_
  rintro e w' ⟨rfl, rfl⟩
  have hW0 := H.out.made (Obj.cells #[.int .i64 K, .int .i64 (A : Int), .int .i64 (B : Int)] 71)
  have hX := heap_new w (Obj.cells #[.int .i64 K, .int .i64 (A : Int), .int .i64 (B : Int)] 71)
  obtain ⟨W, hW⟩ : ∃ W, w.alloc (Obj.cells #[.int .i64 K, .int .i64 (A : Int), .int .i64 (B : Int)] 71) = W := ⟨_, rfl⟩
  have hgW : ∀ w2, Grew b 5 W w2 → Grew b 5 w w2 := fun w2 h => Grew.made' hbl (by rw [hW]; exact h)
  rw [hW] at hW0 hX ⊢
  have HX := Lib.hid hX
  have HGW := Lib.hid hgW
  have HCW := Lib.hid (wbyte_any b 40 40 rfl W _ p v l hW0 (by omega))
  clear hW hX hW0 hgW
  go_wp2_with fail
  refine HCW.out.mono ?_
  rintro e w2 ⟨rfl, p2, v2, h2, hg2⟩
  have hx2 := (hg2.other _ _ _ HX.out (by decide) (by omega)).trans HX.out
  have x1 := fld_cell hx2 1
  have xl := lt_blk hx2
  simp at x1
  have hG2 := HGW.out _ hg2
  have HC := Lib.hid (HIH.out p2 v2 w2 (l ++ [40]) h2 (HFR.out w2 hG2.below) (by simp; omega))
  have HG2 := Lib.hid hG2
  have HX2 := Lib.hid hx2
  clear h2 hg2 hx2 hG2
  go_wp2_with fail
  refine HC.out.mono ?_
  rintro e w3 ⟨⟨u, rfl⟩, p3, v3, h3, hg3⟩
  have hx3 := (hg3.other _ _ _ HX2.out (by decide) (by omega)).trans HX2.out
  clear x1 xl
  have x0 := fld_cell hx3 0
  have xl := lt_blk hx3
  simp at x0
  have hG3 := HG2.out.trans' hg3
  have HG3 := Lib.hid hG3
  have HX3 := Lib.hid hx3
  have H3 := Lib.hid h3
  clear h3 hg3 hx3 hG3
  go_upto_region 4 with fail
  go_region_held3 (fun w' => w'.cell? ⟨w.heap.size, 0, none⟩ = some (.int .i64 K)) (first | assumption | exact x0)
    (first
      | (go_at_call 69; refine (wbyte_any b (signB K) _ rfl _ _ p3 v3 _ H3.out.drew (by simp; omega)).mono ?_; rintro e w4 ⟨rfl, p4, v4, h4, hg4⟩; have hg4 := hg4.undrew; have hx4 := (hg4.other _ _ _ HX3.out (by decide) (by omega)).trans HX3.out; have hS2 := fld_cell hx4 0; have hS3 := fld_cell hx4 2; simp at hS2 hS3; have hl4 := lt_blk hx4; have H4 := Lib.hid h4; have HG4 := Lib.hid (HG3.out.trans' hg4); have HX4 := Lib.hid hx4; clear h4 hg4 hx4))
  have hlw : ((l ++ [40]) ++ T ++ [signB K]).length + T2.length ≤ 5000 := by simp; omega
  have HC2 := Lib.hid (HIH2.out p4 v4 w4 _ H4.out (HFR.out w4 HG4.out.below) hlw)
  clear hlw
  go_wp2_with fail
  refine HC2.out.mono ?_
  rintro e w5 ⟨⟨u, rfl⟩, p5, v5, h5, hg5⟩
  have HG5 := Lib.hid (HG4.out.trans' hg5)
  have HCW5 := Lib.hid (wbyte_any b 41 41 rfl w5 _ p5 v5 _ h5 (by simp; omega))
  clear h5 hg5
  go_wp2_with fail
  refine HCW5.out.mono ?_
  rintro e w6 ⟨rfl, p6, v6, h6, hg6⟩
  have H6 := Lib.hid h6
  have HG6 := Lib.hid (HG5.out.trans' hg6)
  clear h6 hg6
  go_wp2_with fail
  go_end0
  exact ⟨⟨_, rfl⟩, p6, v6, by simpa using H6.out, HG6.out⟩
theorem node_all (m : Int) (hm : m ≤ 64) (f : List Nd) (h : okF futK m f) : ∀ k, k < f.length → NodeOk f k := by
  intro k
  induction k using Nat.strongRecOn with
  | _ k ih =>
    intro hk
    have hn := okF_at h k hk
    have hg := getW_at (ks := futK) (m := m) (fun k hk => by simp [futK] at hk; simp [anyK]; omega) f h k hk
    obtain ⟨h1, h2, h3, h4⟩ := hn
    obtain ⟨K, hK⟩ : ∃ K, (nd f k).k = K := ⟨_, rfl⟩
    rw [hK] at h1 h2 h3 h4
    unfold mkW at hg
    rw [hK] at hg
    have hKs : K = 0 ∨ K = 1 ∨ K = 2 ∨ K = 3 ∨ K = 4 ∨ K = 5 ∨ K = 6 ∨ K = 7 ∨ K = 8 ∨ K = 9 := by simp [futK] at h1; omega
    by_cases hl : K = 0 ∨ K = 1
    · exact node_leaf f k hk K hK hl (by rw [hg]; rcases hl with rfl | rfl <;> rfl)
    · by_cases hs : K = 2
      · subst hs
        obtain ⟨_, hb, _⟩ := h2 rfl
        obtain ⟨a0, a1⟩ := hb rfl
        obtain ⟨s, hs⟩ := Int.eq_ofNat_of_zero_le a0
        exact node_set f k hk s hK hs (by omega) (by rw [hg, hs]; rfl)
      · by_cases ho : K = 3 ∨ K = 6 ∨ K = 7
        · have ho' : oneK K = true := by rcases ho with rfl | rfl | rfl <;> rfl
          obtain ⟨a0, a1, _⟩ := h3 ho'
          obtain ⟨A, hA⟩ := Int.eq_ofNat_of_zero_le a0
          exact node_one f k hk K A hK ho hA (ih A (by omega) (by omega)) (by rw [hg, hA]; rcases ho with rfl | rfl | rfl <;> rfl)
        · have ht : K = 4 ∨ K = 5 ∨ K = 8 ∨ K = 9 := by omega
          have ht' : twoK K = true := by rcases ht with rfl | rfl | rfl | rfl <;> rfl
          obtain ⟨a0, a1, b0, b1⟩ := h4 ht'
          obtain ⟨A, hA⟩ := Int.eq_ofNat_of_zero_le a0
          obtain ⟨B, hB⟩ := Int.eq_ofNat_of_zero_le b0
          exact node_two f k hk K A B hK ht hA hB (ih A (by omega) (by omega)) (ih B (by omega) (by omega)) (by rw [hg, hA, hB]; rcases ht with rfl | rfl | rfl | rfl <;> rfl)
end Go.Proofs.YtccknopchddicaaGreatDoor
/- contract: form.long. -/
namespace Go.Proofs.YtccknopchddicaaGreatDoor
open Go.RowKit Stile
def txtL (f : List Nd) (j : Nat) : Nat := (getW (treesL f) (j : Int)).txt.length
def lgV (TL : Nat → Nat) (k : Nat) (j : Nat) : Value := .int .i64 (if j < k then ((min (TL j) 301 : Nat) : Int) else 0)
def pcN (s : Nat) : Nat := (setTxt (s : Int) 6).length
theorem pc_step : ∀ s : Fin 64, 0 < s.val → pcN (s.val &&& (s.val - 1)) + 1 = pcN s.val ∧ (s.val &&& (s.val - 1)) < s.val := by decide +kernel
theorem pc_zero : pcN 0 = 0 := by decide
theorem lg_set {w : World} {b n k m : Nat} {TL : Nat → Nat} (h : w.rowIs b 3 n (lgV TL k)) (hm : m = min (TL k) 301) : (w.setCell ⟨b, k, none⟩ (.int .i64 (m : Int))).rowIs b 3 n (lgV TL (k + 1)) := by
  refine (h.set k _).congr fun j _ => ?_
  unfold lgV
  by_cases e : j = k
  · subst e; simp [hm]
  · rw [if_neg e]; congr 1
    by_cases e2 : j < k
    · rw [if_pos e2, if_pos (by omega)]
    · rw [if_neg e2, if_neg (by omega)]
theorem lg_set2 {w : World} {b n k : Nat} {u : Value} {TL : Nat → Nat} (h : w.rowIs b 3 n (lgV TL k)) {m : Int} (hm : m = ((min (TL k) 301 : Nat) : Int)) : ((w.setCell ⟨b, k, none⟩ u).setCell ⟨b, k, none⟩ (.int .i64 m)).rowIs b 3 n (lgV TL (k + 1)) := by
  refine (((h.set k u).set k _)).congr fun j _ => ?_
  unfold lgV
  by_cases e : j = k
  · subst e; simp [hm]
  · rw [if_neg e, if_neg e]; congr 1
    by_cases e2 : j < k
    · rw [if_pos e2, if_pos (by omega)]
    · rw [if_neg e2, if_neg (by omega)]
def lgX (TL : Nat → Nat) (k : Nat) (x : Int) (j : Nat) : Value := if j = k then .int .i64 x else lgV TL k j
theorem lgx_of {w : World} {b n k : Nat} {TL : Nat → Nat} (h : w.rowIs b 3 n (lgV TL k)) (x : Int) : (w.setCell ⟨b, k, none⟩ (.int .i64 x)).rowIs b 3 n (lgX TL k x) := h.set k _
theorem lgx_set {w : World} {b n k : Nat} {TL : Nat → Nat} {x : Int} (h : w.rowIs b 3 n (lgX TL k x)) (y : Int) : (w.setCell ⟨b, k, none⟩ (.int .i64 y)).rowIs b 3 n (lgX TL k y) := by
  refine (h.set k _).congr fun j _ => ?_
  unfold lgX
  by_cases e : j = k <;> simp [e]
theorem lgx_done {w : World} {b n k : Nat} {TL : Nat → Nat} {x : Int} (h : w.rowIs b 3 n (lgX TL k x)) (hx : x = ((min (TL k) 301 : Nat) : Int)) : w.rowIs b 3 n (lgV TL (k + 1)) := by
  refine h.congr fun j _ => ?_
  unfold lgX lgV
  by_cases e : j = k
  · subst e; simp [hx]
  · rw [if_neg e]; congr 1
    by_cases e2 : j < k
    · rw [if_pos e2, if_pos (by omega)]
    · rw [if_neg e2, if_neg (by omega)]
theorem long_kind {m : Int} (hm : m ≤ 64) {f : List Nd} (h : okF futK m f) (k : Nat) (hk : k < f.length) :
    (((nd f k).k = 0 ∨ (nd f k).k = 1) ∧ txtL f k = 1) ∨ ((nd f k).k = 2 ∧ ∃ s : Nat, (nd f k).a = (s : Int) ∧ s < 64 ∧ txtL f k = 2 + pcN s) ∨
    (((nd f k).k = 3 ∨ (nd f k).k = 6 ∨ (nd f k).k = 7) ∧ ∃ A : Nat, (nd f k).a = (A : Int) ∧ A < k ∧ txtL f k = txtL f A + 1) ∨
    (((nd f k).k = 4 ∨ (nd f k).k = 5 ∨ (nd f k).k = 8 ∨ (nd f k).k = 9) ∧ ∃ A B : Nat, (nd f k).a = (A : Int) ∧ (nd f k).b = (B : Int) ∧ A < k ∧ B < k ∧ txtL f k = txtL f A + txtL f B + 3) := by
  have hn := okF_at h k hk
  have hg := getW_at (ks := futK) (m := m) (fun k hk => by simp [futK] at hk; simp [anyK]; omega) f h k hk
  obtain ⟨h1, h2, h3, h4⟩ := hn
  obtain ⟨K, hK⟩ : ∃ K, (nd f k).k = K := ⟨_, rfl⟩
  unfold mkW at hg
  rw [hK] at h1 h2 h3 h4 hg ⊢
  have hKs : K = 0 ∨ K = 1 ∨ K = 2 ∨ K = 3 ∨ K = 4 ∨ K = 5 ∨ K = 6 ∨ K = 7 ∨ K = 8 ∨ K = 9 := by simp [futK] at h1; omega
  by_cases hl : K = 0 ∨ K = 1
  · refine .inl ⟨hl, ?_⟩
    unfold txtL; rw [hg]
    rcases hl with rfl | rfl <;> rfl
  · by_cases hs : K = 2
    · subst hs
      obtain ⟨_, hb, _⟩ := h2 rfl
      obtain ⟨a0, a1⟩ := hb rfl
      obtain ⟨s, hs⟩ := Int.eq_ofNat_of_zero_le a0
      refine .inr (.inl ⟨rfl, s, hs, by omega, ?_⟩)
      unfold txtL; rw [hg, hs]
      simp [leafK, W.txt, pcN]; omega
    · by_cases ho : K = 3 ∨ K = 6 ∨ K = 7
      · have ho' : oneK K = true := by rcases ho with rfl | rfl | rfl <;> rfl
        obtain ⟨a0, a1, _⟩ := h3 ho'
        obtain ⟨A, hA⟩ := Int.eq_ofNat_of_zero_le a0
        refine .inr (.inr (.inl ⟨ho, A, hA, by omega, ?_⟩))
        unfold txtL; rw [hg, hA]
        rcases ho with rfl | rfl | rfl <;> simp [leafK, oneK, W.txt]
      · have ht : K = 4 ∨ K = 5 ∨ K = 8 ∨ K = 9 := by omega
        have ht' : twoK K = true := by rcases ht with rfl | rfl | rfl | rfl <;> rfl
        obtain ⟨a0, a1, b0, b1⟩ := h4 ht'
        obtain ⟨A, hA⟩ := Int.eq_ofNat_of_zero_le a0
        obtain ⟨B, hB⟩ := Int.eq_ofNat_of_zero_le b0
        refine .inr (.inr (.inr ⟨ht, A, B, hA, hB, by omega, by omega, ?_⟩))
        unfold txtL; rw [hg, hA, hB]
        rcases ht with rfl | rfl | rfl | rfl <;> simp [leafK, oneK, W.txt] <;> omega
def cellN (b k : Nat) (w : World) : Nat := match w.cell? ⟨b, k, none⟩ with | some v => (intOf v).toNat | none => 0
theorem cellN_at {b k : Nat} {w : World} {n : Nat} (h : w.cell? ⟨b, k, none⟩ = some (.int .i64 (n : Int))) : cellN b k w = n := by simp [cellN, h, intOf]
set_option maxRecDepth 100000 in
set_option maxHeartbeats 3200000 in
theorem long_any (m : Int) (hm : m ≤ 64) (fv : Value) (f : List Nd) (w : World) (hf : RdN w w.heap.size fv f) (hok : okF futK m f) (hn0 : 0 < f.length) (hn : f.length ≤ 40) :
    Calls Tryz.prog 49 #[fv] w fun e w' => ∃ v', e = .returned v' ∧ RdI w' w'.heap.size v' ((List.range f.length).map fun j => ((min (txtL f j) 301 : Nat) : Int)) ∧ Below w.heap.size w w' := by
  have hkd := long_kind hm hok
  obtain ⟨fb, fo, fc, rfl, hfc, hfb, hcell⟩ := hf.at_ hn0
  have hmk := fun w => run_make_row' (P := Tryz.prog) 23 3 (.int .i64 0) 8 Tryz.underlying23 info_int rfl .i64 .i64 f.length (by omega) (by omega) w
  obtain ⟨TL, hTL⟩ : ∃ TL, txtL f = TL := ⟨_, rfl⟩
  rw [hTL] at hkd
  have hend : ∀ W, W.rowIs w.heap.size 3 f.length (lgV TL f.length) → RdI W W.heap.size (.slice (some ⟨w.heap.size, 0, none⟩) f.length f.length) ((List.range f.length).map fun j => ((min (txtL f j) 301 : Nat) : Int)) := fun W hW => by
    have hl : ((List.range f.length).map fun j => ((min (txtL f j) 301 : Nat) : Int)).length = f.length := by simp
    unfold RdI
    rw [hl]
    refine Rd.of_rowIs (hW.congr fun j hj => ?_) hW.lt
    rw [hTL]
    simp [lgV, ints, hj, List.getD]
  generalize hRL : (List.range f.length).map (fun j => ((min (txtL f j) 301 : Nat) : Int)) = RL at *
  have hkd : ∀ k, k < f.length → ∃ K a b : Int, (w.cell? ⟨fb, fo + k * 3, none⟩ = some (.int .i64 K) ∧ w.cell? ⟨fb, fo + k * 3 + 1, none⟩ = some (.int .i64 a) ∧ w.cell? ⟨fb, fo + k * 3 + 2, none⟩ = some (.int .i64 b)) ∧
      (((K = 0 ∨ K = 1) ∧ TL k = 1) ∨ (K = 2 ∧ ∃ s : Nat, a = (s : Int) ∧ s < 64 ∧ TL k = 2 + pcN s) ∨ ((K = 3 ∨ K = 6 ∨ K = 7) ∧ ∃ A : Nat, a = (A : Int) ∧ A < k ∧ TL k = TL A + 1) ∨
        ((K = 4 ∨ K = 5 ∨ K = 8 ∨ K = 9) ∧ ∃ A B : Nat, a = (A : Int) ∧ b = (B : Int) ∧ A < k ∧ B < k ∧ TL k = TL A + TL B + 3)) := fun k hk => ⟨_, _, _, hcell k hk, hkd k hk⟩
  generalize hfn : f.length = n at *
  have HKD := Lib.hid hkd
  have HEND := Lib.hid hend
  clear hf hok hcell hTL hend hRL hfn hkd
  go_enter Tryz.func49, Tryz.ntmps49
  go_wp2_with fail
  go_loopw [11] (fun i wr => ∃ k : Nat, k ≤ n ∧ i = .int .i64 (k : Int) ∧ Below w.heap.size w wr ∧ wr.rowIs w.heap.size 3 n (lgV TL k)) (fun i _ => n - (intOf i).toNat)
  case atStart => exact ⟨0, by omega, rfl, (Below.refl _ _).alloc (Nat.le_refl _) _, (World.rowIs_made _ _ _ _).congr fun j _ => by simp [lgV]⟩
  case round =>
    obtain ⟨k, hk, rfl, hB, hR⟩ := hrel
    clear hmk
    obtain ⟨wo, rfl⟩ : ∃ wo : World, wo = wr := ⟨_, rfl⟩
    by_cases hlt : k < n
    · obtain ⟨K, xa, xb, ⟨c1, c2, c3⟩, hcase⟩ := HKD.out k hlt
      rw [← hB.cell (p := ⟨fb, fo + k*3, none⟩) hfb] at c1
      rw [← hB.cell (p := ⟨fb, fo + k*3+1, none⟩) hfb] at c2
      rw [← hB.cell (p := ⟨fb, fo + k*3+2, none⟩) hfb] at c3
      have hfl := lt_of_cell c1
      have hrc := hR.cell hlt
      have hrf := hR.frozen k
      have hrl := hR.lt
      have HB2 := Lib.hid (show ∀ (u v : Value) (o : Obj), Below w.heap.size w (((wo.setCell ⟨w.heap.size, k, none⟩ u).setCell ⟨w.heap.size, k, none⟩ v).alloc o) from fun u v o => ((hB.setCell (Nat.le_refl _) _).setCell (Nat.le_refl _) _).alloc (by have := hB.size; simpa using this) _)
      rcases hcase with ⟨hK, hT⟩ | ⟨hK, s, rfl, hs, hT⟩ | ⟨hK, A, rfl, hA, hT⟩ | ⟨hK, A, B, rfl, rfl, hA, hB2, hT⟩
      · have hp : partsP K = 0 := by rcases hK with rfl | rfl <;> rfl
        have HP := fun w => parts_any K w
        simp only [hp] at HP
        have hK2 : (K == 2) = false := by rcases hK with rfl | rfl <;> rfl
        have hK3 : ¬ K = 2 := by omega
        have HS := Lib.hid (fun u : Value => lg_set2 (k := k) (m := 1) (u := u) hR (by rw [hT]; rfl))
        have HHP := Lib.hid HP
        clear hB hR hp HP hT hK
        go_wp2_with fail
        refine (HHP.out _).mono ?_
        rintro e w' ⟨rfl, rfl⟩
        go_wp2_with fail
        go_roundw
        case rel => exact ⟨k + 1, by omega, by go_num, HB2.out _ _ _, (HS.out _).alloc _⟩
        case measure => simp [intOf]; omega
      · subst hK
        have HP := fun w => parts_any 2 w
        simp only [show partsP 2 = 0 from rfl] at HP
        have hX2 := lgx_set (lgx_of hR 1) 2
        have HHP := Lib.hid HP
        have HT := Lib.hid hT
        have HBO := Lib.hid hB
        have hwz := hB.size
        clear hR HP hT hB
        go_wp2_with fail
        refine (HHP.out _).mono ?_
        rintro e w' ⟨rfl, rfl⟩
        go_wp2_with fail
        have hbw := HB2.out (.int .i64 1) (.int .i64 2) (Obj.cells #[.int .i64 2, .int .i64 (s : Int), .int .i64 xb] 71)
        have hrw := hX2.alloc (Obj.cells #[.int .i64 2, .int .i64 (s : Int), .int .i64 xb] 71)
        have hnw := heap_new ((wo.setCell ⟨w.heap.size, k, none⟩ (.int .i64 1)).setCell ⟨w.heap.size, k, none⟩ (.int .i64 2)) (Obj.cells #[.int .i64 2, .int .i64 (s : Int), .int .i64 xb] 71)
        rw [show ((wo.setCell ⟨w.heap.size, k, none⟩ (.int .i64 1)).setCell ⟨w.heap.size, k, none⟩ (.int .i64 2)).heap.size = wo.heap.size by simp] at hnw
        generalize (((wo.setCell ⟨w.heap.size, k, none⟩ (.int .i64 1)).setCell ⟨w.heap.size, k, none⟩ (.int .i64 2)).alloc (Obj.cells #[.int .i64 2, .int .i64 (s : Int), .int .i64 xb] 71)) = W1 at *
        have HBW := Lib.hid hbw
        have HRW := Lib.hid hrw
        have HNW := Lib.hid hnw
        clear hbw hrw hnw hX2
        go_loopw [47] (fun c wr => ∃ s' : Nat, s' < 64 ∧ pcN s' ≤ pcN s ∧ Below w.heap.size w wr ∧ wr.rowIs w.heap.size 3 n (lgX TL k ((2 + pcN s - pcN s' : Nat) : Int)) ∧ wr.heap[wo.heap.size]? = some (Obj.cells #[.int .i64 2, .int .i64 (s' : Int), .int .i64 xb] 71)) (fun _ wr => cellN wo.heap.size 1 wr)
        case atStart => exact ⟨s, hs, Nat.le_refl _, HBW.out, by have := HRW.out; simpa using this, HNW.out⟩
        case round =>
          obtain ⟨s', hs', hpc, hB, hR, hN⟩ := hrel
          obtain ⟨wq, rfl⟩ : ∃ wq : World, wq = wr := ⟨_, rfl⟩
          have n1 := fld_cell hN 1
          have nf := fld_frozen hN 1
          have nl := lt_blk hN
          simp at n1
          have hcN := cellN_at n1
          have rk := hR.cell hlt
          have rf := hR.frozen k
          have rl := hR.lt
          have rk' : wq.cell? ⟨w.heap.size, k, none⟩ = some (.int .i64 ((2 + pcN s - pcN s' : Nat) : Int)) := by rw [rk]; simp [lgX]
          clear rk
          have hpc6 : pcN s ≤ 6 := setTxt_le _ 6
          by_cases h0 : 0 < s'
          · obtain ⟨hp1, hp2⟩ := pc_step ⟨s', hs'⟩ h0
            simp only at hp1 hp2
            have hand := i64_and_nat s' (s' - 1) (by omega) (by omega)
            rw [show ((s' - 1 : Nat) : Int) = (s' : Int) - 1 by omega] at hand
            obtain ⟨s2, hs2⟩ : ∃ s2, s' &&& (s' - 1) = s2 := ⟨_, rfl⟩
            rw [hs2] at hp1 hp2 hand
            have hval : (((2 + pcN s - pcN s' : Nat) : Int) + 1) = ((2 + pcN s - pcN s2 : Nat) : Int) := by omega
            obtain ⟨V, hV⟩ : ∃ V : Nat, 2 + pcN s - pcN s' = V := ⟨_, rfl⟩
            have hV9 : V ≤ 9 := by omega
            rw [hV] at hval rk'
            have hset := lgx_set hR (((2 + pcN s - pcN s2 : Nat) : Int))
            rw [← hval] at hset
            have HSET := Lib.hid hset
            have HB := Lib.hid hB
            have HN := Lib.hid hN
            have HV := Lib.hid hval
            have HP1 := Lib.hid hp1
            clear hset hB hN hval hR hV hp1 hs2
            have hw12 : w.heap.size ≠ wo.heap.size := by omega
            go_wp2_with fail
            have hN2 : ((wq.setCell ⟨w.heap.size, k, none⟩ (.int .i64 ((V : Int) + 1))).setCell ⟨wo.heap.size, 1, none⟩ (.int .i64 (s2 : Int))).heap[wo.heap.size]? = some (Obj.cells #[.int .i64 2, .int .i64 (s2 : Int), .int .i64 xb] 71) := by
              have := fld_set ((Below.heap_setCell wq ⟨w.heap.size, k, none⟩ (.int .i64 ((V : Int) + 1)) wo.heap.size (by dsimp only; omega)).trans HN.out) 1 (.int .i64 (s2 : Int))
              simpa using this
            have hB2 : Below w.heap.size w ((wq.setCell ⟨w.heap.size, k, none⟩ (.int .i64 ((V : Int) + 1))).setCell ⟨wo.heap.size, 1, none⟩ (.int .i64 (s2 : Int))) := (HB.out.setCell (Nat.le_refl _) _).setCell (by dsimp only; omega) _
            have hR2 := HSET.out.setOther (a := ⟨wo.heap.size, 1, none⟩) (by dsimp only; omega) (.int .i64 (s2 : Int))
            have hm2 := cellN_at (k := 1) (n := s2) (by have := fld_cell hN2 1; simpa using this)
            go_roundw
            case rel => exact ⟨s2, by omega, by have := HP1.out; omega, hB2, by rw [← HV.out]; exact hR2, hN2⟩
            case measure => rw [hm2, hcN]; exact hp2
          · have hs0 : s' = 0 := by omega
            subst hs0
            obtain ⟨V, hV⟩ : ∃ V : Nat, 2 + pcN s - pcN 0 = V := ⟨_, rfl⟩
            have hVT : V = min (TL k) 301 := by have := HT.out; have := pc_zero; omega
            have hV9 : V ≤ 9 := by omega
            have hb3 : (decide ((301 : Int) < (V : Int))) = false := by simp; omega
            rw [hV] at rk' hR
            have HDN := Lib.hid (lgx_done (lgx_set hR (V : Int)) (by rw [hVT]))
            have HB := Lib.hid (hB.setCell (p := ⟨w.heap.size, k, none⟩) (Nat.le_refl _) (.int .i64 (V : Int)))
            clear hV hR hB hN hVT
            go_wp2_with fail
            go_roundw
            case rel => exact ⟨k + 1, by omega, by go_num, HB.out, HDN.out⟩
            case measure => simp [intOf]; omega
      · have hp : partsP K = 1 := by rcases hK with rfl | rfl | rfl <;> rfl
        have HP := fun w => parts_any K w
        simp only [hp] at HP
        have ca := hR.cell (i := A) (by omega)
        unfold lgV at ca
        rw [if_pos hA] at ca
        obtain ⟨LA, hLA⟩ : ∃ LA, min (TL A) 301 = LA := ⟨_, rfl⟩
        rw [hLA] at ca
        have hLA2 : LA ≤ 301 := by omega
        have hmn : min (LA + 1) 301 = min (TL k) 301 := by omega
        have HMN := Lib.hid hmn
        have HS := Lib.hid (fun (u : Value) (x : Int) (hx : x = ((min (TL k) 301 : Nat) : Int)) => lg_set2 (k := k) (u := u) hR hx)
        have HHP := Lib.hid HP
        clear hB hR hp HP hT hK hLA hmn
        go_wp2_with fail
        refine (HHP.out _).mono ?_
        rintro e w' ⟨rfl, rfl⟩
        go_wp2_with fail
        go_roundw
        case rel => exact ⟨k + 1, by omega, by go_num, HB2.out _ _ _, (HS.out _ _ (by have := HMN.out; split <;> omega)).alloc _⟩
        case measure => simp [intOf]; omega
      · have hp : partsP K = 2 := by rcases hK with rfl | rfl | rfl | rfl <;> rfl
        have HP := fun w => parts_any K w
        simp only [hp] at HP
        have ca := hR.cell (i := A) (by omega)
        have cb := hR.cell (i := B) (by omega)
        unfold lgV at ca cb
        rw [if_pos hA] at ca
        rw [if_pos hB2] at cb
        obtain ⟨LA, hLA⟩ : ∃ LA, min (TL A) 301 = LA := ⟨_, rfl⟩
        obtain ⟨LB, hLB⟩ : ∃ LB, min (TL B) 301 = LB := ⟨_, rfl⟩
        rw [hLA] at ca
        rw [hLB] at cb
        have hLA2 : LA ≤ 301 := by omega
        have hLB2 : LB ≤ 301 := by omega
        have hmn : min (LA + LB + 3) 301 = min (TL k) 301 := by omega
        have HMN := Lib.hid hmn
        have HS := Lib.hid (fun (u : Value) (x : Int) (hx : x = ((min (TL k) 301 : Nat) : Int)) => lg_set2 (k := k) (u := u) hR hx)
        have HHP := Lib.hid HP
        clear hB hR hp HP hT hK hLA hLB hmn
        go_wp2_with fail
        refine (HHP.out _).mono ?_
        rintro e w' ⟨rfl, rfl⟩
        have s1 : IntKind.i64.wrap ((LA : Int) + (LB : Int)) = (LA : Int) + (LB : Int) := IntWalk.i64_in _ (by omega)
        have s2 : IntKind.i64.wrap ((LA : Int) + (LB : Int) + 3) = (LA : Int) + (LB : Int) + 3 := IntWalk.i64_in _ (by omega)
        go_upto_region 6 with fail
        go_region
        go_wp2_with fail
        go_roundw
        case rel => exact ⟨k + 1, by omega, by go_num, (HB2.out _ _ _).drew, ((HS.out _ _ (by have := HMN.out; split <;> omega)).alloc _).of_block rfl⟩
        case measure => simp [intOf]; omega
    · have hkn : k = n := by omega
      subst hkn
      have HE := Lib.hid (HEND.out _ hR)
      have HB := Lib.hid hB
      clear hR hB
      go_wp2_with fail
      go_ret
      exact ⟨_, rfl, HE.out, HB.out⟩
end Go.Proofs.YtccknopchddicaaGreatDoor
/- contract: form.Write. -/
namespace Go.Proofs.YtccknopchddicaaGreatDoor
open Go.RowKit Stile
def txtF (f : List Nd) : List UInt8 := (tree f).txt
theorem txtF_eq (f : List Nd) (h : 0 < f.length) : (getW (treesL f) ((f.length - 1 : Nat) : Int)).txt = txtF f := by
  unfold txtF tree
  rw [show ((f.length - 1 : Nat) : Int) = (f.length : Int) - 1 by omega]
set_option maxRecDepth 100000 in
set_option maxHeartbeats 1600000 in
theorem write_any (L : Int) (fv : Value) (f : List Nd) (w : World) (hf : RdN w w.heap.size fv f) (hc : checkP L (setsOf L) f = 0) :
    Calls Tryz.prog 40 #[.int .i64 L, fv] w fun e w' => (e = .returned (.tuple #[.string ⟨if 300 < (txtF f).length then #[] else (txtF f).toArray⟩, if 300 < (txtF f).length then errV 4 else .nilIface])) ∧ Below w.heap.size w w' := by
  obtain ⟨hL, h0, hn, hok⟩ := checkP_ok.1 hc
  have hM := (setsOf_le hL.1 hL.2).2
  have H1 := fcheck_all L fv f w hf
  rw [hc, errV_zero] at H1
  have H2 := fun W hb => long_any (setsOf L) hM fv f W (Rd.mono (Rd.below hf hb) hb.size) hok h0 hn
  have hnode := node_all (setsOf L) hM f hok (f.length - 1) (by omega)
  unfold NodeOk at hnode
  rw [txtF_eq f h0] at hnode
  have htl : txtL f (f.length - 1) = (txtF f).length := by unfold txtL; rw [txtF_eq f h0]
  have htne : txtF f ≠ [] := by
    unfold txtF
    cases tree f with
    | n0 k s => unfold W.txt; split <;> simp
    | n1 k x => simp [W.txt]
    | n2 k x y => simp [W.txt]
  generalize hT : txtF f = T at *
  have hlong : ∀ W v', RdI W W.heap.size v' ((List.range f.length).map fun j => ((min (txtL f j) 301 : Nat) : Int)) → ∃ b off c, v' = .slice (some ⟨b, off, none⟩) f.length c ∧ f.length ≤ c ∧ b < W.heap.size ∧ W.cell? ⟨b, off + (f.length - 1), none⟩ = some (.int .i64 ((min T.length 301 : Nat) : Int)) := fun W v' h => by
    have hl : ((List.range f.length).map fun j => ((min (txtL f j) 301 : Nat) : Int)).length = f.length := by simp
    unfold RdI at h
    rw [hl] at h
    obtain ⟨b, off, c, e1, e2, e3, e4⟩ := Rd.at1 h h0
    refine ⟨b, off, c, e1, e2, e3, ?_⟩
    rw [e4 _ (by omega)]
    have hlt : f.length - 1 < f.length := by omega
    simp [ints, List.getD, List.getElem?_range hlt, htl]
  obtain ⟨RS, hRS⟩ : ∃ RS, (⟨if 300 < T.length then #[] else T.toArray⟩ : ByteArray) = RS := ⟨_, rfl⟩
  obtain ⟨RE, hRE⟩ : ∃ RE, (if 300 < T.length then errV 4 else .nilIface) = RE := ⟨_, rfl⟩
  rw [hRS, hRE]
  have HRS := Lib.hid hRS
  have HRE := Lib.hid hRE
  have HH1 := Lib.hid H1
  have HH2 := Lib.hid H2
  have HND := Lib.hid (fun b p v w l h hf hl => hnode b fv p v w l h hf hl)
  have HLG := Lib.hid hlong
  have HF := Lib.hid hf
  obtain ⟨fA, fc, rfl, hfc, _⟩ := id hf
  generalize hfn : f.length = n at *
  clear H1 H2 hnode hlong hf hok hc hT hfn htl hRS hRE
  go_enter Tryz.func40, Tryz.ntmps40
  go_wp2_with fail
  refine HH1.out.mono ?_
  rintro e w1 ⟨rfl, hb1⟩
  have HB1 := Lib.hid hb1
  clear hb1
  go_wp2_with fail
  refine (HH2.out _ HB1.out).mono ?_
  rintro e w2 ⟨v2, rfl, hr2, hb2⟩
  obtain ⟨lb, lo, lc, rfl, hlc, hlb, hlcell⟩ := HLG.out w2 v2 hr2
  have hB2 := HB1.out.trans (hb2.mono HB1.out.size)
  have HB2 := Lib.hid hB2
  obtain ⟨M, hM⟩ : ∃ M, min T.length 301 = M := ⟨_, rfl⟩
  rw [hM] at hlcell
  have hcast : ((n : Int) - 1).toNat = n - 1 := by omega
  have hw1 : IntKind.i64.wrap ((n : Int) - 1) = (n : Int) - 1 := IntWalk.i64_in _ (by omega)
  clear hr2 hb2 hB2
  by_cases hbig : 300 < T.length
  · have hb3 : decide ((300 : Int) < (M : Int)) = true := by simp; omega
    clear hM
    go_wp2_with fail
    go_ret2
    refine ⟨?_, HB2.out⟩
    rw [← HRS.out, ← HRE.out, if_pos hbig, if_pos hbig]
    rfl
  · have hb3 : decide ((300 : Int) < (M : Int)) = false := by simp; omega
    clear hM
    have hw0 : WrAt (w2.alloc (Obj.cells #[.pointer none, .slice none 0 0, .slice fA n fc] 82)) w2.heap.size (.slice fA n fc) [] (.pointer none) (.slice none 0 0) :=
      ⟨heap_new _ _, .inl rfl, World.ownsRow_nil _ _ _ _⟩
    have hfr := Rd.mono (Rd.below HF.out (HB2.out.alloc HB2.out.size (Obj.cells #[.pointer none, .slice none 0 0, .slice fA n fc] 82))) HB2.out.size
    have hnd := HND.out _ _ _ _ _ hw0 hfr (by simp; omega)
    rw [show ((n - 1 : Nat) : Int) = (n : Int) - 1 by omega] at hnd
    have HN := Lib.hid hnd
    clear hnd hfr hw0
    go_wp2_with fail
    refine HN.out.mono ?_
    rintro e w3 ⟨⟨u, rfl⟩, p3, v3, h3, hg3⟩
    have hbs := bstring_any _ w3 _ _ _ _ h3 (by simpa using htne)
    have hb3' : Below w.heap.size w w3 := HB2.out.trans ((up_alloc1 w2 _).trans (hg3.below) |>.mono HB2.out.size)
    have hbl3 := lt_blk h3.blk
    have HBS := Lib.hid hbs
    have HB3 := Lib.hid hb3'
    have hsz3 := HB2.out.size
    clear h3 hg3 hbs hb3'
    go_wp2_with fail
    refine HBS.out.mono ?_
    rintro e w4 ⟨rfl, hb4⟩
    have HB4 := Lib.hid (HB3.out.trans (hb4.mono hsz3))
    clear hb4
    go_wp2_with fail
    go_ret2
    refine ⟨?_, HB4.out⟩
    rw [← HRS.out, ← HRE.out, if_neg hbig, if_neg hbig]
    simp
end Go.Proofs.YtccknopchddicaaGreatDoor
