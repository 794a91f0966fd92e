/- contracts: strings.Builder's WriteByte within form.writer. -/
import Derived.Test.YtccknopchddicaaGreatDoorMGh
import Derived.Lib.Builder
import Derived.Lib.UnsafeStr
set_option linter.unusedSimpArgs false
set_option linter.unusedVariables false
set_option linter.unnecessarySimpa false
namespace Go.Proofs.YtccknopchddicaaGreatDoor
open Go.RowKit Stile
theorem info_u8 : (Tryz.prog.info? 5).map (fun i => (i.zero, i.size, i.bytes)) = some (some (.int .u8 0), 1, 1) := by kernel_rfl
theorem size_bld : (Tryz.prog.info? 80).map (fun i => i.size) = some 2 := by kernel_rfl
theorem lies_bld : liesAt Tryz.prog Tryz.prog.depth 82 (3 / Tryz.prog.cellsOf 82) 0 80 1 = true := by kernel_rfl
/-- a writer in block b that holds the bytes l -/
structure WrAt (w : World) (b : Nat) (fv : Value) (l : List UInt8) (p v : Value) : Prop where
  blk : w.heap[b]? = some (Obj.cells #[p, v, fv] 82)
  ptr : p = .pointer none ∨ p = .pointer (some ⟨b, 0, none⟩)
  own : w.ownsRow b 5 1 v l.length (Lib.byteCells l)
set_option maxRecDepth 100000 in
set_option maxHeartbeats 800000 in
theorem ccheck_used (b : Nat) (w : World) (v fv : Value) (h : w.heap[b]? = some (Obj.cells #[.pointer (some ⟨b, 0, none⟩), v, fv] 82)) :
    Calls Tryz.prog 94 #[.pointer (some ⟨b, 0, none⟩)] w fun e w' => (∃ u, e = .returned u) ∧ w' = w := by
  obtain ⟨j, hj, _⟩ := Option.map_eq_some_iff.1 size_bld
  have h0 := fld_cell h 0
  have hbl := lt_blk h
  simp at h0
  go_enter Tryz.func94, Tryz.ntmps94
  go_wp2
  rw [Lib.run_neq_ptr_same w _ Tryz.underlying77 hj]
  go_wp2
  go_end0
  exact ⟨⟨_, rfl⟩, rfl⟩
set_option maxRecDepth 100000 in
set_option maxHeartbeats 800000 in
theorem ccheck_fresh (b : Nat) (w : World) (v fv : Value) (h : w.heap[b]? = some (Obj.cells #[.pointer none, v, fv] 82)) :
    Calls Tryz.prog 94 #[.pointer (some ⟨b, 0, none⟩)] w fun e w' => (∃ u, e = .returned u) ∧ w' = w.setCell ⟨b, 0, none⟩ (.pointer (some ⟨b, 0, none⟩)) := by
  obtain ⟨j, hj, hjs⟩ := Option.map_eq_some_iff.1 size_bld
  have h0 := fld_cell h 0
  have hfz := fld_frozen h 0
  have hbl := lt_blk h
  have hsh : w.shape? b = some (82, 3) := by simp [World.shape?, h]
  simp at h0
  go_enter Tryz.func94, Tryz.ntmps94
  go_wp2
  rw [Lib.run_to_unsafe w ⟨b, 0, none⟩ Tryz.underlying77 Tryz.underlying156 hj (by rw [hjs]; decide) hsh (Nat.zero_lt_succ 2)]
  simp only [Result.andThen]
  rw [Oper.upon_value]
  go_wp2
  rw [run_callFunc_extern Tryz.func113 (by kernel_rfl) (by kernel_rfl) (by kernel_rfl) (e := Extern.AbiNoEscape.same) (by kernel_rfl)]
  rw [Lib.run_noEscape]
  simp only [Result.andThen]
  rw [Oper.upon_value]
  go_wp2
  rw [Lib.run_from_unsafe w ⟨b, 0, none⟩ Tryz.underlying156 Tryz.underlying77 hj hsh lies_bld]
  simp only [Result.andThen]
  rw [Oper.upon_value]
  go_wp2
  go_end0
  exact ⟨⟨_, rfl⟩, rfl⟩
theorem ccheck_any (b : Nat) (w : World) (fv p v : Value) (l : List UInt8) (h : WrAt w b fv l p v) :
    Calls Tryz.prog 94 #[.pointer (some ⟨b, 0, none⟩)] w fun e w' => (∃ u, e = .returned u) ∧ WrAt w' b fv l (.pointer (some ⟨b, 0, none⟩)) v ∧ Grew b 5 w w' := by
  rcases h.ptr with e | e
  · subst e
    refine (ccheck_fresh b w v fv h.blk).mono ?_
    rintro e w' ⟨hu, rfl⟩
    have hs := fld_set h.blk 0 (.pointer (some ⟨b, 0, none⟩))
    refine ⟨hu, ⟨by simpa using hs, .inr rfl, ?_⟩, (Below.refl b w).setCell (Nat.le_refl _) _, fun k t cs hk ht hne => Below.heap_setCell w _ _ _ hne⟩
    obtain ⟨a1, a2⟩ := h.own
    refine ⟨a1, ?_⟩
    rcases a2 with a2 | ⟨g, cap, cur, e, hbs, hh, r⟩
    · exact .inl a2
    · exact .inr ⟨g, cap, cur, e, hbs, (Below.heap_setCell w _ _ _ (fun e => blk_type h.blk hh (by decide) e.symm)).trans hh, r⟩
  · subst e
    refine (ccheck_used b w v fv h.blk).mono ?_
    rintro e w' ⟨hu, rfl⟩
    exact ⟨hu, h, Below.refl _ _, fun _ _ _ _ _ _ => rfl⟩
set_option maxRecDepth 100000 in
set_option maxHeartbeats 800000 in
theorem wbyte_any (b : Nat) (c : UInt8) (ci : Int) (hci : ci = c.toNat) (w : World) (fv p v : Value) (l : List UInt8) (h : WrAt w b fv l p v) (hlen : l.length ≤ 100000) :
    Calls Tryz.prog 69 #[.pointer (some ⟨b, 0, none⟩), .int .u8 ci] w fun e w' => e = .returned .nilIface ∧ ∃ p' v', WrAt w' b fv (l ++ [c]) p' v' ∧ Grew b 5 w w' := by
  subst hci
  have H := ccheck_any b w fv p v l h
  have HH := Lib.hid H
  obtain ⟨i0, hi0, hz0, hz1, hz2⟩ := info_parts info_u8
  clear H h
  go_enter Tryz.func69, Tryz.ntmps69
  go_wp2_with fail
  refine HH.out.mono ?_
  rintro e w1 ⟨⟨u, rfl⟩, h1, hg1⟩
  obtain ⟨n, hn⟩ : ∃ n, l.length = n := ⟨_, rfl⟩
  have hown := h1.own
  rw [hn] at hown hlen
  obtain ⟨vA, vc, rfl⟩ : ∃ A c, v = .slice A n c := own_shape hown
  have hc0 := fld_cell h1.blk 1
  have hf0 := fld_frozen h1.blk 1
  have hql := lt_blk h1.blk
  simp at hc0
  have HQ := Lib.hid h1
  have HN := Lib.hid hn
  have HG := Lib.hid hg1
  have HOWN := Lib.hid hown
  clear h1 hn hown hg1
  go_wp2_with (at_builtin; refine wpList_append_lies _ rfl _ _ 78 rfl b 5 i0 _ 1 1 Tryz.underlying78 hi0 hz0 hz1 hz2 rfl (by decide) (.slice vA n vc) n _ rfl (HOWN.out.alloc _) ⟨w1.heap.size, 0, none⟩ 1 1 [.int .u8 (c.toNat : Int)] rfl rfl (cell_one_new _ _ _) (by simp [Value.oneCell']) (by decide) (by unfold maxLen; omega) (by omega) (by simp; omega) _ rfl ?_; intro g' cap' w5 hown5 hgrow5 hat5 hlt5; have hk5 := fld_keep HQ.out.blk HOWN.out hgrow5 (by decide); have hc5 := fld_cell hk5 1; simp at hc5; have hf5 := fld_frozen hk5 1; have hl5 := lt_blk hk5; clear hk5)
  go_ret
  obtain ⟨r1, r2⟩ := fld_grew (k := 1) (u := .slice (some ⟨g', 0, none⟩) (n + 1) cap') HQ.out.blk HOWN.out hgrow5 hown5 (by decide)
  have hk := fld_keep HQ.out.blk HOWN.out hgrow5 (by decide)
  have hs := fld_set hk 1 (.slice (some ⟨g', 0, none⟩) (n + 1) cap')
  refine ⟨rfl, _, .slice (some ⟨g', 0, none⟩) (n + 1) cap', ⟨by simpa using hs, .inr rfl, ?_⟩, ?_⟩
  · rw [List.length_append, HN.out, Lib.byteCells_append]
    exact r1
  · exact ⟨HG.out.below.trans r2.below, fun k t cs hk ht hne => by
      have e := HG.out.other k t cs hk ht hne
      exact (r2.other k t cs (e.trans hk) ht hne).trans e⟩
end Go.Proofs.YtccknopchddicaaGreatDoor
