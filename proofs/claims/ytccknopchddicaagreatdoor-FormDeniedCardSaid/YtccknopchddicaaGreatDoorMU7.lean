/- contracts: form.reader's peek, take, bind. -/
import Derived.Test.YtccknopchddicaaGreatDoorMGi
import Derived.Lib.Strings
set_option linter.unusedSimpArgs false
set_option linter.unusedVariables false
set_option linter.unnecessarySimpa false
namespace Go.Proofs.YtccknopchddicaaGreatDoor
open Go.RowKit Stile
/-- a reader in block b: what is left of the text, the list so far -/
structure RrAt (w : World) (b : Nat) (L : Int) (s : List UInt8) (f : List Nd) (v : Value) : Prop where
  blk : w.heap[b]? = some (Obj.cells #[.string ⟨s.toArray⟩, .int .i64 L, v] 87)
  own : w.ownsRow b 71 3 v f.length (ndCells f)
def headB (s : List UInt8) : UInt8 := s.headD 0
def bindP (c : UInt8) : Int := if c = 124 then 1 else if c = 38 then 2 else if c = 85 ∨ c = 82 then 3 else 0
set_option maxRecDepth 100000 in
theorem bind_any (c : UInt8) (w : World) : Calls Tryz.prog 73 #[.int .u8 (c.toNat : Int)] w fun e w' => e = .returned (.int .i64 (bindP c)) ∧ w = w' := by
  have hc : ∀ k : UInt8, ((c.toNat : Int) == (k.toNat : Int)) = decide (c = k) := fun k => by
    rw [Bool.eq_iff_iff]
    simp
    constructor
    · intro h; exact UInt8.toNat_inj.1 (by omega)
    · intro h; rw [h]
  have h1 := hc 124
  have h2 := hc 38
  have h3 := hc 85
  have h4 := hc 82
  rw [show ((124 : UInt8).toNat : Int) = 124 from rfl] at h1
  rw [show ((38 : UInt8).toNat : Int) = 38 from rfl] at h2
  rw [show ((85 : UInt8).toNat : Int) = 85 from rfl] at h3
  rw [show ((82 : UInt8).toNat : Int) = 82 from rfl] at h4
  unfold bindP
  by_cases e1 : c = 124
  · subst e1; go_enter Tryz.func73, Tryz.ntmps73; go_wp2; go_ret; exact ⟨rfl, rfl⟩
  · by_cases e2 : c = 38
    · subst e2; go_enter Tryz.func73, Tryz.ntmps73; go_wp2; go_ret; exact ⟨rfl, rfl⟩
    · by_cases e3 : c = 85
      · subst e3; go_enter Tryz.func73, Tryz.ntmps73; go_wp2; go_ret; exact ⟨rfl, rfl⟩
      · by_cases e4 : c = 82
        · subst e4; go_enter Tryz.func73, Tryz.ntmps73; go_wp2; go_ret; exact ⟨rfl, rfl⟩
        · simp only [e1, e2, e3, e4, decide_false] at h1 h2 h3 h4
          have hn : (c.toNat : Int) ≠ 124 ∧ (c.toNat : Int) ≠ 38 ∧ (c.toNat : Int) ≠ 85 ∧ (c.toNat : Int) ≠ 82 := by simp at h1 h2 h3 h4; exact ⟨h1, h2, h3, h4⟩
          obtain ⟨n1, n2, n3, n4⟩ := hn
          rw [if_neg e1, if_neg e2, if_neg (by simp [e3, e4])]
          generalize (c.toNat : Int) = ci at *
          clear hc e1 e2 e3 e4
          go_enter Tryz.func73, Tryz.ntmps73
          go_wp2
          go_ret
          exact ⟨rfl, rfl⟩
theorem str_isEmpty (l : List UInt8) : (⟨l.toArray⟩ : ByteArray).toList.isEmpty = l.isEmpty := by rw [Lib.toList_data]
theorem str_size (l : List UInt8) : (⟨l.toArray⟩ : ByteArray).size = l.length := by simp [ByteArray.size]
theorem str_tail (c : UInt8) (r : List UInt8) (n : Nat) (hn : n = r.length + 1) : (⟨(c :: r).toArray⟩ : ByteArray).extract 1 n = ⟨r.toArray⟩ := by
  rw [Lib.extract_eq]
  subst hn
  simp
set_option maxRecDepth 100000 in
theorem peek_some (b : Nat) (L : Int) (c : UInt8) (r : List UInt8) (f : List Nd) (v : Value) (w : World) (h : RrAt w b L (c :: r) f v) :
    Calls Tryz.prog 72 #[.pointer (some ⟨b, 0, none⟩)] w fun e w' => e = .returned (.int .u8 (c.toNat : Int)) ∧ w = w' := by
  have h0 := fld_cell h.blk 0
  have hl := lt_blk h.blk
  simp only [List.getElem?_toArray, List.getElem?_cons_zero] at h0
  have hne := str_isEmpty (c :: r)
  simp only [List.isEmpty_cons] at hne
  generalize hS : (⟨(c :: r).toArray⟩ : ByteArray) = S at *
  have hix : ∀ W, (Instr.index 9 (.string S) (.int .i64 0)).run Tryz.prog W = .ok (.int .u8 (c.toNat : Int)) W := fun W => by subst hS; kernel_rfl
  clear hS h
  go_enter Tryz.func72, Tryz.ntmps72
  go_wp2_with fail
  go_ret
  exact ⟨rfl, rfl⟩
set_option maxRecDepth 100000 in
theorem peek_none (b : Nat) (L : Int) (f : List Nd) (v : Value) (w : World) (h : RrAt w b L [] f v) :
    Calls Tryz.prog 72 #[.pointer (some ⟨b, 0, none⟩)] w fun e w' => e = .returned (.int .u8 0) ∧ w = w' := by
  have h0 := fld_cell h.blk 0
  have hl := lt_blk h.blk
  simp only [List.getElem?_toArray, List.getElem?_cons_zero] at h0
  have hne := str_isEmpty []
  simp only [List.isEmpty_nil] at hne
  generalize hS : (⟨([] : List UInt8).toArray⟩ : ByteArray) = S at *
  clear hS h
  go_enter Tryz.func72, Tryz.ntmps72
  go_wp2_with fail
  go_ret
  exact ⟨rfl, rfl⟩
theorem peek_any (b : Nat) (L : Int) (s : List UInt8) (f : List Nd) (v : Value) (w : World) (h : RrAt w b L s f v) :
    Calls Tryz.prog 72 #[.pointer (some ⟨b, 0, none⟩)] w fun e w' => e = .returned (.int .u8 ((headB s).toNat : Int)) ∧ w = w' := by
  cases s with
  | nil => exact peek_none b L f v w h
  | cons c r => exact peek_some b L c r f v w h
set_option maxRecDepth 100000 in
set_option maxHeartbeats 800000 in
theorem take_any (b : Nat) (L : Int) (c : UInt8) (r : List UInt8) (f : List Nd) (v : Value) (w : World) (h : RrAt w b L (c :: r) f v) :
    Calls Tryz.prog 74 #[.pointer (some ⟨b, 0, none⟩)] w fun e w' => e = .returned (.int .u8 (c.toNat : Int)) ∧ RrAt w' b L r f v ∧ Grew b 71 w w' := by
  have hpk := peek_some b L c r f v w h
  have h0 := fld_cell h.blk 0
  have hf := fld_frozen h.blk 0
  have hl := lt_blk h.blk
  simp only [List.getElem?_toArray, List.getElem?_cons_zero] at h0
  have hne := str_isEmpty (c :: r)
  simp only [List.isEmpty_cons] at hne
  have hsz := str_size (c :: r)
  have htl := str_tail c r (r.length + 1) rfl
  have H := Lib.hid h
  have HPK := Lib.hid hpk
  have hfin : RrAt (w.setCell ⟨b, 0, none⟩ (.string ⟨r.toArray⟩)) b L r f v ∧ Grew b 71 w (w.setCell ⟨b, 0, none⟩ (.string ⟨r.toArray⟩)) := by
    refine ⟨⟨by have := fld_set h.blk 0 (.string ⟨r.toArray⟩); simpa using this, ?_⟩, (Below.refl b w).setCell (Nat.le_refl _) _, fun k t cs hk ht hne => Below.heap_setCell w _ _ _ hne⟩
    obtain ⟨a1, a2⟩ := h.own
    refine ⟨a1, ?_⟩
    rcases a2 with a2 | ⟨g, cap, cur, e, hbs, hh, r⟩
    · exact .inl a2
    · exact .inr ⟨g, cap, cur, e, hbs, (Below.heap_setCell w _ _ _ (fun e => blk_type h.blk hh (by decide) e.symm)).trans hh, r⟩
  have HF := Lib.hid hfin
  simp only [List.length_cons] at hsz
  generalize hS : (⟨(c :: r).toArray⟩ : ByteArray) = S at *
  generalize hRS : (⟨r.toArray⟩ : ByteArray) = RS at *
  generalize r.length = rn at *
  clear h hpk hfin hS hRS
  go_enter Tryz.func74, Tryz.ntmps74
  go_wp2_with fail
  refine HPK.out.mono ?_
  rintro e w' ⟨rfl, rfl⟩
  go_wp2_with fail
  go_ret
  exact ⟨rfl, HF.out⟩
end Go.Proofs.YtccknopchddicaaGreatDoor
