/- contract: form.Read of a text that was written. -/
import Derived.Test.YtccknopchddicaaGreatDoorMX1
import Derived.Defers
import Derived.Recover
set_option linter.unusedSimpArgs false
set_option linter.unusedVariables false
set_option linter.unnecessarySimpa false
namespace Go.Proofs.YtccknopchddicaaGreatDoor
open Go.RowKit Stile
set_option maxRecDepth 100000 in
set_option maxHeartbeats 800000 in
theorem catch_idle (p q : Addr) (w : World) :
    CallsD Tryz.prog 53 #[.pointer (some p), .pointer (some q)] .returning w fun e u' w' => e = .returned (.tuple #[]) ∧ u' = .returning ∧ w' = w := by
  refine callsD_of_wpS Tryz.func53 rfl fun c₀ cs hu => ?_
  apply wpS_seq
  apply wpS_region
  simp [wpOpsS, go_sem, recoverD, hu, Tryz.ntmps53, Exit.thenS]
  rw [show (#[Value.pointer (some p), Value.pointer (some q)] ++ (Array.replicate 10 undef).setIfInBounds 3 Value.nilIface) = #[.pointer (some p), .pointer (some q), undef, undef, undef, .nilIface, undef, undef, undef, undef, undef, undef] from rfl]
  refine wpS_of_wp ?_
  go_wp2
  cases c₀
  simp_all [bodyPostS, results, Tryz.results53]
set_option maxRecDepth 100000 in
set_option maxHeartbeats 1600000 in
theorem read_any (L : Nat) (h1 : 1 ≤ L) (h6 : L ≤ 6) (u : W) (hu : u.ok futK (setsOf (L : Int))) (hlen : u.txt.length ≤ 300) (hsz : u.size ≤ 40) (w : World) :
    Calls Tryz.prog 41 #[.int .i64 (L : Int), .string ⟨u.txt.toArray⟩] w fun e w' => ∃ v, e = .returned (.tuple #[v, .nilIface]) ∧ RdN w' w'.heap.size v (u.flat 0) ∧ Below w.heap.size w w' := by
  have hmf : ∀ (fn : Fn) (first cap : Array Value) (w : World), (Instr.makeFunc fn first cap).run Tryz.prog w = .ok (.func fn first cap) w := fun _ _ _ _ => rfl
  have hM := (setsOf_le (L := (L : Int)) (by omega) (by omega)).1
  have hun := un_all L h6 (setsOf (L : Int)) (by rw [hM]; simp) u hu
  have hra := replAll_any (⟨u.txt.toArray⟩ : ByteArray) (by simpa using noBlank u _ hu)
  have hup := fun b v w (h : RrAt w b (L : Int) u.txt [] v) => upto_end L u hun 1 b [] [] v w (by simpa using h) (by simp; omega) rfl
  simp only [List.nil_append, List.length_nil] at hup
  have hfl := W.flat_len u 0
  have hs := str_size u.txt
  have hsl : decide ((300 : Int) < (u.txt.length : Int)) = false := by simp; omega
  have hini : ∀ w : World, RrAt (w.alloc (Obj.cells #[.string ⟨u.txt.toArray⟩, .int .i64 (L : Int), .slice none 0 0] 87)) w.heap.size (L : Int) u.txt [] (.slice none 0 0) := fun w => ⟨heap_new _ _, World.ownsRow_nil _ _ _ _⟩
  have hd1 : decide ((L : Int) < 1) = false := by simp; omega
  have hd2 : decide ((6 : Int) < (L : Int)) = false := by simp; omega
  generalize u.flat 0 = F at *
  generalize hTL : u.txt.length = tl at *
  generalize hA : ((0 : Nat) : Int) + (u.size : Int) - 1 = A at *
  generalize hS : (⟨u.txt.toArray⟩ : ByteArray) = S at *
  have HRA := Lib.hid hra
  have HUP := Lib.hid hup
  have HINI := Lib.hid hini
  have hFl : F.length ≤ 40 := by omega
  clear hu hun hra hup hini hM hfl hTL hA hS
  go_enter_defers Tryz.func41, Tryz.ntmps41
  go_wp2_with fail
  refine (HRA.out _).mono ?_
  rintro e w' ⟨rfl, rfl⟩
  have hr0 := heap_old2 w (Obj.cells #[.slice none 0 0] 22) (Obj.cells #[.nilIface] 49)
  have hr1 := heap_new2 w (Obj.cells #[.slice none 0 0] 22) (Obj.cells #[.nilIface] 49)
  have hbw : Below w.heap.size w ((w.alloc (Obj.cells #[.slice none 0 0] 22)).alloc (Obj.cells #[.nilIface] 49)) := ((Below.refl _ _).alloc (Nat.le_refl _) _).alloc (by simp) _
  have hzz : ((w.alloc (Obj.cells #[.slice none 0 0] 22)).alloc (Obj.cells #[.nilIface] 49)).heap.size = w.heap.size + 2 := by simp
  generalize (w.alloc (Obj.cells #[.slice none 0 0] 22)).alloc (Obj.cells #[.nilIface] 49) = W2 at *
  have HR0 := Lib.hid hr0
  have HR1 := Lib.hid hr1
  have HBW := Lib.hid hbw
  have HZ := Lib.hid hzz
  clear hr0 hr1 hbw hzz
  go_wp2_with fail
  have hzz := HZ.out
  refine (HUP.out _ _ _ (HINI.out W2)).mono ?_
  rintro e w3 ⟨rfl, v3, h3, hg3⟩
  have hb3 : Below W2.heap.size W2 w3 := (up_alloc1 W2 _).trans (hg3.below.mono (Nat.le_refl _))
  have hq0 := (hb3.block _ (by omega)).trans HR0.out
  have hq1 := (hb3.block _ (by omega)).trans HR1.out
  have c0 := fld_cell hq0 0
  have c1 := fld_cell hq1 0
  have f0 := fld_frozen hq0 0
  have f1 := fld_frozen hq1 0
  have q0 := lt_blk hq0
  have q1 := lt_blk hq1
  have d0 := fld_cell h3.blk 0
  have d2 := fld_cell h3.blk 2
  have dl := lt_blk h3.blk
  simp only [List.getElem?_toArray, List.getElem?_cons_zero, List.getElem?_cons_succ] at c0 c1 d0 d2
  have hemp := str_isEmpty []
  simp only [List.isEmpty_nil] at hemp
  obtain ⟨vA, vc, rfl⟩ := own_shape h3.own
  have hown := h3.own
  have HB3 := Lib.hid (HBW.out.trans (hb3.mono HBW.out.size))
  have HQ0 := Lib.hid hq0
  have HQ1 := Lib.hid hq1
  have HOWN := Lib.hid hown
  generalize hE : (⟨([] : List UInt8).toArray⟩ : ByteArray) = E at *
  clear hE h3 hg3 hb3 hq0 hq1 hown hzz
  generalize hFn : F.length = fn at *
  have hfd : decide ((40 : Int) < (fn : Int)) = false := by simp; omega
  have HFN := Lib.hid hFn
  clear hFn
  go_wp2_with fail
  have hzz := HZ.out
  have g1 := fld_set ((Below.heap_setCell w3 ⟨w.heap.size, 0, none⟩ (.slice vA fn vc) (w.heap.size + 1) (by dsimp only; omega)).trans HQ1.out) 0 .nilIface
  have g0 := (Below.heap_setCell (w3.setCell ⟨w.heap.size, 0, none⟩ (.slice vA fn vc)) ⟨w.heap.size + 1, 0, none⟩ .nilIface w.heap.size (by dsimp only; omega)).trans (fld_set HQ0.out 0 (.slice vA fn vc))
  have hown5 := ownsRow_setCell_below (ownsRow_setCell_below HOWN.out (a := ⟨w.heap.size, 0, none⟩) (by dsimp only; omega) (.slice vA fn vc)) (a := ⟨w.heap.size + 1, 0, none⟩) (by dsimp only; omega) .nilIface
  have hb5 : Below w.heap.size w ((w3.setCell ⟨w.heap.size, 0, none⟩ (.slice vA fn vc)).setCell ⟨w.heap.size + 1, 0, none⟩ .nilIface) := (HB3.out.setCell (Nat.le_refl _) _).setCell (by dsimp only; omega) _
  generalize (w3.setCell ⟨w.heap.size, 0, none⟩ (.slice vA fn vc)).setCell ⟨w.heap.size + 1, 0, none⟩ .nilIface = W5 at *
  have e0 := fld_cell g0 0
  have e1 := fld_cell g1 0
  simp at e0 e1
  have hrd : RdN W5 W5.heap.size (.slice vA fn vc) F := by
    unfold RdN
    rw [HFN.out]
    refine Rd.of_own hown5 fun j hj => ?_
    rw [ndCells_at F j (by rw [HFN.out]; exact hj)]
  refine leaves_cons (f := 53) (args := #[.pointer (some ⟨w.heap.size, 0, none⟩), .pointer (some ⟨w.heap.size + 1, 0, none⟩)]) (by simp) (by simp [go_sem]) ?_
  refine (catch_idle _ _ _).mono ?_
  rintro e u' w'' ⟨rfl, rfl, rfl⟩
  exact ⟨.tuple #[.slice vA fn vc, .nilIface], by simp [results, Tryz.results41, go_sem, e0, e1], _, rfl, hrd, hb5⟩
end Go.Proofs.YtccknopchddicaaGreatDoor
