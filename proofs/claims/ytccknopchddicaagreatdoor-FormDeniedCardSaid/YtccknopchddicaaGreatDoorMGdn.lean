/- what the walk of FormDenied's rule rests on: operations that come up in whatever order. -/
import Derived.Test.YtccknopchddicaaGreatDoorMGx
import Derived.OrdersHeld
set_option linter.unusedSimpArgs false
set_option linter.unusedVariables false
set_option linter.unnecessarySimpa false
namespace Go.Proofs.YtccknopchddicaaGreatDoor
open Go.RowKit Stile
section
variable {P : Program} {ops : Array Oper} {Q : Exit → Act → World → Prop} {md : Region.Mode}
theorem wpOp_of {i : Nat} {o : Oper} {K : Act → World → Prop} {a : Act} {w : World} (hi : ops[i]? = some o) (hg : o.guard = none) (h : o.wp P a w K Q) : wpOp P ops Q i K a w := by
  unfold wpOp
  simp only [hi, Region.wanted, hg, if_true]
  exact .inl h
/-- how many have not come up yet -/
def leftN (listed : Array Bool) : Nat := (listed.toList.filter fun b => !b).length
theorem leftN_set {listed : Array Bool} {i : Nat} (h : listed.getD i true = false) : leftN (listed.setIfInBounds i true) + 1 = leftN listed := by
  obtain ⟨l, rfl⟩ : ∃ l : List Bool, listed = l.toArray := ⟨listed.toList, by simp⟩
  have hi : i < l.length := by
    rcases Nat.lt_or_ge i l.length with h' | h'
    · exact h'
    · simp [h'] at h
  simp [hi] at h
  unfold leftN
  simp only [List.setIfInBounds_toArray]
  induction l generalizing i with
  | nil => simp at hi
  | cons b l ih =>
    cases i with
    | zero =>
      simp at h
      subst h
      simp [List.filter]
    | succ i =>
      have hi' : i < l.length := by simpa using hi
      have h' : l[i] = false := by simpa using h
      have := ih hi' h'
      simp only [List.set_cons_succ, List.filter]
      cases b <;> simp <;> omega
/-- a condition that every operation carries on, whichever comes up -/
theorem wpAny_inv (I : Array Bool → Act → World → Prop) (hdone : ∀ listed a w, I listed a w → Region.ready md ops listed = [] → Q .normal a w)
    (hstep : ∀ listed a w i, I listed a w → i ∈ Region.ready md ops listed → wpOp P ops Q i (I (listed.setIfInBounds i true)) a w) :
    ∀ (fuel : Nat) (listed : Array Bool) (a : Act) (w : World), leftN listed ≤ fuel → I listed a w → wpAny P md ops Q fuel listed a w
  | 0, listed, a, w, hf, h => by
    have hr : Region.ready md ops listed = [] := by
      apply List.eq_nil_iff_forall_not_mem.2
      intro i hi
      have := leftN_set (mem_ready.1 hi).1
      omega
    exact ⟨hr, hdone listed a w h hr⟩
  | fuel + 1, listed, a, w, hf, h => by
    refine ⟨hdone listed a w h, fun i hi => ?_⟩
    have hl := leftN_set (mem_ready.1 hi).1
    exact wpOp_mono (fun a' w' h' => wpAny_inv I hdone hstep fuel _ a' w' (by omega) h') (hstep listed a w i h hi)
/-- if none is ready, all have come up -/
theorem all_up {listed : Array Bool} (hedge : (ops.toList.zipIdx.all fun p => p.1.after.toList.all fun e => decide (e.on < p.2)) = true) (hr : Region.ready md ops listed = []) : ∀ i, i < ops.size → listed.getD i true = true := by
  intro i
  induction i using Nat.strongRecOn with
  | ind i ih =>
    intro hi
    rcases h : listed.getD i true with _ | _
    · exfalso
      have hmem : i ∈ Region.ready md ops listed := by
        refine mem_ready.2 ⟨h, ops[i], by simp [hi], fun e he _ => ?_⟩
        have h2 := List.all_eq_true.1 hedge (ops[i], i) (by
          rw [List.mem_zipIdx_iff_getElem?]
          simp [hi])
        have h3 := List.all_eq_true.1 h2 e (by simpa using he)
        have h4 : e.on < i := by simpa using h3
        have h5 := ih e.on h4 (by omega)
        rcases Nat.lt_or_ge e.on listed.size with h6 | h6
        · simp [h6] at h5 ⊢; exact h5
        · exfalso
          have : i < listed.size := by
            rcases Nat.lt_or_ge i listed.size with h7 | h7
            · exact h7
            · simp [h7] at h
          omega
      rw [hr] at hmem
      cases hmem
    · rfl
theorem getD_put {a : Act} {d t : Nat} {v u : Value} (hd : d < a.tmps.size) : (a.put (some d) v).tmps.getD t u = if t = d then v else a.tmps.getD t u := by
  show (a.tmps.setIfInBounds d v).getD t u = _
  by_cases h : t = d
  · subst h; simp [hd]
  · rw [if_neg h]
    rcases Nat.lt_or_ge t a.tmps.size with h1 | h1
    · simp [h1, Array.getElem_setIfInBounds, Ne.symm h]
    · simp [h1]
theorem getD_listed {l : Array Bool} {i j : Nat} {b : Bool} : (l.setIfInBounds i true).getD j b = if i = j ∧ j < l.size then true else l.getD j b := by
  by_cases h : i = j
  · subst h
    by_cases h1 : i < l.size
    · simp [h1]
    · simp [h1]
  · rw [if_neg (by intro h'; exact h h'.1)]
    rcases Nat.lt_or_ge j l.size with h1 | h1
    · simp [h1, Array.getElem_setIfInBounds, h]
    · simp [h1]
end
section
variable {Q : Exit → Act → World → Prop} {K : Act → World → Prop} {a : Act} {w : World} {o : Oper}
theorem st_slice1 {t : Nat} {m : Mt} (hop : o.op = .buildSlice 27 1 #[(0, .tmp t)]) (hr : a.tmps.getD t undef = m.val) (h : K (a.put o.dst (.slice (some ⟨w.heap.size, 0, none⟩) 1 1)) (w.alloc (mtObj1 m))) : o.wp Tryz.prog a w K Q := by
  have hr' : a.tmps[t]?.getD undef = .agg #[.int .i64 m.kk, .int .i64 m.ks, .slice m.kA m.kids.length m.kc] := by rw [← Mt.val]; simpa using hr
  unfold Oper.wp
  simp [execOp, hop, hr', go_sem]
  exact h
theorem st_slice2 {t t' : Nat} {m m' : Mt} (hop : o.op = .buildSlice 27 2 #[(0, .tmp t), (1, .tmp t')]) (hr : a.tmps.getD t undef = m.val) (hr2 : a.tmps.getD t' undef = m'.val) (h : K (a.put o.dst (.slice (some ⟨w.heap.size, 0, none⟩) 2 2)) (w.alloc (mtObj2 m m'))) : o.wp Tryz.prog a w K Q := by
  have hr' : a.tmps[t]?.getD undef = .agg #[.int .i64 m.kk, .int .i64 m.ks, .slice m.kA m.kids.length m.kc] := by rw [← Mt.val]; simpa using hr
  have hr2' : a.tmps[t']?.getD undef = .agg #[.int .i64 m'.kk, .int .i64 m'.ks, .slice m'.kA m'.kids.length m'.kc] := by rw [← Mt.val]; simpa using hr2
  unfold Oper.wp
  simp [execOp, hop, hr', hr2', go_sem]
  exact h
theorem st_make {t : Nat} {k : Int} {A : Option Addr} {n c : Nat} (hop : o.op = .call { callee := .value (.func 16), args := #[.const (.int .i64 k), .tmp t], argTypes := #[3, 27] }) (hr : a.tmps.getD t undef = .slice A n c)
    (h : ∀ w', Below w.heap.size w w' → K (a.put o.dst (.agg #[.int .i64 k, .int .i64 0, .slice A n c])) w') : o.wp Tryz.prog a w K Q := by
  have hr' : a.tmps[t]?.getD undef = .slice A n c := by simpa using hr
  unfold Oper.wp
  simp [execOp, hop, hr', go_sem]
  exact (wmake_any _ _ _ _ _).mono fun e w' he => by obtain ⟨rfl, hb⟩ := he; exact h w' hb
theorem st_copy {t : Nat} {m : Mt} (hop : o.op = .call { callee := .value (.func 17), args := #[.tmp t], argTypes := #[29] }) (hr : a.tmps.getD t undef = m.val) (hm : m.has w)
    (h : ∀ (m9 : Mt) w', CopyOut m w m9 w' → K (a.put o.dst m9.val) w') : o.wp Tryz.prog a w K Q := by
  have hr' : a.tmps[t]?.getD undef = .agg #[.int .i64 m.kk, .int .i64 m.ks, .slice m.kA m.kids.length m.kc] := by rw [← Mt.val]; simpa using hr
  unfold Oper.wp
  simp [execOp, hop, hr', go_sem]
  exact (copy_out m w hm).mono fun e w' he => by obtain ⟨m9, rfl, hb⟩ := he; exact h m9 w' hb
theorem st_pick {t : Nat} {x n : Int} (hop : o.op = .call { callee := .value (.func 18), args := #[.tmp t, .const (.int .i64 n)], argTypes := #[3, 3] }) (hr : a.tmps.getD t undef = .int .i64 x) (hx0 : -9223372036854775808 ≤ x) (hx1 : x ≤ 9223372036854775807) (h0 : 0 < n) (h1 : n ≤ 9223372036854775807)
    (h : K (a.put o.dst (.int .i64 (pick x n))) w) : o.wp Tryz.prog a w K Q := by
  have hr' : a.tmps[t]?.getD undef = .int .i64 x := by simpa using hr
  unfold Oper.wp
  simp [execOp, hop, hr', go_sem]
  exact (pick_any x n w hx0 hx1 h0 h1).mono fun e w' he => by obtain ⟨rfl, rfl⟩ := he; exact h
theorem st_slice7 {t0 t1 t2 t3 t4 t5 t6 : Nat} {m0 m1 m2 m3 m4 m5 m6 : Mt} (hop : o.op = .buildSlice 27 7 #[(0, .tmp t0), (1, .tmp t1), (2, .tmp t2), (3, .tmp t3), (4, .tmp t4), (5, .tmp t5), (6, .tmp t6)])
    (r0 : a.tmps.getD t0 undef = m0.val) (r1 : a.tmps.getD t1 undef = m1.val) (r2 : a.tmps.getD t2 undef = m2.val) (r3 : a.tmps.getD t3 undef = m3.val) (r4 : a.tmps.getD t4 undef = m4.val) (r5 : a.tmps.getD t5 undef = m5.val) (r6 : a.tmps.getD t6 undef = m6.val)
    (h : K (a.put o.dst (.slice (some ⟨w.heap.size, 0, none⟩) 7 7)) (w.alloc (.cells (mtCells [m0, m1, m2, m3, m4, m5, m6]).toArray 29))) : o.wp Tryz.prog a w K Q := by
  have hr : ∀ t (m : Mt), a.tmps.getD t undef = m.val → a.tmps[t]?.getD undef = .agg #[.int .i64 m.kk, .int .i64 m.ks, .slice m.kA m.kids.length m.kc] := fun t m h => by rw [← Mt.val]; simpa using h
  have q0 := hr _ _ r0
  have q1 := hr _ _ r1
  have q2 := hr _ _ r2
  have q3 := hr _ _ r3
  have q4 := hr _ _ r4
  have q5 := hr _ _ r5
  have q6 := hr _ _ r6
  clear hr r0 r1 r2 r3 r4 r5 r6
  unfold Oper.wp
  simp [execOp, hop, q0, q1, q2, q3, q4, q5, q6, go_sem]
  exact h
theorem st_index {t t' : Nat} {g n c j : Nat} (hop : o.op = .indexAddr 27 (.tmp t) (.tmp t')) (hr : a.tmps.getD t undef = .slice (some ⟨g, 0, none⟩) n c) (hr2 : a.tmps.getD t' undef = .int .i64 (j : Int)) (hj : j < n)
    (h : K (a.put o.dst (.pointer (some ⟨g, j * 3, none⟩))) w) : o.wp Tryz.prog a w K Q := by
  have hr' : a.tmps[t]?.getD undef = .slice (some ⟨g, 0, none⟩) n c := by simpa using hr
  have hr2' : a.tmps[t']?.getD undef = .int .i64 (j : Int) := by simpa using hr2
  have h0 : (0 : Int) ≤ (j : Int) := by omega
  have h1 : (j : Int) < (n : Int) := by omega
  unfold Oper.wp
  simp [execOp, hop, hr', hr2', go_sem, h0, h1, hj]
  exact h
theorem st_store {t t' X : Nat} {m : Mt} (hop : o.op = .store 29 (.tmp t) (.tmp t')) (hd : o.dst = none) (hr : a.tmps.getD t undef = .pointer (some ⟨X, 0, none⟩)) (hr2 : a.tmps.getD t' undef = m.val) (hS : ResS X w)
    (h : K a (((w.setCell ⟨X, 0, none⟩ (.int .i64 m.kk)).setCell ⟨X, 1, none⟩ (.int .i64 m.ks)).setCell ⟨X, 2, none⟩ (.slice m.kA m.kids.length m.kc))) : o.wp Tryz.prog a w K Q := by
  have hr' : a.tmps[t]?.getD undef = .pointer (some ⟨X, 0, none⟩) := by simpa using hr
  have hr2' : a.tmps[t']?.getD undef = .agg #[.int .i64 m.kk, .int .i64 m.ks, .slice m.kA m.kids.length m.kc] := by rw [← Mt.val]; simpa using hr2
  obtain ⟨⟨y0, y1, y2⟩, z0, z1, z2, zl⟩ := hS
  unfold Oper.wp
  simp [execOp, hop, hd, hr', hr2', go_sem, y0, y1, y2, z0, z1, z2]
  exact h
theorem st_assign {v : Value} (hop : o.op = .assign (.const v)) (h : K (a.put o.dst v) w) : o.wp Tryz.prog a w K Q := by
  unfold Oper.wp
  simp [execOp, hop, go_sem]
  exact h
theorem st_load {t B off : Nat} {m : Mt} (hop : o.op = .load 29 (.tmp t)) (hr : a.tmps.getD t undef = .pointer (some ⟨B, off, none⟩)) (hk : KidS B off m w)
    (h : K (a.put o.dst m.val) w) : o.wp Tryz.prog a w K Q := by
  have hr' : a.tmps[t]?.getD undef = .pointer (some ⟨B, off, none⟩) := by simpa using hr
  obtain ⟨k0, k1, k2⟩ := hk
  unfold Oper.wp
  simp [execOp, hop, hr', go_sem, k0, k1, k2]
  exact h
theorem st_loadint {t : Nat} {p : Addr} {k : Int} (hop : o.op = .load 3 (.tmp t)) (hr : a.tmps.getD t undef = .pointer (some p)) (hk : w.cell? p = some (.int .i64 k))
    (h : K (a.put o.dst (.int .i64 k)) w) : o.wp Tryz.prog a w K Q := by
  have hr' : a.tmps[t]?.getD undef = .pointer (some p) := by simpa using hr
  unfold Oper.wp
  simp [execOp, hop, hr', go_sem, hk]
  exact h
end
end Go.Proofs.YtccknopchddicaaGreatDoor
/- contract: the rule of FormDenied. -/
namespace Go.Proofs.YtccknopchddicaaGreatDoor
open Go.RowKit Stile
/-- what a slot of the region holds -/
inductive DTy where
  | nd (t : W)
  | sl (ts : List W)
  | int (k : Int)
  | ad (t : W) (j : Nat)
def dnSeven (X : W) : List W := [(.n1 3 (.n1 3 X)), (.n2 4 X (.n0 0 0)), (.n2 4 (.n0 0 0) X), (.n2 5 X (.n0 1 0)), (.n2 5 (.n0 1 0) X), (.n2 4 X X), (.n2 5 X X)]
def dnPart (X : W) (how : Int) : W := (dnSeven X).getD (pick how 7).toNat default
theorem dn_part (X : W) (how : Int) : dnRule (pick how 7) X = some (dnPart X how) := by
  have hp := pick_range (x := how) (n := 7) (by omega)
  have h : pick how 7 = 0 ∨ pick how 7 = 1 ∨ pick how 7 = 2 ∨ pick how 7 = 3 ∨ pick how 7 = 4 ∨ pick how 7 = 5 ∨ pick how 7 = 6 := by omega
  unfold dnPart
  rcases h with h | h | h | h | h | h | h <;> rw [h] <;> rfl
def dnTy (X : W) (how : Int) (i : Nat) : DTy := [.nd X, .sl [X], .nd (.n1 3 X), .sl [(.n1 3 X)], .nd (.n1 3 (.n1 3 X)), .nd X, .nd (.n0 0 0), .sl [X, (.n0 0 0)], .nd (.n2 4 X (.n0 0 0)), .nd (.n0 0 0), .nd X, .sl [(.n0 0 0), X], .nd (.n2 4 (.n0 0 0) X), .nd X, .nd (.n0 1 0), .sl [X, (.n0 1 0)], .nd (.n2 5 X (.n0 1 0)), .nd (.n0 1 0), .nd X, .sl [(.n0 1 0), X], .nd (.n2 5 (.n0 1 0) X), .nd X, .nd X, .nd X, .sl [X, X], .nd (.n2 4 X X), .nd X, .nd X, .nd X, .sl [X, X], .nd (.n2 5 X X), .sl [(.n1 3 (.n1 3 X)), (.n2 4 X (.n0 0 0)), (.n2 4 (.n0 0 0) X), (.n2 5 X (.n0 1 0)), (.n2 5 (.n0 1 0) X), (.n2 4 X X), (.n2 5 X X)], .int how, .int (pick how 7), .ad (dnPart X how) (pick how 7).toNat, .nd (dnPart X how)].getD i (.int 0)
/-- a slot holds what it should -/
def Dv (x : Mt) (N M : Nat) (ty : DTy) (v : Value) (w : World) : Prop :=
  match ty with
  | .nd t => ∃ m : Mt, v = m.val ∧ m.w = t ∧ m.has w ∧ Fr x N M m
  | .sl ts => ∃ (g : Nat) (ms : List Mt), v = .slice (some ⟨g, 0, none⟩) ms.length ms.length ∧ w.heap[g]? = some (.cells (mtCells ms).toArray 29 (0, 0)) ∧ N ≤ g ∧ ms.map Mt.w = ts ∧ ∀ m ∈ ms, m.has w ∧ Fr x N M m
  | .int k => v = .int .i64 k
  | .ad t j => ∃ (g : Nat) (m : Mt), v = .pointer (some ⟨g, j * 3, none⟩) ∧ KidS g (j * 3) m w ∧ m.w = t ∧ m.has w ∧ Fr x N M m
theorem Dv.up {x : Mt} {N M : Nat} {ty : DTy} {v : Value} {w w' : World} (h : Dv x N M ty v w) (hb : Below w.heap.size w w') : Dv x N M ty v w' := by
  cases ty with
  | nd t => obtain ⟨m, h1, h2, h3, h4⟩ := h; exact ⟨m, h1, h2, h3.made hb, h4⟩
  | sl ts => obtain ⟨g, ms, h1, h2, h3, h4, h5⟩ := h; exact ⟨g, ms, h1, (hb.block g (lt_blk h2)).trans h2, h3, h4, fun m hm => ⟨(h5 m hm).1.made hb, (h5 m hm).2⟩⟩
  | int k => exact h
  | ad t j => obtain ⟨g, m, h1, h2, h3, h4, h5⟩ := h; exact ⟨g, m, h1, h2.up hb, h3, h4.made hb, h5⟩
theorem one_of {ms : List Mt} {t : W} (h : ms.map Mt.w = [t]) : ∃ m, ms = [m] := by
  have hl : ms.length = 1 := by have := congrArg List.length h; simpa using this
  match ms, hl with
  | [m], _ => exact ⟨m, rfl⟩
theorem two_of {ms : List Mt} {t t' : W} (h : ms.map Mt.w = [t, t']) : ∃ m m', ms = [m, m'] := by
  have hl : ms.length = 2 := by have := congrArg List.length h; simpa using this
  match ms, hl with
  | [m, m'], _ => exact ⟨m, m', rfl⟩
/-- a list of one or two new nodes -/
theorem sl1_has {W : World} {g : Nat} {k : Int} {x : Mt} (h : W.heap[g]? = some (.cells (mtCells [x]).toArray 29 (0, 0))) (hx : x.has W) : (Mt.n1 k g 1 x).has W :=
  ⟨Nat.le_refl _, ⟨_, _, _, _, rfl, h, by simp [mtCells], by simp [mtCells], by simp [mtCells]⟩, hx⟩
theorem sl2_has {W : World} {g : Nat} {k : Int} {x y : Mt} (h : W.heap[g]? = some (.cells (mtCells [x, y]).toArray 29 (0, 0))) (hx : x.has W) (hy : y.has W) : (Mt.n2 k g 2 x y).has W :=
  ⟨Nat.le_refl _, ⟨_, _, _, _, rfl, h, by simp [mtCells], by simp [mtCells], by simp [mtCells]⟩, ⟨_, _, _, _, rfl, h, by simp [mtCells], by simp [mtCells], by simp [mtCells]⟩, hx, hy⟩
theorem set3_new {W : World} {Y : Nat} {m : Mt} {c0 c1 c2 : Value} (h : W.heap[Y]? = some (Obj.cells #[c0, c1, c2] 29)) : KidS Y 0 m (((W.setCell ⟨Y, 0, none⟩ (.int .i64 m.kk)).setCell ⟨Y, 1, none⟩ (.int .i64 m.ks)).setCell ⟨Y, 2, none⟩ (.slice m.kA m.kids.length m.kc)) := by
  have h3 := fld_set (fld_set (fld_set h 0 (.int .i64 m.kk)) 1 (.int .i64 m.ks)) 2 (.slice m.kA m.kids.length m.kc)
  exact ⟨by rw [fld_cell h3]; rfl, by rw [fld_cell h3]; rfl, by rw [fld_cell h3]; rfl⟩
/-- the slots that do not turn -/
structure DnB (pb : Addr) (N Y Z : Nat) (b4 : Bool) (a : Act) : Prop where
  size : a.tmps.size = 45
  defers : a.defers = []
  s1 : a.tmps.getD 1 undef = .pointer (some pb)
  s2 : a.tmps.getD 2 undef = .pointer (some ⟨N, 0, none⟩)
  s3 : a.tmps.getD 3 undef = .pointer (some ⟨N + 1, 0, none⟩)
  s4 : a.tmps.getD 4 undef = .bool b4
  s5 : a.tmps.getD 5 undef = .pointer (some ⟨Y, 0, none⟩)
  s6 : a.tmps.getD 6 undef = .pointer (some ⟨Z, 0, none⟩)
theorem DnB.put {pb : Addr} {N Y Z : Nat} {b4 : Bool} {a : Act} (h : DnB pb N Y Z b4 a) {d : Nat} {v : Value} (h9 : 9 ≤ d) (hd : d < 45) : DnB pb N Y Z b4 (a.put (some d) v) := by
  have hs := h.size
  have e : ∀ t, t < 9 → (a.put (some d) v).tmps.getD t undef = a.tmps.getD t undef := fun t ht => by rw [getD_put (by omega), if_neg (by omega)]
  exact ⟨by show (a.tmps.setIfInBounds d v).size = 45; simp [hs], h.defers, (e 1 (by omega)).trans h.s1, (e 2 (by omega)).trans h.s2, (e 3 (by omega)).trans h.s3, (e 4 (by omega)).trans h.s4, (e 5 (by omega)).trans h.s5, (e 6 (by omega)).trans h.s6⟩
/-- the world at the head of the region -/
structure DnW (x : Mt) (how : Int) (pb : Addr) (wS : World) (Y Z : Nat) (WB : World) : Prop where
  head : ByHead wS WB x
  xh : x.has WB
  kx : KidS wS.heap.size 0 x WB
  ky : KidS Y 0 (.n0 0 0) WB
  kz : KidS Z 0 (.n0 1 0) WB
  ch : WB.cell? pb = some (.int .i64 how)
  rx : x.has wS
theorem DnW.base {x : Mt} {how : Int} {pb : Addr} {wS : World} {Y Z : Nat} {WB w : World} (h : DnW x how pb wS Y Z WB) (hl : Below WB.heap.size WB w) : wS.heap.size + 2 ≤ w.heap.size := by
  have := lt_blk h.head.res
  have := hl.size
  omega
theorem KidS.low {b o : Nat} {m : Mt} {W w : World} (h : KidS b o m W) (hb : Below W.heap.size W w) : KidS b o m w := h.up hb
/-- ahead of the store -/
structure DnC (x : Mt) (how : Int) (pb : Addr) (wS : World) (Y Z M : Nat) (WB : World) (listed : Array Bool) (a : Act) (w : World) : Prop where
  fix : DnB pb wS.heap.size Y Z false a
  low : Below WB.heap.size WB w
  vals : ∀ i, i < 36 → listed.getD i false = true → Dv x (wS.heap.size + 2) M (dnTy x.w how i) (a.tmps.getD (9 + i) undef) w
/-- behind the store -/
def DnF (x : Mt) (how : Int) (w0 wS : World) (w : World) : Prop := ∃ m : Mt, ByOut (dnRule (pick how 7)) x w0 wS (.returned (.tuple #[m.val, .bool true])) w ∧ KidS (wS.heap.size + 1) 0 m w
def DnI (x : Mt) (how : Int) (pb : Addr) (w0 wS : World) (Y Z : Nat) (WB : World) (listed : Array Bool) (a : Act) (w : World) : Prop :=
  listed.size = 38 ∧ ((listed.getD 36 true = false ∧ listed.getD 37 true = false ∧ DnC x how pb wS Y Z w0.heap.size WB listed a w) ∨
    ((∀ i, i < 37 → listed.getD i true = true) ∧ listed.getD 37 true = false ∧ DnB pb wS.heap.size Y Z false a ∧ DnF x how w0 wS w) ∨
    ((∀ i, i < 38 → listed.getD i true = true) ∧ DnB pb wS.heap.size Y Z true a ∧ DnF x how w0 wS w))
theorem DnC.put {x : Mt} {how : Int} {pb : Addr} {w0 wS : World} {Y Z : Nat} {WB : World} {listed : Array Bool} {a : Act} {w w' : World} {i : Nat} {v : Value} (hsz : listed.size = 38) (h6 : listed.getD 36 true = false) (h7 : listed.getD 37 true = false) (h : DnC x how pb wS Y Z w0.heap.size WB listed a w) (hi : i < 36) (hb : Below w.heap.size w w')
    (hv : Dv x (wS.heap.size + 2) w0.heap.size (dnTy x.w how i) v w') : DnI x how pb w0 wS Y Z WB (listed.setIfInBounds i true) (a.put (some (9 + i)) v) w' := by
  refine ⟨by simp [hsz], .inl ⟨?_, ?_, h.fix.put (by omega) (by omega), h.low.trans (hb.mono h.low.size), fun j hj hl => ?_⟩⟩
  · rw [getD_listed, if_neg (by omega)]; exact h6
  · rw [getD_listed, if_neg (by omega)]; exact h7
  · have hs := h.fix.size
    rw [getD_put (by omega)]
    by_cases e : j = i
    · subst e; rw [if_pos rfl]; exact hv
    · rw [if_neg (by omega)]
      rw [getD_listed, if_neg (by omega)] at hl
      exact (h.vals j hj hl).up hb
def regOps : Code → Array Oper
  | .region _ ops _ => ops
  | _ => #[]
noncomputable def dnOps : Array Oper := match Tryz.f15.body with
  | some (.seq _ (.seq _ (.seq c _))) => regOps c
  | _ => #[]
def depOn (o : Oper) (j : Nat) : Bool := o.after.toList.any fun e => e.on == j && Region.binds .any e
theorem dep_up {o : Oper} {j : Nat} {listed : Array Bool} (h : ∀ e ∈ o.after, Region.binds .any e = true → listed.getD e.on false = true) (hd : depOn o j = true) : listed.getD j false = true := by
  unfold depOn at hd
  obtain ⟨e, hm, he⟩ := List.any_eq_true.1 hd
  simp only [Bool.and_eq_true, beq_iff_eq] at he
  have := h e (by simpa using hm) he.2
  rwa [he.1] at this
theorem dn_op0 : ∃ o, dnOps[0]? = some o ∧ o.guard = none ∧ o.dst = some 9 ∧ o.op = Op.load 29 (.tmp 2) := ⟨_, rfl, rfl, rfl, rfl⟩
theorem dn_op1 : ∃ o, dnOps[1]? = some o ∧ o.guard = none ∧ o.dst = some 10 ∧ o.op = Op.buildSlice 27 1 #[(0, .tmp 9)] ∧ depOn o 0 = true := ⟨_, rfl, rfl, rfl, rfl, by kernel_rfl⟩
theorem dn_op2 : ∃ o, dnOps[2]? = some o ∧ o.guard = none ∧ o.dst = some 11 ∧ o.op = Op.call { callee := .value (.func 16), args := #[.const (.int .i64 3), .tmp 10], argTypes := #[3, 27] } ∧ depOn o 1 = true := ⟨_, rfl, rfl, rfl, rfl, by kernel_rfl⟩
theorem dn_op3 : ∃ o, dnOps[3]? = some o ∧ o.guard = none ∧ o.dst = some 12 ∧ o.op = Op.buildSlice 27 1 #[(0, .tmp 11)] ∧ depOn o 2 = true := ⟨_, rfl, rfl, rfl, rfl, by kernel_rfl⟩
theorem dn_op4 : ∃ o, dnOps[4]? = some o ∧ o.guard = none ∧ o.dst = some 13 ∧ o.op = Op.call { callee := .value (.func 16), args := #[.const (.int .i64 3), .tmp 12], argTypes := #[3, 27] } ∧ depOn o 3 = true := ⟨_, rfl, rfl, rfl, rfl, by kernel_rfl⟩
theorem dn_op5 : ∃ o, dnOps[5]? = some o ∧ o.guard = none ∧ o.dst = some 14 ∧ o.op = Op.load 29 (.tmp 2) := ⟨_, rfl, rfl, rfl, rfl⟩
theorem dn_op6 : ∃ o, dnOps[6]? = some o ∧ o.guard = none ∧ o.dst = some 15 ∧ o.op = Op.load 29 (.tmp 5) := ⟨_, rfl, rfl, rfl, rfl⟩
theorem dn_op7 : ∃ o, dnOps[7]? = some o ∧ o.guard = none ∧ o.dst = some 16 ∧ o.op = Op.buildSlice 27 2 #[(0, .tmp 14), (1, .tmp 15)] ∧ depOn o 5 = true ∧ depOn o 6 = true := ⟨_, rfl, rfl, rfl, rfl, by kernel_rfl, by kernel_rfl⟩
theorem dn_op8 : ∃ o, dnOps[8]? = some o ∧ o.guard = none ∧ o.dst = some 17 ∧ o.op = Op.call { callee := .value (.func 16), args := #[.const (.int .i64 4), .tmp 16], argTypes := #[3, 27] } ∧ depOn o 7 = true := ⟨_, rfl, rfl, rfl, rfl, by kernel_rfl⟩
theorem dn_op9 : ∃ o, dnOps[9]? = some o ∧ o.guard = none ∧ o.dst = some 18 ∧ o.op = Op.load 29 (.tmp 5) := ⟨_, rfl, rfl, rfl, rfl⟩
theorem dn_op10 : ∃ o, dnOps[10]? = some o ∧ o.guard = none ∧ o.dst = some 19 ∧ o.op = Op.load 29 (.tmp 2) := ⟨_, rfl, rfl, rfl, rfl⟩
theorem dn_op11 : ∃ o, dnOps[11]? = some o ∧ o.guard = none ∧ o.dst = some 20 ∧ o.op = Op.buildSlice 27 2 #[(0, .tmp 18), (1, .tmp 19)] ∧ depOn o 9 = true ∧ depOn o 10 = true := ⟨_, rfl, rfl, rfl, rfl, by kernel_rfl, by kernel_rfl⟩
theorem dn_op12 : ∃ o, dnOps[12]? = some o ∧ o.guard = none ∧ o.dst = some 21 ∧ o.op = Op.call { callee := .value (.func 16), args := #[.const (.int .i64 4), .tmp 20], argTypes := #[3, 27] } ∧ depOn o 11 = true := ⟨_, rfl, rfl, rfl, rfl, by kernel_rfl⟩
theorem dn_op13 : ∃ o, dnOps[13]? = some o ∧ o.guard = none ∧ o.dst = some 22 ∧ o.op = Op.load 29 (.tmp 2) := ⟨_, rfl, rfl, rfl, rfl⟩
theorem dn_op14 : ∃ o, dnOps[14]? = some o ∧ o.guard = none ∧ o.dst = some 23 ∧ o.op = Op.load 29 (.tmp 6) := ⟨_, rfl, rfl, rfl, rfl⟩
theorem dn_op15 : ∃ o, dnOps[15]? = some o ∧ o.guard = none ∧ o.dst = some 24 ∧ o.op = Op.buildSlice 27 2 #[(0, .tmp 22), (1, .tmp 23)] ∧ depOn o 13 = true ∧ depOn o 14 = true := ⟨_, rfl, rfl, rfl, rfl, by kernel_rfl, by kernel_rfl⟩
theorem dn_op16 : ∃ o, dnOps[16]? = some o ∧ o.guard = none ∧ o.dst = some 25 ∧ o.op = Op.call { callee := .value (.func 16), args := #[.const (.int .i64 5), .tmp 24], argTypes := #[3, 27] } ∧ depOn o 15 = true := ⟨_, rfl, rfl, rfl, rfl, by kernel_rfl⟩
theorem dn_op17 : ∃ o, dnOps[17]? = some o ∧ o.guard = none ∧ o.dst = some 26 ∧ o.op = Op.load 29 (.tmp 6) := ⟨_, rfl, rfl, rfl, rfl⟩
theorem dn_op18 : ∃ o, dnOps[18]? = some o ∧ o.guard = none ∧ o.dst = some 27 ∧ o.op = Op.load 29 (.tmp 2) := ⟨_, rfl, rfl, rfl, rfl⟩
theorem dn_op19 : ∃ o, dnOps[19]? = some o ∧ o.guard = none ∧ o.dst = some 28 ∧ o.op = Op.buildSlice 27 2 #[(0, .tmp 26), (1, .tmp 27)] ∧ depOn o 17 = true ∧ depOn o 18 = true := ⟨_, rfl, rfl, rfl, rfl, by kernel_rfl, by kernel_rfl⟩
theorem dn_op20 : ∃ o, dnOps[20]? = some o ∧ o.guard = none ∧ o.dst = some 29 ∧ o.op = Op.call { callee := .value (.func 16), args := #[.const (.int .i64 5), .tmp 28], argTypes := #[3, 27] } ∧ depOn o 19 = true := ⟨_, rfl, rfl, rfl, rfl, by kernel_rfl⟩
theorem dn_op21 : ∃ o, dnOps[21]? = some o ∧ o.guard = none ∧ o.dst = some 30 ∧ o.op = Op.load 29 (.tmp 2) := ⟨_, rfl, rfl, rfl, rfl⟩
theorem dn_op22 : ∃ o, dnOps[22]? = some o ∧ o.guard = none ∧ o.dst = some 31 ∧ o.op = Op.load 29 (.tmp 2) := ⟨_, rfl, rfl, rfl, rfl⟩
theorem dn_op23 : ∃ o, dnOps[23]? = some o ∧ o.guard = none ∧ o.dst = some 32 ∧ o.op = Op.call { callee := .value (.func 17), args := #[.tmp 31], argTypes := #[29] } ∧ depOn o 22 = true := ⟨_, rfl, rfl, rfl, rfl, by kernel_rfl⟩
theorem dn_op24 : ∃ o, dnOps[24]? = some o ∧ o.guard = none ∧ o.dst = some 33 ∧ o.op = Op.buildSlice 27 2 #[(0, .tmp 30), (1, .tmp 32)] ∧ depOn o 21 = true ∧ depOn o 23 = true := ⟨_, rfl, rfl, rfl, rfl, by kernel_rfl, by kernel_rfl⟩
theorem dn_op25 : ∃ o, dnOps[25]? = some o ∧ o.guard = none ∧ o.dst = some 34 ∧ o.op = Op.call { callee := .value (.func 16), args := #[.const (.int .i64 4), .tmp 33], argTypes := #[3, 27] } ∧ depOn o 24 = true := ⟨_, rfl, rfl, rfl, rfl, by kernel_rfl⟩
theorem dn_op26 : ∃ o, dnOps[26]? = some o ∧ o.guard = none ∧ o.dst = some 35 ∧ o.op = Op.load 29 (.tmp 2) := ⟨_, rfl, rfl, rfl, rfl⟩
theorem dn_op27 : ∃ o, dnOps[27]? = some o ∧ o.guard = none ∧ o.dst = some 36 ∧ o.op = Op.load 29 (.tmp 2) := ⟨_, rfl, rfl, rfl, rfl⟩
theorem dn_op28 : ∃ o, dnOps[28]? = some o ∧ o.guard = none ∧ o.dst = some 37 ∧ o.op = Op.call { callee := .value (.func 17), args := #[.tmp 36], argTypes := #[29] } ∧ depOn o 27 = true := ⟨_, rfl, rfl, rfl, rfl, by kernel_rfl⟩
theorem dn_op29 : ∃ o, dnOps[29]? = some o ∧ o.guard = none ∧ o.dst = some 38 ∧ o.op = Op.buildSlice 27 2 #[(0, .tmp 35), (1, .tmp 37)] ∧ depOn o 26 = true ∧ depOn o 28 = true := ⟨_, rfl, rfl, rfl, rfl, by kernel_rfl, by kernel_rfl⟩
theorem dn_op30 : ∃ o, dnOps[30]? = some o ∧ o.guard = none ∧ o.dst = some 39 ∧ o.op = Op.call { callee := .value (.func 16), args := #[.const (.int .i64 5), .tmp 38], argTypes := #[3, 27] } ∧ depOn o 29 = true := ⟨_, rfl, rfl, rfl, rfl, by kernel_rfl⟩
theorem dn_op31 : ∃ o, dnOps[31]? = some o ∧ o.guard = none ∧ o.dst = some 40 ∧ o.op = Op.buildSlice 27 7 #[(0, .tmp 13), (1, .tmp 17), (2, .tmp 21), (3, .tmp 25), (4, .tmp 29), (5, .tmp 34), (6, .tmp 39)] ∧ depOn o 4 = true ∧ depOn o 8 = true ∧ depOn o 12 = true ∧ depOn o 16 = true ∧ depOn o 20 = true ∧ depOn o 25 = true ∧ depOn o 30 = true := ⟨_, rfl, rfl, rfl, rfl, by kernel_rfl, by kernel_rfl, by kernel_rfl, by kernel_rfl, by kernel_rfl, by kernel_rfl, by kernel_rfl⟩
theorem dn_op32 : ∃ o, dnOps[32]? = some o ∧ o.guard = none ∧ o.dst = some 41 ∧ o.op = Op.load 3 (.tmp 1) := ⟨_, rfl, rfl, rfl, rfl⟩
theorem dn_op33 : ∃ o, dnOps[33]? = some o ∧ o.guard = none ∧ o.dst = some 42 ∧ o.op = Op.call { callee := .value (.func 18), args := #[.tmp 41, .const (.int .i64 7)], argTypes := #[3, 3] } ∧ depOn o 32 = true := ⟨_, rfl, rfl, rfl, rfl, by kernel_rfl⟩
theorem dn_op34 : ∃ o, dnOps[34]? = some o ∧ o.guard = none ∧ o.dst = some 43 ∧ o.op = Op.indexAddr 27 (.tmp 40) (.tmp 42) ∧ depOn o 31 = true ∧ depOn o 33 = true := ⟨_, rfl, rfl, rfl, rfl, by kernel_rfl, by kernel_rfl⟩
theorem dn_op35 : ∃ o, dnOps[35]? = some o ∧ o.guard = none ∧ o.dst = some 44 ∧ o.op = Op.load 29 (.tmp 43) ∧ depOn o 34 = true := ⟨_, rfl, rfl, rfl, rfl, by kernel_rfl⟩
theorem dn_op36 : ∃ o, dnOps[36]? = some o ∧ o.guard = none ∧ o.dst = none ∧ o.op = Op.store 29 (.tmp 3) (.tmp 44) ∧ ((List.range 36).all (depOn o)) = true := ⟨_, rfl, rfl, rfl, rfl, by kernel_rfl⟩
theorem dn_op37 : ∃ o, dnOps[37]? = some o ∧ o.guard = none ∧ o.dst = some 4 ∧ o.op = Op.assign (.const (.bool true)) ∧ depOn o 36 = true := ⟨_, rfl, rfl, rfl, rfl, by kernel_rfl⟩
theorem dn_size : dnOps.size = 38 := rfl
theorem dn_edges : (dnOps.toList.zipIdx.all fun p => p.1.after.toList.all fun e => decide (e.on < p.2)) = true := by kernel_rfl
section
variable {x : Mt} {how : Int} {pb : Addr} {w0 wS : World} {Y Z : Nat} {WB : World} {listed : Array Bool} {a : Act} {w : World} {Q : Exit → Act → World → Prop}
theorem dn_step0 (hsz : listed.size = 38) (h6 : listed.getD 36 true = false) (h7 : listed.getD 37 true = false) (hW : DnW x how pb wS Y Z WB) (hC : DnC x how pb wS Y Z w0.heap.size WB listed a w) : wpOp Tryz.prog dnOps Q 0 (DnI x how pb w0 wS Y Z WB (listed.setIfInBounds 0 true)) a w := by
  obtain ⟨o, e1, g, d, op⟩ := dn_op0
  refine wpOp_of e1 g (st_load op hC.fix.s2 (hW.kx.low hC.low) ?_)
  rw [d]
  exact DnC.put hsz h6 h7 hC (i := 0) (by omega) (Below.refl _ _) ⟨x, rfl, rfl, hW.xh.below hC.low hW.xh.lt, Fr.self _ _ _⟩
theorem dn_step1 (hsz : listed.size = 38) (h6 : listed.getD 36 true = false) (h7 : listed.getD 37 true = false) (hW : DnW x how pb wS Y Z WB) (hC : DnC x how pb wS Y Z w0.heap.size WB listed a w) (l0 : listed.getD 0 false = true) : wpOp Tryz.prog dnOps Q 1 (DnI x how pb w0 wS Y Z WB (listed.setIfInBounds 1 true)) a w := by
  obtain ⟨o, e1, g, d, op, _⟩ := dn_op1
  have v0 := hC.vals 0 (by omega) l0
  obtain ⟨m, q1, q2, q3, q4⟩ := v0
  refine wpOp_of e1 g (st_slice1 op q1 ?_)
  rw [d]
  exact DnC.put hsz h6 h7 hC (i := 1) (by omega) (up_alloc _ _) ⟨w.heap.size, [m], rfl, heap_new w (mtObj1 m), hW.base hC.low, by simp only [List.map_cons, List.map_nil, q2], fun y hy => by obtain rfl : y = m := (by simpa using hy); exact ⟨q3.made (up_alloc _ _), q4⟩⟩
theorem dn_step2 (hsz : listed.size = 38) (h6 : listed.getD 36 true = false) (h7 : listed.getD 37 true = false) (hW : DnW x how pb wS Y Z WB) (hC : DnC x how pb wS Y Z w0.heap.size WB listed a w) (l1 : listed.getD 1 false = true) : wpOp Tryz.prog dnOps Q 2 (DnI x how pb w0 wS Y Z WB (listed.setIfInBounds 2 true)) a w := by
  obtain ⟨o, e1, g, d, op, _⟩ := dn_op2
  have v1 := hC.vals 1 (by omega) l1
  obtain ⟨g1, ms, q1, q2, q3, q4, q5⟩ := v1
  obtain ⟨m, rfl⟩ : ∃ m, ms = [m] := one_of q4
  have qw : m.w = x.w := by simpa using q4
  refine wpOp_of e1 g (st_make op q1 fun w' hb => ?_)
  rw [d]
  refine DnC.put hsz h6 h7 hC (i := 2) (by omega) hb ⟨.n1 3 g1 1 m, rfl, by simp only [Mt.w, qw], sl1_has ((hb.block g1 (lt_blk q2)).trans q2) ((q5 m (by simp)).1.made hb), Fr.n1 q3 (q5 m (by simp)).2⟩
theorem dn_step3 (hsz : listed.size = 38) (h6 : listed.getD 36 true = false) (h7 : listed.getD 37 true = false) (hW : DnW x how pb wS Y Z WB) (hC : DnC x how pb wS Y Z w0.heap.size WB listed a w) (l2 : listed.getD 2 false = true) : wpOp Tryz.prog dnOps Q 3 (DnI x how pb w0 wS Y Z WB (listed.setIfInBounds 3 true)) a w := by
  obtain ⟨o, e1, g, d, op, _⟩ := dn_op3
  have v2 := hC.vals 2 (by omega) l2
  obtain ⟨m, q1, q2, q3, q4⟩ := v2
  refine wpOp_of e1 g (st_slice1 op q1 ?_)
  rw [d]
  exact DnC.put hsz h6 h7 hC (i := 3) (by omega) (up_alloc _ _) ⟨w.heap.size, [m], rfl, heap_new w (mtObj1 m), hW.base hC.low, by simp only [List.map_cons, List.map_nil, q2], fun y hy => by obtain rfl : y = m := (by simpa using hy); exact ⟨q3.made (up_alloc _ _), q4⟩⟩
theorem dn_step4 (hsz : listed.size = 38) (h6 : listed.getD 36 true = false) (h7 : listed.getD 37 true = false) (hW : DnW x how pb wS Y Z WB) (hC : DnC x how pb wS Y Z w0.heap.size WB listed a w) (l3 : listed.getD 3 false = true) : wpOp Tryz.prog dnOps Q 4 (DnI x how pb w0 wS Y Z WB (listed.setIfInBounds 4 true)) a w := by
  obtain ⟨o, e1, g, d, op, _⟩ := dn_op4
  have v3 := hC.vals 3 (by omega) l3
  obtain ⟨g1, ms, q1, q2, q3, q4, q5⟩ := v3
  obtain ⟨m, rfl⟩ : ∃ m, ms = [m] := one_of q4
  have qw : m.w = (W.n1 3 x.w) := by simpa using q4
  refine wpOp_of e1 g (st_make op q1 fun w' hb => ?_)
  rw [d]
  refine DnC.put hsz h6 h7 hC (i := 4) (by omega) hb ⟨.n1 3 g1 1 m, rfl, by simp only [Mt.w, qw], sl1_has ((hb.block g1 (lt_blk q2)).trans q2) ((q5 m (by simp)).1.made hb), Fr.n1 q3 (q5 m (by simp)).2⟩
theorem dn_step5 (hsz : listed.size = 38) (h6 : listed.getD 36 true = false) (h7 : listed.getD 37 true = false) (hW : DnW x how pb wS Y Z WB) (hC : DnC x how pb wS Y Z w0.heap.size WB listed a w) : wpOp Tryz.prog dnOps Q 5 (DnI x how pb w0 wS Y Z WB (listed.setIfInBounds 5 true)) a w := by
  obtain ⟨o, e1, g, d, op⟩ := dn_op5
  refine wpOp_of e1 g (st_load op hC.fix.s2 (hW.kx.low hC.low) ?_)
  rw [d]
  exact DnC.put hsz h6 h7 hC (i := 5) (by omega) (Below.refl _ _) ⟨x, rfl, rfl, hW.xh.below hC.low hW.xh.lt, Fr.self _ _ _⟩
theorem dn_step6 (hsz : listed.size = 38) (h6 : listed.getD 36 true = false) (h7 : listed.getD 37 true = false) (hW : DnW x how pb wS Y Z WB) (hC : DnC x how pb wS Y Z w0.heap.size WB listed a w) : wpOp Tryz.prog dnOps Q 6 (DnI x how pb w0 wS Y Z WB (listed.setIfInBounds 6 true)) a w := by
  obtain ⟨o, e1, g, d, op⟩ := dn_op6
  refine wpOp_of e1 g (st_load op hC.fix.s5 (hW.ky.low hC.low) ?_)
  rw [d]
  exact DnC.put hsz h6 h7 hC (i := 6) (by omega) (Below.refl _ _) ⟨.n0 0 0, rfl, rfl, trivial, Fr.n0⟩
theorem dn_step7 (hsz : listed.size = 38) (h6 : listed.getD 36 true = false) (h7 : listed.getD 37 true = false) (hW : DnW x how pb wS Y Z WB) (hC : DnC x how pb wS Y Z w0.heap.size WB listed a w) (l5 : listed.getD 5 false = true) (l6 : listed.getD 6 false = true) : wpOp Tryz.prog dnOps Q 7 (DnI x how pb w0 wS Y Z WB (listed.setIfInBounds 7 true)) a w := by
  obtain ⟨o, e1, g, d, op, _, _⟩ := dn_op7
  have v5 := hC.vals 5 (by omega) l5
  have v6 := hC.vals 6 (by omega) l6
  obtain ⟨m, q1, q2, q3, q4⟩ := v5
  obtain ⟨m', r1, r2, r3, r4⟩ := v6
  refine wpOp_of e1 g (st_slice2 op q1 r1 ?_)
  rw [d]
  refine DnC.put hsz h6 h7 hC (i := 7) (by omega) (up_alloc _ _) ⟨w.heap.size, [m, m'], rfl, heap_new w (mtObj2 m m'), hW.base hC.low, by simp only [List.map_cons, List.map_nil, q2, r2], fun y hy => ?_⟩
  rcases (show y = m ∨ y = m' by simpa using hy) with rfl | rfl
  · exact ⟨q3.made (up_alloc _ _), q4⟩
  · exact ⟨r3.made (up_alloc _ _), r4⟩
theorem dn_step8 (hsz : listed.size = 38) (h6 : listed.getD 36 true = false) (h7 : listed.getD 37 true = false) (hW : DnW x how pb wS Y Z WB) (hC : DnC x how pb wS Y Z w0.heap.size WB listed a w) (l7 : listed.getD 7 false = true) : wpOp Tryz.prog dnOps Q 8 (DnI x how pb w0 wS Y Z WB (listed.setIfInBounds 8 true)) a w := by
  obtain ⟨o, e1, g, d, op, _⟩ := dn_op8
  have v7 := hC.vals 7 (by omega) l7
  obtain ⟨g1, ms, q1, q2, q3, q4, q5⟩ := v7
  obtain ⟨m, m', rfl⟩ : ∃ m m', ms = [m, m'] := two_of q4
  obtain ⟨qw, qw'⟩ : m.w = x.w ∧ m'.w = (W.n0 0 0) := by simpa using q4
  refine wpOp_of e1 g (st_make op q1 fun w' hb => ?_)
  rw [d]
  refine DnC.put hsz h6 h7 hC (i := 8) (by omega) hb ⟨.n2 4 g1 2 m m', rfl, by simp only [Mt.w, qw, qw'], sl2_has ((hb.block g1 (lt_blk q2)).trans q2) ((q5 m (by simp)).1.made hb) ((q5 m' (by simp)).1.made hb), Fr.n2 q3 (q5 m (by simp)).2 (q5 m' (by simp)).2⟩
theorem dn_step9 (hsz : listed.size = 38) (h6 : listed.getD 36 true = false) (h7 : listed.getD 37 true = false) (hW : DnW x how pb wS Y Z WB) (hC : DnC x how pb wS Y Z w0.heap.size WB listed a w) : wpOp Tryz.prog dnOps Q 9 (DnI x how pb w0 wS Y Z WB (listed.setIfInBounds 9 true)) a w := by
  obtain ⟨o, e1, g, d, op⟩ := dn_op9
  refine wpOp_of e1 g (st_load op hC.fix.s5 (hW.ky.low hC.low) ?_)
  rw [d]
  exact DnC.put hsz h6 h7 hC (i := 9) (by omega) (Below.refl _ _) ⟨.n0 0 0, rfl, rfl, trivial, Fr.n0⟩
theorem dn_step10 (hsz : listed.size = 38) (h6 : listed.getD 36 true = false) (h7 : listed.getD 37 true = false) (hW : DnW x how pb wS Y Z WB) (hC : DnC x how pb wS Y Z w0.heap.size WB listed a w) : wpOp Tryz.prog dnOps Q 10 (DnI x how pb w0 wS Y Z WB (listed.setIfInBounds 10 true)) a w := by
  obtain ⟨o, e1, g, d, op⟩ := dn_op10
  refine wpOp_of e1 g (st_load op hC.fix.s2 (hW.kx.low hC.low) ?_)
  rw [d]
  exact DnC.put hsz h6 h7 hC (i := 10) (by omega) (Below.refl _ _) ⟨x, rfl, rfl, hW.xh.below hC.low hW.xh.lt, Fr.self _ _ _⟩
theorem dn_step11 (hsz : listed.size = 38) (h6 : listed.getD 36 true = false) (h7 : listed.getD 37 true = false) (hW : DnW x how pb wS Y Z WB) (hC : DnC x how pb wS Y Z w0.heap.size WB listed a w) (l9 : listed.getD 9 false = true) (l10 : listed.getD 10 false = true) : wpOp Tryz.prog dnOps Q 11 (DnI x how pb w0 wS Y Z WB (listed.setIfInBounds 11 true)) a w := by
  obtain ⟨o, e1, g, d, op, _, _⟩ := dn_op11
  have v9 := hC.vals 9 (by omega) l9
  have v10 := hC.vals 10 (by omega) l10
  obtain ⟨m, q1, q2, q3, q4⟩ := v9
  obtain ⟨m', r1, r2, r3, r4⟩ := v10
  refine wpOp_of e1 g (st_slice2 op q1 r1 ?_)
  rw [d]
  refine DnC.put hsz h6 h7 hC (i := 11) (by omega) (up_alloc _ _) ⟨w.heap.size, [m, m'], rfl, heap_new w (mtObj2 m m'), hW.base hC.low, by simp only [List.map_cons, List.map_nil, q2, r2], fun y hy => ?_⟩
  rcases (show y = m ∨ y = m' by simpa using hy) with rfl | rfl
  · exact ⟨q3.made (up_alloc _ _), q4⟩
  · exact ⟨r3.made (up_alloc _ _), r4⟩
theorem dn_step12 (hsz : listed.size = 38) (h6 : listed.getD 36 true = false) (h7 : listed.getD 37 true = false) (hW : DnW x how pb wS Y Z WB) (hC : DnC x how pb wS Y Z w0.heap.size WB listed a w) (l11 : listed.getD 11 false = true) : wpOp Tryz.prog dnOps Q 12 (DnI x how pb w0 wS Y Z WB (listed.setIfInBounds 12 true)) a w := by
  obtain ⟨o, e1, g, d, op, _⟩ := dn_op12
  have v11 := hC.vals 11 (by omega) l11
  obtain ⟨g1, ms, q1, q2, q3, q4, q5⟩ := v11
  obtain ⟨m, m', rfl⟩ : ∃ m m', ms = [m, m'] := two_of q4
  obtain ⟨qw, qw'⟩ : m.w = (W.n0 0 0) ∧ m'.w = x.w := by simpa using q4
  refine wpOp_of e1 g (st_make op q1 fun w' hb => ?_)
  rw [d]
  refine DnC.put hsz h6 h7 hC (i := 12) (by omega) hb ⟨.n2 4 g1 2 m m', rfl, by simp only [Mt.w, qw, qw'], sl2_has ((hb.block g1 (lt_blk q2)).trans q2) ((q5 m (by simp)).1.made hb) ((q5 m' (by simp)).1.made hb), Fr.n2 q3 (q5 m (by simp)).2 (q5 m' (by simp)).2⟩
theorem dn_step13 (hsz : listed.size = 38) (h6 : listed.getD 36 true = false) (h7 : listed.getD 37 true = false) (hW : DnW x how pb wS Y Z WB) (hC : DnC x how pb wS Y Z w0.heap.size WB listed a w) : wpOp Tryz.prog dnOps Q 13 (DnI x how pb w0 wS Y Z WB (listed.setIfInBounds 13 true)) a w := by
  obtain ⟨o, e1, g, d, op⟩ := dn_op13
  refine wpOp_of e1 g (st_load op hC.fix.s2 (hW.kx.low hC.low) ?_)
  rw [d]
  exact DnC.put hsz h6 h7 hC (i := 13) (by omega) (Below.refl _ _) ⟨x, rfl, rfl, hW.xh.below hC.low hW.xh.lt, Fr.self _ _ _⟩
theorem dn_step14 (hsz : listed.size = 38) (h6 : listed.getD 36 true = false) (h7 : listed.getD 37 true = false) (hW : DnW x how pb wS Y Z WB) (hC : DnC x how pb wS Y Z w0.heap.size WB listed a w) : wpOp Tryz.prog dnOps Q 14 (DnI x how pb w0 wS Y Z WB (listed.setIfInBounds 14 true)) a w := by
  obtain ⟨o, e1, g, d, op⟩ := dn_op14
  refine wpOp_of e1 g (st_load op hC.fix.s6 (hW.kz.low hC.low) ?_)
  rw [d]
  exact DnC.put hsz h6 h7 hC (i := 14) (by omega) (Below.refl _ _) ⟨.n0 1 0, rfl, rfl, trivial, Fr.n0⟩
theorem dn_step15 (hsz : listed.size = 38) (h6 : listed.getD 36 true = false) (h7 : listed.getD 37 true = false) (hW : DnW x how pb wS Y Z WB) (hC : DnC x how pb wS Y Z w0.heap.size WB listed a w) (l13 : listed.getD 13 false = true) (l14 : listed.getD 14 false = true) : wpOp Tryz.prog dnOps Q 15 (DnI x how pb w0 wS Y Z WB (listed.setIfInBounds 15 true)) a w := by
  obtain ⟨o, e1, g, d, op, _, _⟩ := dn_op15
  have v13 := hC.vals 13 (by omega) l13
  have v14 := hC.vals 14 (by omega) l14
  obtain ⟨m, q1, q2, q3, q4⟩ := v13
  obtain ⟨m', r1, r2, r3, r4⟩ := v14
  refine wpOp_of e1 g (st_slice2 op q1 r1 ?_)
  rw [d]
  refine DnC.put hsz h6 h7 hC (i := 15) (by omega) (up_alloc _ _) ⟨w.heap.size, [m, m'], rfl, heap_new w (mtObj2 m m'), hW.base hC.low, by simp only [List.map_cons, List.map_nil, q2, r2], fun y hy => ?_⟩
  rcases (show y = m ∨ y = m' by simpa using hy) with rfl | rfl
  · exact ⟨q3.made (up_alloc _ _), q4⟩
  · exact ⟨r3.made (up_alloc _ _), r4⟩
theorem dn_step16 (hsz : listed.size = 38) (h6 : listed.getD 36 true = false) (h7 : listed.getD 37 true = false) (hW : DnW x how pb wS Y Z WB) (hC : DnC x how pb wS Y Z w0.heap.size WB listed a w) (l15 : listed.getD 15 false = true) : wpOp Tryz.prog dnOps Q 16 (DnI x how pb w0 wS Y Z WB (listed.setIfInBounds 16 true)) a w := by
  obtain ⟨o, e1, g, d, op, _⟩ := dn_op16
  have v15 := hC.vals 15 (by omega) l15
  obtain ⟨g1, ms, q1, q2, q3, q4, q5⟩ := v15
  obtain ⟨m, m', rfl⟩ : ∃ m m', ms = [m, m'] := two_of q4
  obtain ⟨qw, qw'⟩ : m.w = x.w ∧ m'.w = (W.n0 1 0) := by simpa using q4
  refine wpOp_of e1 g (st_make op q1 fun w' hb => ?_)
  rw [d]
  refine DnC.put hsz h6 h7 hC (i := 16) (by omega) hb ⟨.n2 5 g1 2 m m', rfl, by simp only [Mt.w, qw, qw'], sl2_has ((hb.block g1 (lt_blk q2)).trans q2) ((q5 m (by simp)).1.made hb) ((q5 m' (by simp)).1.made hb), Fr.n2 q3 (q5 m (by simp)).2 (q5 m' (by simp)).2⟩
theorem dn_step17 (hsz : listed.size = 38) (h6 : listed.getD 36 true = false) (h7 : listed.getD 37 true = false) (hW : DnW x how pb wS Y Z WB) (hC : DnC x how pb wS Y Z w0.heap.size WB listed a w) : wpOp Tryz.prog dnOps Q 17 (DnI x how pb w0 wS Y Z WB (listed.setIfInBounds 17 true)) a w := by
  obtain ⟨o, e1, g, d, op⟩ := dn_op17
  refine wpOp_of e1 g (st_load op hC.fix.s6 (hW.kz.low hC.low) ?_)
  rw [d]
  exact DnC.put hsz h6 h7 hC (i := 17) (by omega) (Below.refl _ _) ⟨.n0 1 0, rfl, rfl, trivial, Fr.n0⟩
theorem dn_step18 (hsz : listed.size = 38) (h6 : listed.getD 36 true = false) (h7 : listed.getD 37 true = false) (hW : DnW x how pb wS Y Z WB) (hC : DnC x how pb wS Y Z w0.heap.size WB listed a w) : wpOp Tryz.prog dnOps Q 18 (DnI x how pb w0 wS Y Z WB (listed.setIfInBounds 18 true)) a w := by
  obtain ⟨o, e1, g, d, op⟩ := dn_op18
  refine wpOp_of e1 g (st_load op hC.fix.s2 (hW.kx.low hC.low) ?_)
  rw [d]
  exact DnC.put hsz h6 h7 hC (i := 18) (by omega) (Below.refl _ _) ⟨x, rfl, rfl, hW.xh.below hC.low hW.xh.lt, Fr.self _ _ _⟩
theorem dn_step19 (hsz : listed.size = 38) (h6 : listed.getD 36 true = false) (h7 : listed.getD 37 true = false) (hW : DnW x how pb wS Y Z WB) (hC : DnC x how pb wS Y Z w0.heap.size WB listed a w) (l17 : listed.getD 17 false = true) (l18 : listed.getD 18 false = true) : wpOp Tryz.prog dnOps Q 19 (DnI x how pb w0 wS Y Z WB (listed.setIfInBounds 19 true)) a w := by
  obtain ⟨o, e1, g, d, op, _, _⟩ := dn_op19
  have v17 := hC.vals 17 (by omega) l17
  have v18 := hC.vals 18 (by omega) l18
  obtain ⟨m, q1, q2, q3, q4⟩ := v17
  obtain ⟨m', r1, r2, r3, r4⟩ := v18
  refine wpOp_of e1 g (st_slice2 op q1 r1 ?_)
  rw [d]
  refine DnC.put hsz h6 h7 hC (i := 19) (by omega) (up_alloc _ _) ⟨w.heap.size, [m, m'], rfl, heap_new w (mtObj2 m m'), hW.base hC.low, by simp only [List.map_cons, List.map_nil, q2, r2], fun y hy => ?_⟩
  rcases (show y = m ∨ y = m' by simpa using hy) with rfl | rfl
  · exact ⟨q3.made (up_alloc _ _), q4⟩
  · exact ⟨r3.made (up_alloc _ _), r4⟩
theorem dn_step20 (hsz : listed.size = 38) (h6 : listed.getD 36 true = false) (h7 : listed.getD 37 true = false) (hW : DnW x how pb wS Y Z WB) (hC : DnC x how pb wS Y Z w0.heap.size WB listed a w) (l19 : listed.getD 19 false = true) : wpOp Tryz.prog dnOps Q 20 (DnI x how pb w0 wS Y Z WB (listed.setIfInBounds 20 true)) a w := by
  obtain ⟨o, e1, g, d, op, _⟩ := dn_op20
  have v19 := hC.vals 19 (by omega) l19
  obtain ⟨g1, ms, q1, q2, q3, q4, q5⟩ := v19
  obtain ⟨m, m', rfl⟩ : ∃ m m', ms = [m, m'] := two_of q4
  obtain ⟨qw, qw'⟩ : m.w = (W.n0 1 0) ∧ m'.w = x.w := by simpa using q4
  refine wpOp_of e1 g (st_make op q1 fun w' hb => ?_)
  rw [d]
  refine DnC.put hsz h6 h7 hC (i := 20) (by omega) hb ⟨.n2 5 g1 2 m m', rfl, by simp only [Mt.w, qw, qw'], sl2_has ((hb.block g1 (lt_blk q2)).trans q2) ((q5 m (by simp)).1.made hb) ((q5 m' (by simp)).1.made hb), Fr.n2 q3 (q5 m (by simp)).2 (q5 m' (by simp)).2⟩
theorem dn_step21 (hsz : listed.size = 38) (h6 : listed.getD 36 true = false) (h7 : listed.getD 37 true = false) (hW : DnW x how pb wS Y Z WB) (hC : DnC x how pb wS Y Z w0.heap.size WB listed a w) : wpOp Tryz.prog dnOps Q 21 (DnI x how pb w0 wS Y Z WB (listed.setIfInBounds 21 true)) a w := by
  obtain ⟨o, e1, g, d, op⟩ := dn_op21
  refine wpOp_of e1 g (st_load op hC.fix.s2 (hW.kx.low hC.low) ?_)
  rw [d]
  exact DnC.put hsz h6 h7 hC (i := 21) (by omega) (Below.refl _ _) ⟨x, rfl, rfl, hW.xh.below hC.low hW.xh.lt, Fr.self _ _ _⟩
theorem dn_step22 (hsz : listed.size = 38) (h6 : listed.getD 36 true = false) (h7 : listed.getD 37 true = false) (hW : DnW x how pb wS Y Z WB) (hC : DnC x how pb wS Y Z w0.heap.size WB listed a w) : wpOp Tryz.prog dnOps Q 22 (DnI x how pb w0 wS Y Z WB (listed.setIfInBounds 22 true)) a w := by
  obtain ⟨o, e1, g, d, op⟩ := dn_op22
  refine wpOp_of e1 g (st_load op hC.fix.s2 (hW.kx.low hC.low) ?_)
  rw [d]
  exact DnC.put hsz h6 h7 hC (i := 22) (by omega) (Below.refl _ _) ⟨x, rfl, rfl, hW.xh.below hC.low hW.xh.lt, Fr.self _ _ _⟩
theorem dn_step23 (hsz : listed.size = 38) (h6 : listed.getD 36 true = false) (h7 : listed.getD 37 true = false) (hW : DnW x how pb wS Y Z WB) (hC : DnC x how pb wS Y Z w0.heap.size WB listed a w) (l22 : listed.getD 22 false = true) : wpOp Tryz.prog dnOps Q 23 (DnI x how pb w0 wS Y Z WB (listed.setIfInBounds 23 true)) a w := by
  obtain ⟨o, e1, g, d, op, _⟩ := dn_op23
  have v22 := hC.vals 22 (by omega) l22
  obtain ⟨m, q1, q2, q3, q4⟩ := v22
  refine wpOp_of e1 g (st_copy op q1 q3 fun m9 w' hc => ?_)
  rw [d]
  exact DnC.put hsz h6 h7 hC (i := 23) (by omega) hc.2.2.2 ⟨m9, rfl, hc.1.trans q2, hc.2.1, Fr.new hc.2.2.1 (hW.base hC.low)⟩
theorem dn_step24 (hsz : listed.size = 38) (h6 : listed.getD 36 true = false) (h7 : listed.getD 37 true = false) (hW : DnW x how pb wS Y Z WB) (hC : DnC x how pb wS Y Z w0.heap.size WB listed a w) (l21 : listed.getD 21 false = true) (l23 : listed.getD 23 false = true) : wpOp Tryz.prog dnOps Q 24 (DnI x how pb w0 wS Y Z WB (listed.setIfInBounds 24 true)) a w := by
  obtain ⟨o, e1, g, d, op, _, _⟩ := dn_op24
  have v21 := hC.vals 21 (by omega) l21
  have v23 := hC.vals 23 (by omega) l23
  obtain ⟨m, q1, q2, q3, q4⟩ := v21
  obtain ⟨m', r1, r2, r3, r4⟩ := v23
  refine wpOp_of e1 g (st_slice2 op q1 r1 ?_)
  rw [d]
  refine DnC.put hsz h6 h7 hC (i := 24) (by omega) (up_alloc _ _) ⟨w.heap.size, [m, m'], rfl, heap_new w (mtObj2 m m'), hW.base hC.low, by simp only [List.map_cons, List.map_nil, q2, r2], fun y hy => ?_⟩
  rcases (show y = m ∨ y = m' by simpa using hy) with rfl | rfl
  · exact ⟨q3.made (up_alloc _ _), q4⟩
  · exact ⟨r3.made (up_alloc _ _), r4⟩
theorem dn_step25 (hsz : listed.size = 38) (h6 : listed.getD 36 true = false) (h7 : listed.getD 37 true = false) (hW : DnW x how pb wS Y Z WB) (hC : DnC x how pb wS Y Z w0.heap.size WB listed a w) (l24 : listed.getD 24 false = true) : wpOp Tryz.prog dnOps Q 25 (DnI x how pb w0 wS Y Z WB (listed.setIfInBounds 25 true)) a w := by
  obtain ⟨o, e1, g, d, op, _⟩ := dn_op25
  have v24 := hC.vals 24 (by omega) l24
  obtain ⟨g1, ms, q1, q2, q3, q4, q5⟩ := v24
  obtain ⟨m, m', rfl⟩ : ∃ m m', ms = [m, m'] := two_of q4
  obtain ⟨qw, qw'⟩ : m.w = x.w ∧ m'.w = x.w := by simpa using q4
  refine wpOp_of e1 g (st_make op q1 fun w' hb => ?_)
  rw [d]
  refine DnC.put hsz h6 h7 hC (i := 25) (by omega) hb ⟨.n2 4 g1 2 m m', rfl, by simp only [Mt.w, qw, qw'], sl2_has ((hb.block g1 (lt_blk q2)).trans q2) ((q5 m (by simp)).1.made hb) ((q5 m' (by simp)).1.made hb), Fr.n2 q3 (q5 m (by simp)).2 (q5 m' (by simp)).2⟩
theorem dn_step26 (hsz : listed.size = 38) (h6 : listed.getD 36 true = false) (h7 : listed.getD 37 true = false) (hW : DnW x how pb wS Y Z WB) (hC : DnC x how pb wS Y Z w0.heap.size WB listed a w) : wpOp Tryz.prog dnOps Q 26 (DnI x how pb w0 wS Y Z WB (listed.setIfInBounds 26 true)) a w := by
  obtain ⟨o, e1, g, d, op⟩ := dn_op26
  refine wpOp_of e1 g (st_load op hC.fix.s2 (hW.kx.low hC.low) ?_)
  rw [d]
  exact DnC.put hsz h6 h7 hC (i := 26) (by omega) (Below.refl _ _) ⟨x, rfl, rfl, hW.xh.below hC.low hW.xh.lt, Fr.self _ _ _⟩
theorem dn_step27 (hsz : listed.size = 38) (h6 : listed.getD 36 true = false) (h7 : listed.getD 37 true = false) (hW : DnW x how pb wS Y Z WB) (hC : DnC x how pb wS Y Z w0.heap.size WB listed a w) : wpOp Tryz.prog dnOps Q 27 (DnI x how pb w0 wS Y Z WB (listed.setIfInBounds 27 true)) a w := by
  obtain ⟨o, e1, g, d, op⟩ := dn_op27
  refine wpOp_of e1 g (st_load op hC.fix.s2 (hW.kx.low hC.low) ?_)
  rw [d]
  exact DnC.put hsz h6 h7 hC (i := 27) (by omega) (Below.refl _ _) ⟨x, rfl, rfl, hW.xh.below hC.low hW.xh.lt, Fr.self _ _ _⟩
theorem dn_step28 (hsz : listed.size = 38) (h6 : listed.getD 36 true = false) (h7 : listed.getD 37 true = false) (hW : DnW x how pb wS Y Z WB) (hC : DnC x how pb wS Y Z w0.heap.size WB listed a w) (l27 : listed.getD 27 false = true) : wpOp Tryz.prog dnOps Q 28 (DnI x how pb w0 wS Y Z WB (listed.setIfInBounds 28 true)) a w := by
  obtain ⟨o, e1, g, d, op, _⟩ := dn_op28
  have v27 := hC.vals 27 (by omega) l27
  obtain ⟨m, q1, q2, q3, q4⟩ := v27
  refine wpOp_of e1 g (st_copy op q1 q3 fun m9 w' hc => ?_)
  rw [d]
  exact DnC.put hsz h6 h7 hC (i := 28) (by omega) hc.2.2.2 ⟨m9, rfl, hc.1.trans q2, hc.2.1, Fr.new hc.2.2.1 (hW.base hC.low)⟩
theorem dn_step29 (hsz : listed.size = 38) (h6 : listed.getD 36 true = false) (h7 : listed.getD 37 true = false) (hW : DnW x how pb wS Y Z WB) (hC : DnC x how pb wS Y Z w0.heap.size WB listed a w) (l26 : listed.getD 26 false = true) (l28 : listed.getD 28 false = true) : wpOp Tryz.prog dnOps Q 29 (DnI x how pb w0 wS Y Z WB (listed.setIfInBounds 29 true)) a w := by
  obtain ⟨o, e1, g, d, op, _, _⟩ := dn_op29
  have v26 := hC.vals 26 (by omega) l26
  have v28 := hC.vals 28 (by omega) l28
  obtain ⟨m, q1, q2, q3, q4⟩ := v26
  obtain ⟨m', r1, r2, r3, r4⟩ := v28
  refine wpOp_of e1 g (st_slice2 op q1 r1 ?_)
  rw [d]
  refine DnC.put hsz h6 h7 hC (i := 29) (by omega) (up_alloc _ _) ⟨w.heap.size, [m, m'], rfl, heap_new w (mtObj2 m m'), hW.base hC.low, by simp only [List.map_cons, List.map_nil, q2, r2], fun y hy => ?_⟩
  rcases (show y = m ∨ y = m' by simpa using hy) with rfl | rfl
  · exact ⟨q3.made (up_alloc _ _), q4⟩
  · exact ⟨r3.made (up_alloc _ _), r4⟩
theorem dn_step30 (hsz : listed.size = 38) (h6 : listed.getD 36 true = false) (h7 : listed.getD 37 true = false) (hW : DnW x how pb wS Y Z WB) (hC : DnC x how pb wS Y Z w0.heap.size WB listed a w) (l29 : listed.getD 29 false = true) : wpOp Tryz.prog dnOps Q 30 (DnI x how pb w0 wS Y Z WB (listed.setIfInBounds 30 true)) a w := by
  obtain ⟨o, e1, g, d, op, _⟩ := dn_op30
  have v29 := hC.vals 29 (by omega) l29
  obtain ⟨g1, ms, q1, q2, q3, q4, q5⟩ := v29
  obtain ⟨m, m', rfl⟩ : ∃ m m', ms = [m, m'] := two_of q4
  obtain ⟨qw, qw'⟩ : m.w = x.w ∧ m'.w = x.w := by simpa using q4
  refine wpOp_of e1 g (st_make op q1 fun w' hb => ?_)
  rw [d]
  refine DnC.put hsz h6 h7 hC (i := 30) (by omega) hb ⟨.n2 5 g1 2 m m', rfl, by simp only [Mt.w, qw, qw'], sl2_has ((hb.block g1 (lt_blk q2)).trans q2) ((q5 m (by simp)).1.made hb) ((q5 m' (by simp)).1.made hb), Fr.n2 q3 (q5 m (by simp)).2 (q5 m' (by simp)).2⟩
theorem dn_step31 (hsz : listed.size = 38) (h6 : listed.getD 36 true = false) (h7 : listed.getD 37 true = false) (hW : DnW x how pb wS Y Z WB) (hC : DnC x how pb wS Y Z w0.heap.size WB listed a w) (l4 : listed.getD 4 false = true) (l8 : listed.getD 8 false = true) (l12 : listed.getD 12 false = true) (l16 : listed.getD 16 false = true) (l20 : listed.getD 20 false = true) (l25 : listed.getD 25 false = true) (l30 : listed.getD 30 false = true) : wpOp Tryz.prog dnOps Q 31 (DnI x how pb w0 wS Y Z WB (listed.setIfInBounds 31 true)) a w := by
  obtain ⟨o, e1, g, d, op, _, _, _, _, _, _, _⟩ := dn_op31
  have v4 := hC.vals 4 (by omega) l4
  have v8 := hC.vals 8 (by omega) l8
  have v12 := hC.vals 12 (by omega) l12
  have v16 := hC.vals 16 (by omega) l16
  have v20 := hC.vals 20 (by omega) l20
  have v25 := hC.vals 25 (by omega) l25
  have v30 := hC.vals 30 (by omega) l30
  obtain ⟨m0, p0, q0, r0, f0⟩ := v4
  obtain ⟨m1, p1, q1, r1, f1⟩ := v8
  obtain ⟨m2, p2, q2, r2, f2⟩ := v12
  obtain ⟨m3, p3, q3, r3, f3⟩ := v16
  obtain ⟨m4, p4, q4, r4, f4⟩ := v20
  obtain ⟨m5, p5, q5, r5, f5⟩ := v25
  obtain ⟨m6, p6, q6, r6, f6⟩ := v30
  refine wpOp_of e1 g (st_slice7 op p0 p1 p2 p3 p4 p5 p6 ?_)
  rw [d]
  refine DnC.put hsz h6 h7 hC (i := 31) (by omega) (up_alloc _ _) ⟨w.heap.size, [m0, m1, m2, m3, m4, m5, m6], rfl, heap_new w _, hW.base hC.low, by simp only [List.map_cons, List.map_nil, q0, q1, q2, q3, q4, q5, q6], fun y hy => ?_⟩
  rcases (show y = m0 ∨ y = m1 ∨ y = m2 ∨ y = m3 ∨ y = m4 ∨ y = m5 ∨ y = m6 by simpa using hy) with rfl | rfl | rfl | rfl | rfl | rfl | rfl
  · exact ⟨r0.made (up_alloc _ _), f0⟩
  · exact ⟨r1.made (up_alloc _ _), f1⟩
  · exact ⟨r2.made (up_alloc _ _), f2⟩
  · exact ⟨r3.made (up_alloc _ _), f3⟩
  · exact ⟨r4.made (up_alloc _ _), f4⟩
  · exact ⟨r5.made (up_alloc _ _), f5⟩
  · exact ⟨r6.made (up_alloc _ _), f6⟩
theorem dn_step32 (hsz : listed.size = 38) (h6 : listed.getD 36 true = false) (h7 : listed.getD 37 true = false) (hW : DnW x how pb wS Y Z WB) (hC : DnC x how pb wS Y Z w0.heap.size WB listed a w) : wpOp Tryz.prog dnOps Q 32 (DnI x how pb w0 wS Y Z WB (listed.setIfInBounds 32 true)) a w := by
  obtain ⟨o, e1, g, d, op⟩ := dn_op32
  refine wpOp_of e1 g (st_loadint op hC.fix.s1 (show w.cell? pb = some (.int .i64 how) from (hC.low.cell (lt_of_cell hW.ch)).trans hW.ch) ?_)
  rw [d]
  exact DnC.put hsz h6 h7 hC (i := 32) (by omega) (Below.refl _ _) rfl
theorem dn_step33 (hsz : listed.size = 38) (h6 : listed.getD 36 true = false) (h7 : listed.getD 37 true = false) (hW : DnW x how pb wS Y Z WB) (hC : DnC x how pb wS Y Z w0.heap.size WB listed a w) (l32 : listed.getD 32 false = true) (hh0 : -9223372036854775808 ≤ how) (hh1 : how ≤ 9223372036854775807) : wpOp Tryz.prog dnOps Q 33 (DnI x how pb w0 wS Y Z WB (listed.setIfInBounds 33 true)) a w := by
  obtain ⟨o, e1, g, d, op, _⟩ := dn_op33
  have v32 := hC.vals 32 (by omega) l32
  refine wpOp_of e1 g (st_pick op v32 hh0 hh1 (by omega) (by omega) ?_)
  rw [d]
  exact DnC.put hsz h6 h7 hC (i := 33) (by omega) (Below.refl _ _) rfl
theorem dn_step34 (hsz : listed.size = 38) (h6 : listed.getD 36 true = false) (h7 : listed.getD 37 true = false) (hW : DnW x how pb wS Y Z WB) (hC : DnC x how pb wS Y Z w0.heap.size WB listed a w) (l31 : listed.getD 31 false = true) (l33 : listed.getD 33 false = true) : wpOp Tryz.prog dnOps Q 34 (DnI x how pb w0 wS Y Z WB (listed.setIfInBounds 34 true)) a w := by
  obtain ⟨o, e1, g, d, op, _, _⟩ := dn_op34
  have v31 := hC.vals 31 (by omega) l31
  have v33 := hC.vals 33 (by omega) l33
  obtain ⟨g1, ms, q1, q2, q3, q4, q5⟩ := v31
  have hp := pick_range (x := how) (n := 7) (by omega)
  obtain ⟨J, hJ⟩ : ∃ J : Nat, pick how 7 = J := ⟨(pick how 7).toNat, by omega⟩
  have hlen : ms.length = 7 := by have := congrArg List.length q4; simpa using this
  have hJ7 : J < ms.length := by omega
  have v33' : a.tmps.getD (9 + 33) undef = .int .i64 (J : Int) := by rw [← hJ]; exact v33
  refine wpOp_of e1 g (st_index op q1 v33' hJ7 ?_)
  rw [d]
  obtain ⟨c0, c1, c2⟩ := mtCells_at ms J hJ7
  refine DnC.put hsz h6 h7 hC (i := 34) (by omega) (Below.refl _ _) ⟨g1, ms[J], by rw [hJ]; rfl, ?_, ?_, (q5 _ (List.getElem_mem hJ7)).1, (q5 _ (List.getElem_mem hJ7)).2⟩
  · rw [hJ, show ((J : Int)).toNat = J from rfl, Nat.mul_comm J 3]
    exact ⟨by rw [fld_cell q2]; simpa using c0, by rw [fld_cell q2]; simpa using c1, by rw [fld_cell q2]; simpa using c2⟩
  · unfold dnPart
    rw [hJ, show ((J : Int)).toNat = J from rfl, show dnSeven x.w = ms.map Mt.w from q4.symm]
    simp [List.getD, hJ7]
theorem dn_step35 (hsz : listed.size = 38) (h6 : listed.getD 36 true = false) (h7 : listed.getD 37 true = false) (hW : DnW x how pb wS Y Z WB) (hC : DnC x how pb wS Y Z w0.heap.size WB listed a w) (l34 : listed.getD 34 false = true) : wpOp Tryz.prog dnOps Q 35 (DnI x how pb w0 wS Y Z WB (listed.setIfInBounds 35 true)) a w := by
  obtain ⟨o, e1, g, d, op, _⟩ := dn_op35
  have v34 := hC.vals 34 (by omega) l34
  obtain ⟨g1, m, q1, q2, q3, q4, q5⟩ := v34
  refine wpOp_of e1 g (st_load op q1 q2 ?_)
  rw [d]
  exact DnC.put hsz h6 h7 hC (i := 35) (by omega) (Below.refl _ _) ⟨m, rfl, q3, q4, q5⟩
theorem dn_step36 (hsz : listed.size = 38) (h7 : listed.getD 37 true = false) (hW : DnW x how pb wS Y Z WB) (h0 : w0.heap.size ≤ wS.heap.size) (hC : DnC x how pb wS Y Z w0.heap.size WB listed a w) (hall : ∀ j, j < 36 → listed.getD j false = true) : wpOp Tryz.prog dnOps Q 36 (DnI x how pb w0 wS Y Z WB (listed.setIfInBounds 36 true)) a w := by
  obtain ⟨o, e1, g, d, op, _⟩ := dn_op36
  obtain ⟨m, q1, q2, q3, q4⟩ := hC.vals 35 (by omega) (hall 35 (by omega))
  have hres : w.heap[wS.heap.size + 1]? = some (Obj.cells #[.int .i64 0, .int .i64 0, .slice none 0 0] 29) := (hC.low.block _ (lt_blk hW.head.res)).trans hW.head.res
  refine wpOp_of e1 g (st_store op d hC.fix.s3 q1 (res_at hres) ?_)
  refine ⟨by simp [hsz], .inr (.inl ⟨fun i hi => ?_, ?_, hC.fix, m, by_fr (dn_part x.w how) hW.rx h0 q3 q2 (hW.head.below.trans (hC.low.mono hW.head.below.size)) q4, set3_new hres⟩)⟩
  · rw [getD_listed]
    by_cases e : i = 36
    · rw [if_pos ⟨e.symm, by omega⟩]
    · rw [if_neg (by omega)]
      have := hall i (by omega)
      rcases Nat.lt_or_ge i listed.size with h | h
      · simp [h] at this ⊢; exact this
      · omega
  · rw [getD_listed, if_neg (by omega)]; exact h7
theorem dn_step37 (hsz : listed.size = 38) (hall : ∀ i, i < 37 → listed.getD i true = true) (hB : DnB pb wS.heap.size Y Z false a) (hF : DnF x how w0 wS w) : wpOp Tryz.prog dnOps Q 37 (DnI x how pb w0 wS Y Z WB (listed.setIfInBounds 37 true)) a w := by
  obtain ⟨o, e1, g, d, op, _⟩ := dn_op37
  refine wpOp_of e1 g (st_assign op ?_)
  rw [d]
  have hs := hB.size
  have e : ∀ t, t ≠ 4 → (a.put (some 4) (.bool true)).tmps.getD t undef = a.tmps.getD t undef := fun t ht => by rw [getD_put (by omega), if_neg ht]
  refine ⟨by simp [hsz], .inr (.inr ⟨fun i hi => ?_, ⟨by show (a.tmps.setIfInBounds 4 _).size = 45; simp [hs], hB.defers, (e 1 (by omega)).trans hB.s1, (e 2 (by omega)).trans hB.s2, (e 3 (by omega)).trans hB.s3, by rw [getD_put (by omega), if_pos rfl], (e 5 (by omega)).trans hB.s5, (e 6 (by omega)).trans hB.s6⟩, hF⟩)⟩
  rw [getD_listed]
  by_cases e : i = 37
  · rw [if_pos ⟨e.symm, by omega⟩]
  · rw [if_neg (by omega)]; exact hall i (by omega)
theorem dn_step (hW : DnW x how pb wS Y Z WB) (h0 : w0.heap.size ≤ wS.heap.size) (hh0 : -9223372036854775808 ≤ how) (hh1 : how ≤ 9223372036854775807) (i : Nat) (hI : DnI x how pb w0 wS Y Z WB listed a w) (hi : i ∈ Region.ready .any dnOps listed) : wpOp Tryz.prog dnOps Q i (DnI x how pb w0 wS Y Z WB (listed.setIfInBounds i true)) a w := by
  obtain ⟨hun, oj, hoj, hall⟩ := mem_ready.1 hi
  have hi38 : i < 38 := by
    have := (Array.getElem?_eq_some_iff.1 hoj).1
    rw [dn_size] at this
    exact this
  obtain ⟨hsz, ⟨h6, h7, hC⟩ | ⟨hup, h7, hB, hF⟩ | ⟨hup, hB, hF⟩⟩ := hI
  · have up : ∀ j, depOn oj j = true → listed.getD j false = true := fun j hd => dep_up hall hd
    clear hall hi
    match i, hi38 with
    | 0, _ =>
      obtain ⟨o, e1, g, d, op⟩ := dn_op0
      obtain rfl : o = oj := Option.some.inj (e1.symm.trans hoj)
      exact dn_step0 hsz h6 h7 hW hC
    | 1, _ =>
      obtain ⟨o, e1, g, d, op, p0⟩ := dn_op1
      obtain rfl : o = oj := Option.some.inj (e1.symm.trans hoj)
      exact dn_step1 hsz h6 h7 hW hC (up 0 p0)
    | 2, _ =>
      obtain ⟨o, e1, g, d, op, p1⟩ := dn_op2
      obtain rfl : o = oj := Option.some.inj (e1.symm.trans hoj)
      exact dn_step2 hsz h6 h7 hW hC (up 1 p1)
    | 3, _ =>
      obtain ⟨o, e1, g, d, op, p2⟩ := dn_op3
      obtain rfl : o = oj := Option.some.inj (e1.symm.trans hoj)
      exact dn_step3 hsz h6 h7 hW hC (up 2 p2)
    | 4, _ =>
      obtain ⟨o, e1, g, d, op, p3⟩ := dn_op4
      obtain rfl : o = oj := Option.some.inj (e1.symm.trans hoj)
      exact dn_step4 hsz h6 h7 hW hC (up 3 p3)
    | 5, _ =>
      obtain ⟨o, e1, g, d, op⟩ := dn_op5
      obtain rfl : o = oj := Option.some.inj (e1.symm.trans hoj)
      exact dn_step5 hsz h6 h7 hW hC
    | 6, _ =>
      obtain ⟨o, e1, g, d, op⟩ := dn_op6
      obtain rfl : o = oj := Option.some.inj (e1.symm.trans hoj)
      exact dn_step6 hsz h6 h7 hW hC
    | 7, _ =>
      obtain ⟨o, e1, g, d, op, p5, p6⟩ := dn_op7
      obtain rfl : o = oj := Option.some.inj (e1.symm.trans hoj)
      exact dn_step7 hsz h6 h7 hW hC (up 5 p5) (up 6 p6)
    | 8, _ =>
      obtain ⟨o, e1, g, d, op, p7⟩ := dn_op8
      obtain rfl : o = oj := Option.some.inj (e1.symm.trans hoj)
      exact dn_step8 hsz h6 h7 hW hC (up 7 p7)
    | 9, _ =>
      obtain ⟨o, e1, g, d, op⟩ := dn_op9
      obtain rfl : o = oj := Option.some.inj (e1.symm.trans hoj)
      exact dn_step9 hsz h6 h7 hW hC
    | 10, _ =>
      obtain ⟨o, e1, g, d, op⟩ := dn_op10
      obtain rfl : o = oj := Option.some.inj (e1.symm.trans hoj)
      exact dn_step10 hsz h6 h7 hW hC
    | 11, _ =>
      obtain ⟨o, e1, g, d, op, p9, p10⟩ := dn_op11
      obtain rfl : o = oj := Option.some.inj (e1.symm.trans hoj)
      exact dn_step11 hsz h6 h7 hW hC (up 9 p9) (up 10 p10)
    | 12, _ =>
      obtain ⟨o, e1, g, d, op, p11⟩ := dn_op12
      obtain rfl : o = oj := Option.some.inj (e1.symm.trans hoj)
      exact dn_step12 hsz h6 h7 hW hC (up 11 p11)
    | 13, _ =>
      obtain ⟨o, e1, g, d, op⟩ := dn_op13
      obtain rfl : o = oj := Option.some.inj (e1.symm.trans hoj)
      exact dn_step13 hsz h6 h7 hW hC
    | 14, _ =>
      obtain ⟨o, e1, g, d, op⟩ := dn_op14
      obtain rfl : o = oj := Option.some.inj (e1.symm.trans hoj)
      exact dn_step14 hsz h6 h7 hW hC
    | 15, _ =>
      obtain ⟨o, e1, g, d, op, p13, p14⟩ := dn_op15
      obtain rfl : o = oj := Option.some.inj (e1.symm.trans hoj)
      exact dn_step15 hsz h6 h7 hW hC (up 13 p13) (up 14 p14)
    | 16, _ =>
      obtain ⟨o, e1, g, d, op, p15⟩ := dn_op16
      obtain rfl : o = oj := Option.some.inj (e1.symm.trans hoj)
      exact dn_step16 hsz h6 h7 hW hC (up 15 p15)
    | 17, _ =>
      obtain ⟨o, e1, g, d, op⟩ := dn_op17
      obtain rfl : o = oj := Option.some.inj (e1.symm.trans hoj)
      exact dn_step17 hsz h6 h7 hW hC
    | 18, _ =>
      obtain ⟨o, e1, g, d, op⟩ := dn_op18
      obtain rfl : o = oj := Option.some.inj (e1.symm.trans hoj)
      exact dn_step18 hsz h6 h7 hW hC
    | 19, _ =>
      obtain ⟨o, e1, g, d, op, p17, p18⟩ := dn_op19
      obtain rfl : o = oj := Option.some.inj (e1.symm.trans hoj)
      exact dn_step19 hsz h6 h7 hW hC (up 17 p17) (up 18 p18)
    | 20, _ =>
      obtain ⟨o, e1, g, d, op, p19⟩ := dn_op20
      obtain rfl : o = oj := Option.some.inj (e1.symm.trans hoj)
      exact dn_step20 hsz h6 h7 hW hC (up 19 p19)
    | 21, _ =>
      obtain ⟨o, e1, g, d, op⟩ := dn_op21
      obtain rfl : o = oj := Option.some.inj (e1.symm.trans hoj)
      exact dn_step21 hsz h6 h7 hW hC
    | 22, _ =>
      obtain ⟨o, e1, g, d, op⟩ := dn_op22
      obtain rfl : o = oj := Option.some.inj (e1.symm.trans hoj)
      exact dn_step22 hsz h6 h7 hW hC
    | 23, _ =>
      obtain ⟨o, e1, g, d, op, p22⟩ := dn_op23
      obtain rfl : o = oj := Option.some.inj (e1.symm.trans hoj)
      exact dn_step23 hsz h6 h7 hW hC (up 22 p22)
    | 24, _ =>
      obtain ⟨o, e1, g, d, op, p21, p23⟩ := dn_op24
      obtain rfl : o = oj := Option.some.inj (e1.symm.trans hoj)
      exact dn_step24 hsz h6 h7 hW hC (up 21 p21) (up 23 p23)
    | 25, _ =>
      obtain ⟨o, e1, g, d, op, p24⟩ := dn_op25
      obtain rfl : o = oj := Option.some.inj (e1.symm.trans hoj)
      exact dn_step25 hsz h6 h7 hW hC (up 24 p24)
    | 26, _ =>
      obtain ⟨o, e1, g, d, op⟩ := dn_op26
      obtain rfl : o = oj := Option.some.inj (e1.symm.trans hoj)
      exact dn_step26 hsz h6 h7 hW hC
    | 27, _ =>
      obtain ⟨o, e1, g, d, op⟩ := dn_op27
      obtain rfl : o = oj := Option.some.inj (e1.symm.trans hoj)
      exact dn_step27 hsz h6 h7 hW hC
    | 28, _ =>
      obtain ⟨o, e1, g, d, op, p27⟩ := dn_op28
      obtain rfl : o = oj := Option.some.inj (e1.symm.trans hoj)
      exact dn_step28 hsz h6 h7 hW hC (up 27 p27)
    | 29, _ =>
      obtain ⟨o, e1, g, d, op, p26, p28⟩ := dn_op29
      obtain rfl : o = oj := Option.some.inj (e1.symm.trans hoj)
      exact dn_step29 hsz h6 h7 hW hC (up 26 p26) (up 28 p28)
    | 30, _ =>
      obtain ⟨o, e1, g, d, op, p29⟩ := dn_op30
      obtain rfl : o = oj := Option.some.inj (e1.symm.trans hoj)
      exact dn_step30 hsz h6 h7 hW hC (up 29 p29)
    | 31, _ =>
      obtain ⟨o, e1, g, d, op, p4, p8, p12, p16, p20, p25, p30⟩ := dn_op31
      obtain rfl : o = oj := Option.some.inj (e1.symm.trans hoj)
      exact dn_step31 hsz h6 h7 hW hC (up 4 p4) (up 8 p8) (up 12 p12) (up 16 p16) (up 20 p20) (up 25 p25) (up 30 p30)
    | 32, _ =>
      obtain ⟨o, e1, g, d, op⟩ := dn_op32
      obtain rfl : o = oj := Option.some.inj (e1.symm.trans hoj)
      exact dn_step32 hsz h6 h7 hW hC
    | 33, _ =>
      obtain ⟨o, e1, g, d, op, p32⟩ := dn_op33
      obtain rfl : o = oj := Option.some.inj (e1.symm.trans hoj)
      exact dn_step33 hsz h6 h7 hW hC (up 32 p32) hh0 hh1
    | 34, _ =>
      obtain ⟨o, e1, g, d, op, p31, p33⟩ := dn_op34
      obtain rfl : o = oj := Option.some.inj (e1.symm.trans hoj)
      exact dn_step34 hsz h6 h7 hW hC (up 31 p31) (up 33 p33)
    | 35, _ =>
      obtain ⟨o, e1, g, d, op, p34⟩ := dn_op35
      obtain rfl : o = oj := Option.some.inj (e1.symm.trans hoj)
      exact dn_step35 hsz h6 h7 hW hC (up 34 p34)
    | 36, _ =>
      obtain ⟨o, e1, g, d, op, hp⟩ := dn_op36
      obtain rfl : o = oj := Option.some.inj (e1.symm.trans hoj)
      exact dn_step36 hsz h7 hW h0 hC (fun j hj => up j (List.all_eq_true.1 hp j (List.mem_range.2 hj)))
    | 37, _ =>
      obtain ⟨o, e1, g, d, op, hp⟩ := dn_op37
      obtain rfl : o = oj := Option.some.inj (e1.symm.trans hoj)
      have h36 := up 36 hp
      exfalso
      rcases Nat.lt_or_ge 36 listed.size with h | h
      · simp [h] at h6 h36; rw [h6] at h36; cases h36
      · omega
  · by_cases e : i = 37
    · subst e; exact dn_step37 hsz hup hB hF
    · rw [hup i (by omega)] at hun; cases hun
  · rw [hup i hi38] at hun; cases hun
end
end Go.Proofs.YtccknopchddicaaGreatDoor
/- contract: the rule of FormDenied, whole. -/
namespace Go.Proofs.YtccknopchddicaaGreatDoor
open Go.RowKit Stile
set_option maxRecDepth 100000 in
set_option maxHeartbeats 3200000 in
theorem dn_rule (how : Int) (ph : Addr) (w0 w : World) (x : Mt) (hx : x.has w) (h0 : w0.heap.size ≤ w.heap.size) (hc : w.cell? ph = some (.int .i64 how)) (hh0 : -9223372036854775808 ≤ how) (hh1 : how ≤ 9223372036854775807) :
    Calls Tryz.prog 15 #[.agg #[.int .i64 x.kk, .int .i64 x.ks, .slice x.kA x.kids.length x.kc], .pointer (some ph)] w (ByOut (dnRule (pick how 7)) x w0 w) := by
  have hcl := lt_of_cell hc
  have HX := Lib.hid hx
  have HC := Lib.hid hc
  have HZ := Lib.hid h0
  have HH := Lib.hid (And.intro hh0 hh1)
  clear hx hc h0 hh0 hh1
  go_enter Tryz.func15, Tryz.ntmps15
  go_upto_region 1 with fail
  have hh : ByHead w ((w.alloc (Obj.cells #[.int .i64 x.kk, .int .i64 x.ks, .slice x.kA x.kids.length x.kc] 29)).alloc (Obj.cells #[.int .i64 0, .int .i64 0, .slice none 0 0] 29)) x := by_head w x
  obtain ⟨W2, hW2⟩ : ∃ W2, (w.alloc (Obj.cells #[.int .i64 x.kk, .int .i64 x.ks, .slice x.kA x.kids.length x.kc] 29)).alloc (Obj.cells #[.int .i64 0, .int .i64 0, .slice none 0 0] 29) = W2 := ⟨_, rfl⟩
  rw [hW2] at hh ⊢
  clear hW2
  have HHD := Lib.hid hh
  clear hh
  have tok : True := trivial
  go_upto_region 2 with (first
    | (have _t := tok; go_at_call 16; refine Calls.mono (wmake_any _ _ _ _ _) ?_; rintro e e1 ⟨rfl, hb1⟩; have HB1 := Lib.hid hb1; clear hb1 tok)
    | (go_at_call 16; refine Calls.mono (wmake_any _ _ _ _ _) ?_; rintro e e2 ⟨rfl, hb2⟩; have HB2 := Lib.hid hb2; clear hb2))
  obtain ⟨WB, hWB⟩ : ∃ WB, (e2.alloc (Obj.cells #[.int .i64 0, .int .i64 0, .slice none 0 0] 29)).alloc (Obj.cells #[.int .i64 1, .int .i64 0, .slice none 0 0] 29) = WB := ⟨_, rfl⟩
  have hU : Below e2.heap.size e2 WB := by rw [← hWB]; exact (up_alloc e2 _).alloc (by simp) _
  have hY : WB.heap[e2.heap.size]? = some (mtObj1 (.n0 0 0)) := by rw [← hWB]; exact heap_old2 _ _ _
  have hZ : WB.heap[e2.heap.size + 1]? = some (mtObj1 (.n0 1 0)) := by rw [← hWB]; exact heap_new2 _ _ _
  rw [hWB]
  clear hWB
  have hd : Below W2.heap.size W2 WB.drew := (up_trans (up_trans HB1.out HB2.out) hU).drew
  have hH : ByHead w WB.drew x := HHD.out.made hd
  have hW : DnW x how ph w e2.heap.size (e2.heap.size + 1) WB.drew := ⟨hH, HX.out.below hH.below HX.out.lt, box_kid hH.box, (box_kid hY).draw, (box_kid hZ).draw, (hH.below.cell hcl).trans HC.out, HX.out⟩
  change (Code.region 2 dnOps true).wp _ _ _ _
  refine wp_region_any (by kernel_rfl) ?_
  refine wpAny_inv (DnI x how ph w0 w e2.heap.size (e2.heap.size + 1) WB.drew) ?_ (fun listed a wi i hI hi => dn_step hW HZ.out HH.out.1 HH.out.2 i hI hi) _ _ _ _ (by rw [dn_size]; decide) ?_
  · intro listed a wi hI hr
    have hup := all_up (md := .any) dn_edges hr
    rw [dn_size] at hup
    obtain ⟨hsz, ⟨h6, _⟩ | ⟨_, h7, _⟩ | ⟨_, hB, m, hby, hk⟩⟩ := hI
    · rw [hup 36 (by omega)] at h6; cases h6
    · rw [hup 37 (by omega)] at h7; cases h7
    · have HBY := Lib.hid hby
      obtain ⟨tmps, dfs⟩ := a
      obtain rfl : dfs = [] := hB.defers
      have r3 : tmps[3]?.getD undef = .pointer (some ⟨w.heap.size + 1, 0, none⟩) := by have := hB.s3; simpa using this
      have r4 : tmps[4]?.getD undef = .bool true := by have := hB.s4; simpa using this
      obtain ⟨y0, y1, y2⟩ := hk
      clear hby hB hup hr hsz
      go_wp2_with fail
      refine bodyPost_ret (v := .tuple #[m.val, .bool true]) (by simp [results, Tryz.results15, go_sem, r3, r4, y0, y1, y2]; rfl) rfl HBY.out
  · rw [dn_size]
    refine ⟨by simp, .inl ⟨by simp, by simp, ⟨rfl, rfl, rfl, rfl, rfl, rfl, rfl, rfl⟩, Below.refl _ _, fun i hi hl => ?_⟩⟩
    exfalso
    have h38 : (Array.replicate 38 false).getD i false = false := by rcases Nat.lt_or_ge i 38 with h | h <;> simp [h]
    rw [h38] at hl
    cases hl
end Go.Proofs.YtccknopchddicaaGreatDoor
/- contract: the rule of FormDenied, as a function value. -/
namespace Go.Proofs.YtccknopchddicaaGreatDoor
open Go.RowKit Stile
theorem dn_by_ok {mm : Int} (how : Int) (ph : Addr) (w0 : World) (hc : w0.cell? ph = some (.int .i64 how)) (hh0 : -9223372036854775808 ≤ how) (hh1 : how ≤ 9223372036854775807) : ByOk futK mm w0 15 #[.pointer (some ph)] (dnRule (pick how 7)) := by
  intro m w hb hm hok hsz
  exact dn_rule how ph w0 w m hm hb.size ((hb.cell (lt_of_cell hc)).trans hc) hh0 hh1
end Go.Proofs.YtccknopchddicaaGreatDoor
/- contract: the change of FormDenied, and the law: it answers true. -/
namespace Go.Proofs.YtccknopchddicaaGreatDoor
open Go.RowKit Stile
set_option maxRecDepth 100000 in
set_option maxHeartbeats 800000 in
theorem dn_change {mm : Int} (how : Int) (which : Int) (fv : Value) (f : List Nd) (pf pw : Addr) (p_how : Addr) (w : World) (hf : RdN w w.heap.size fv f) (hok : okF futK mm f) (hn0 : 0 < f.length) (hn : f.length ≤ 40) (hw0 : -9223372036854775808 ≤ which) (hw1 : which ≤ 9223372036854775807) (hr0_how : -9223372036854775808 ≤ how) (hr1_how : how ≤ 9223372036854775807)
    (h1 : w.cell? pf = some fv) (h2 : w.cell? pw = some (.int .i64 which)) (h_how : w.cell? p_how = some (.int .i64 how)) :
    Calls Tryz.prog 13 #[.pointer (some pf), .pointer (some pw), .pointer (some p_how)] w (SwapOut (swapR f which (dnRule (pick how 7))) w) := by
  have hmf : ∀ (fn : Fn) (first cap : Array Value) (w : World), (Instr.makeFunc fn first cap).run Tryz.prog w = .ok (.func fn first cap) w := fun _ _ _ _ => rfl
  have hs := swap_any futK_any f fv which 15 #[.pointer (some p_how)] (dnRule (pick how 7)) w hf hok hn0 hn hw0 hw1 (fun _ _ => rfl) (dn_by_ok how p_how w h_how hr0_how hr1_how) (Stile.dn_size (pick how 7))
  obtain ⟨fA, fc, rfl, _, _⟩ := id hf
  have l1 := lt_of_cell h1
  have l2 := lt_of_cell h2
  have HS := Lib.hid hs
  clear hs hf hok
  go_enter Tryz.func13, Tryz.ntmps13
  go_wp2_with fail
  refine HS.out.mono ?_
  rintro e w2 ⟨hb, gv, b, rfl, hx, hy⟩
  have HB := Lib.hid hb
  have HX := Lib.hid hx
  have HY := Lib.hid hy
  clear hb hx hy
  go_wp2_with fail
  go_ret2
  exact ⟨HB.out, _, _, rfl, HX.out, HY.out⟩
set_option maxRecDepth 100000 in
set_option maxHeartbeats 800000 in
theorem dn_law (L which : Int) (how : Int) (fv lv : Value) (f : List Nd) (l : List Int) (w : World) (hf : RdN w w.heap.size fv f) (hl : RdI w w.heap.size lv l) (hg : ErrVar w) (hw0 : -9223372036854775808 ≤ which) (hw1 : which ≤ 9223372036854775807) (hr0_how : -9223372036854775808 ≤ how) (hr1_how : how ≤ 9223372036854775807) :
    Calls Tryz.prog 3 #[.int .i64 L, fv, lv, .int .i64 which, .int .i64 how] w (TrueB w) := by
  have hmf : ∀ (fn : Fn) (first cap : Array Value) (w : World), (Instr.makeFunc fn first cap).run Tryz.prog w = .ok (.func fn first cap) w := fun _ _ _ _ => rfl
  obtain ⟨fA, fc, rfl, _, _⟩ := id hf
  have H : ∀ W, Below w.heap.size w W → W.cell? ⟨w.heap.size, 0, none⟩ = some (.slice fA f.length fc) → W.cell? ⟨w.heap.size + 1, 0, none⟩ = some (.int .i64 which) → W.cell? ⟨w.heap.size + 2, 0, none⟩ = some (.int .i64 how) →
      Calls Tryz.prog 12 #[.int .i64 L, .slice fA f.length fc, lv, .func (.func 13) #[] #[.pointer (some ⟨w.heap.size, 0, none⟩), .pointer (some ⟨w.heap.size + 1, 0, none⟩), .pointer (some ⟨w.heap.size + 2, 0, none⟩)]] W (TrueB W) := fun W hb c0 c1 c2 => by
    have hfW := Rd.mono (Rd.below hf hb) hb.size
    have hlW := Rd.mono (Rd.below hl hb) hb.size
    by_cases hbad : checkP L (setsOf L) f ≠ 0 ∨ wcheckP L l ≠ 0
    · exact wform_bad L _ lv f l W _ _ hfW hlW hbad
    · have hc : checkP L (setsOf L) f = 0 := by omega
      have hw : wcheckP L l = 0 := by omega
      obtain ⟨hL, hn0, hn, hok⟩ := checkP_ok.1 hc
      obtain ⟨n, rfl⟩ := Int.eq_ofNat_of_zero_le (show 0 ≤ L by omega)
      refine wform_ok n _ lv f l W _ _ (swapR f which (dnRule (pick how 7))) hfW hlW (ErrVar.below hg hb) hc hw (fun _ _ => rfl) (fun W2 hb2 => ?_) (fun u hu => ?_)
      · exact dn_change how which _ f _ _ _ W2 (Rd.mono (Rd.below hfW hb2) hb2.size) hok hn0 hn hw0 hw1 hr0_how hr1_how ((hb2.cell (lt_of_cell c0)).trans c0) ((hb2.cell (lt_of_cell c1)).trans c1) ((hb2.cell (lt_of_cell c2)).trans c2)
      · obtain ⟨a1, a2⟩ := swapR_spec (D := fun _ => True) futK_any hok hn0 (fun t u h1 h2 => Stile.dn_spec (pick how 7) t u h1 h2) hu
        refine ⟨a1, fun x _ => ?_⟩
        rw [holds_eq _ f (fun i hi => ⟨futK_any _ (hok i hi).1, (hok i hi).2⟩) (by intro e; rw [e] at hn0; simp at hn0)]
        exact a2 x (fun _ _ => trivial)
  have HH := Lib.hid H
  obtain ⟨lA, lc, rfl, _, _⟩ := id hl
  clear H hf hl hg
  go_enter Tryz.func3, Tryz.ntmps3
  go_wp2_with fail
  obtain ⟨t0, t1, t2⟩ := three_new w (Obj.cells #[.slice fA f.length fc] 22) (Obj.cells #[.int .i64 which] 3) (Obj.cells #[.int .i64 how] 3)
  have hb : Below w.heap.size w (((w.alloc (Obj.cells #[.slice fA f.length fc] 22)).alloc (Obj.cells #[.int .i64 which] 3)).alloc (Obj.cells #[.int .i64 how] 3)) := ((((Below.refl _ _).alloc (Nat.le_refl _) _).alloc (by simp) _).alloc (by simp; omega) _)
  refine (HH.out _ hb (by rw [fld_cell t0]; rfl) (by rw [fld_cell t1]; rfl) (by rw [fld_cell t2]; rfl)).mono ?_
  rintro e w2 ⟨rfl, hb2⟩
  have HB := Lib.hid (hb.trans (hb2.mono hb.size))
  clear hb hb2 t0 t1 t2
  go_wp2_with fail
  go_ret
  exact ⟨rfl, HB.out⟩
end Go.Proofs.YtccknopchddicaaGreatDoor
