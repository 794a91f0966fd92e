/- contract: wOf, at every node. -/
import Derived.Test.YtccknopchddicaaT6
namespace Go.Proofs.Ytccknopchddicaa
open Go.RowKit Stile
theorem treesL_pre (p : List Nd) : ∀ q : List Nd, ∃ s, treesL (p ++ q) = treesL p ++ s := by
  intro q
  induction q using snoc_ind with
  | h0 => exact ⟨[], by simp⟩
  | h1 q y ihq =>
    obtain ⟨s, hs⟩ := ihq
    exact ⟨s ++ [mkW (treesL (p ++ q)) y], by rw [← List.append_assoc, treesL_snoc, hs]; simp⟩
theorem getW_pre (ts s : List W) (i : Int) (h0 : 0 ≤ i) (h1 : i < ts.length) : getW (ts ++ s) i = getW ts i := by
  unfold getW
  simp [List.getD, List.getElem?_append_left (show i.toNat < ts.length by omega)]
theorem getW_at {ks : Int → Bool} {m : Int} (hks : ∀ k, ks k = true → anyK k = true) (f : List Nd) (h : okF ks m f) (k : Nat) (hk : k < f.length) : getW (treesL f) (k : Int) = mkW (treesL f) (nd f k) := by
  obtain ⟨p, q, hf, hp⟩ : ∃ p q, f = p ++ nd f k :: q ∧ p.length = k := by
    refine ⟨f.take k, f.drop (k + 1), ?_, by simp; omega⟩
    have e : nd f k = f[k] := by simp [nd, hk]
    rw [e]; simp
  have hn := h k hk
  have e : nd f k = f[k] := by simp [nd, hk]
  rw [← e] at hn
  generalize nd f k = x at *
  subst hf
  have hl := treesL_len p
  obtain ⟨s, hs⟩ := treesL_pre (p ++ [x]) q
  rw [show p ++ x :: q = (p ++ [x]) ++ q by simp, hs, treesL_snoc]
  have e1 : getW (treesL p ++ [mkW (treesL p) x] ++ s) (k : Int) = mkW (treesL p) x := by
    rw [getW_pre _ _ _ (by omega) (by simp; omega)]
    exact getW_last _ _ _ (by omega) []
  rw [e1]
  obtain ⟨hk', ha, hb, hc⟩ := hn
  have gp : ∀ i : Int, 0 ≤ i → i < k → ∀ s, getW (treesL p ++ s) i = getW (treesL p) i := fun i h0 h1 s => getW_pre _ _ _ h0 (by omega)
  unfold mkW
  rcases kinds_cases (hks _ hk') with e | e | e | e | e | e | e | e | e | e | e | e <;>
    simp [e, leafK, oneK, twoK] at ha hb hc <;>
    simp [e, leafK, oneK] <;>
    (try rw [gp x.a (by omega) (by omega)]) <;> (try rw [gp x.b (by omega) (by omega)]) <;> (try exact ⟨rfl, rfl⟩)
theorem of_all {ks : Int → Bool} {m : Int} (hks : ∀ k, ks k = true → anyK k = true) (f : List Nd) (h : okF ks m f) (hfn : f.length ≤ 40) : ∀ k, k < f.length → OfOk f k := by
  intro k
  induction k using Nat.strongRecOn with
  | ind k ih =>
    intro hk fv pl l w hf hl h0 h1
    by_cases hz : l ≤ 0
    · exact of_stop f k hk _ fv pl l w hf hl h0 hz
    · have hn := h k hk
      have e : nd f k = f[k] := by simp [nd, hk]
      rw [← e] at hn
      obtain ⟨hk', ha, hb, hc⟩ := hn
      have ih' : ∀ j, j < k → OfOk f j := fun j hj => ih j hj (by omega)
      rw [getW_at hks f h k hk]
      rcases kinds_cases (hks _ hk') with e | e | e | e | e | e | e | e | e | e | e | e
      · have := of_leaf f k hk fv pl l w hf hl (by omega) h1 (by omega)
        simpa [mkW, e, leafK] using this
      · have := of_leaf f k hk fv pl l w hf hl (by omega) h1 (by omega)
        simpa [mkW, e, leafK] using this
      · have := of_leaf f k hk fv pl l w hf hl (by omega) h1 (by omega)
        simpa [mkW, e, leafK] using this
      · simp [e, oneK] at hb
        have := of_one f k hk ih' fv pl l w hf hl (by omega) h1 (by omega) hb.1 hb.2.1
        simpa [mkW, e, leafK, oneK] using this
      · simp [e, twoK] at hc
        have := of_two f k hk hfn ih' fv pl l w hf hl (by omega) h1 (by omega) hc.1 hc.2.1 hc.2.2.1 hc.2.2.2
        simpa [mkW, e, leafK, oneK] using this
      · simp [e, twoK] at hc
        have := of_two f k hk hfn ih' fv pl l w hf hl (by omega) h1 (by omega) hc.1 hc.2.1 hc.2.2.1 hc.2.2.2
        simpa [mkW, e, leafK, oneK] using this
      · simp [e, oneK] at hb
        have := of_one f k hk ih' fv pl l w hf hl (by omega) h1 (by omega) hb.1 hb.2.1
        simpa [mkW, e, leafK, oneK] using this
      · simp [e, oneK] at hb
        have := of_one f k hk ih' fv pl l w hf hl (by omega) h1 (by omega) hb.1 hb.2.1
        simpa [mkW, e, leafK, oneK] using this
      · simp [e, twoK] at hc
        have := of_two f k hk hfn ih' fv pl l w hf hl (by omega) h1 (by omega) hc.1 hc.2.1 hc.2.2.1 hc.2.2.2
        simpa [mkW, e, leafK, oneK] using this
      · simp [e, twoK] at hc
        have := of_two f k hk hfn ih' fv pl l w hf hl (by omega) h1 (by omega) hc.1 hc.2.1 hc.2.2.1 hc.2.2.2
        simpa [mkW, e, leafK, oneK] using this
      · simp [e, oneK] at hb
        have := of_one f k hk ih' fv pl l w hf hl (by omega) h1 (by omega) hb.1 hb.2.1
        simpa [mkW, e, leafK, oneK] using this
      · simp [e, twoK] at hc
        have := of_two f k hk hfn ih' fv pl l w hf hl (by omega) h1 (by omega) hc.1 hc.2.1 hc.2.2.1 hc.2.2.2
        simpa [mkW, e, leafK, oneK] using this
end Go.Proofs.Ytccknopchddicaa
