import Derived.Test.YtccknopchddicaaP2
/- plain: the rule of PastWritten keeps what a formula means. -/
namespace Stile
/-- what PastWritten puts in a part's place -/
def pastRule (how : Int) (t : W) : Option W :=
  some (match pick how 5, t with
    | 0, .n2 11 a b | 1, .n2 11 a b => .n2 5 (.n2 4 (.n1 10 (.n0 0 0)) b) (.n2 4 a (.n1 10 (.n2 11 a b)))
    | 0, t | 1, t | 2, t => .n1 3 (.n1 3 t)
    | 3, t => .n2 4 t t
    | _, t => .n2 5 t (.n0 1 0))
theorem pastK_any : ∀ k, pastK k = true → anyK k = true := by intro k h; simp [pastK, anyK] at *; omega
theorem past_cases (how : Int) (t : W) : (∃ a b, t = .n2 11 a b ∧ pastRule how t = some (.n2 5 (.n2 4 (.n1 10 (.n0 0 0)) b) (.n2 4 a (.n1 10 (.n2 11 a b))))) ∨ pastRule how t = some (.n1 3 (.n1 3 t)) ∨ pastRule how t = some (.n2 4 t t) ∨ pastRule how t = some (.n2 5 t (.n0 1 0)) := by
  unfold pastRule
  split
  · exact .inl ⟨_, _, rfl, rfl⟩
  · exact .inl ⟨_, _, rfl, rfl⟩
  · exact .inr (.inl rfl)
  · exact .inr (.inl rfl)
  · exact .inr (.inl rfl)
  · exact .inr (.inr (.inl rfl))
  · exact .inr (.inr (.inr rfl))
theorem past_spec {m : Int} {D} (how : Int) (t u : W) (ht : t.ok pastK m) (h : pastRule how t = some u) : u.ok pastK m ∧ Agree D t.sem u.sem := by
  rcases past_cases how t with ⟨a, b, rfl, e⟩ | e | e | e <;> rw [e] at h <;> injection h with h <;> subst h
  · obtain ⟨h1, h2, h3, h4⟩ := id ht
    refine ⟨⟨rfl, rfl, ⟨rfl, rfl, ⟨rfl, rfl, rfl, rfl, by simp, by simp⟩, h4⟩, rfl, rfl, h3, rfl, rfl, ht⟩, fun w _ => ?_⟩
    cases w with
    | nil => simp [W.sem, v2, v1, v0, untilV, nextV]
    | cons x w => simp [W.sem, v2, v1, v0, untilV_cons, nextV]
  · exact ⟨⟨rfl, rfl, rfl, rfl, ht⟩, fun w _ => by simp [W.sem, v1]⟩
  · exact ⟨⟨rfl, rfl, ht, ht⟩, fun w _ => by simp [W.sem, v2]⟩
  · exact ⟨⟨rfl, rfl, ht, rfl, rfl, by simp, by simp⟩, fun w _ => by simp [W.sem, v2, v0]⟩
theorem past_size (how : Int) (t u : W) (h : pastRule how t = some u) (ht : t.size ≤ 100) : u.size ≤ 1000 := by
  rcases past_cases how t with ⟨a, b, rfl, e⟩ | e | e | e <;> rw [e] at h <;> injection h with h <;> subst h <;> simp [W.size] at * <;> omega
end Stile
