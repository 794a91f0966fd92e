/- trees in memory with the places of their parts. -/
import Derived.Test.YtccknopchddicaaT7
namespace Go.Proofs.Ytccknopchddicaa
open Go.RowKit Stile
/-- a tree as it lies in memory: the block and the room of each list of parts -/
inductive Mt where
  | n0 (k s : Int)
  | n1 (k : Int) (g c : Nat) (x : Mt)
  | n2 (k : Int) (g c : Nat) (x y : Mt)
namespace Mt
def w : Mt → W
  | n0 k s => .n0 k s
  | n1 k _ _ x => .n1 k x.w
  | n2 k _ _ x y => .n2 k x.w y.w
def kk : Mt → Int
  | n0 k _ => k
  | n1 k _ _ _ => k
  | n2 k _ _ _ _ => k
def ks : Mt → Int
  | n0 _ s => s
  | n1 _ _ _ _ => 0
  | n2 _ _ _ _ _ => 0
def kA : Mt → Option Addr
  | n0 _ _ => none
  | n1 _ g _ _ => some ⟨g, 0, none⟩
  | n2 _ g _ _ _ => some ⟨g, 0, none⟩
def kc : Mt → Nat
  | n0 _ _ => 0
  | n1 _ _ c _ => c
  | n2 _ _ c _ _ => c
def kids : Mt → List Mt
  | n0 _ _ => []
  | n1 _ _ _ x => [x]
  | n2 _ _ _ x y => [x, y]
def val (m : Mt) : Value := .agg #[.int .i64 m.kk, .int .i64 m.ks, .slice m.kA m.kids.length m.kc]
def has (wd : World) : Mt → Prop
  | n0 _ _ => True
  | n1 _ g c x => 1 ≤ c ∧ KidAt wd g 0 x.val ∧ x.has wd
  | n2 _ g c x y => 2 ≤ c ∧ KidAt wd g 0 x.val ∧ KidAt wd g 1 y.val ∧ x.has wd ∧ y.has wd
def blks : Mt → List Nat
  | n0 _ _ => []
  | n1 _ g _ x => g :: x.blks
  | n2 _ g _ x y => g :: (x.blks ++ y.blks)
def get : Mt → List Bool → Mt
  | t, [] => t
  | n1 _ _ _ x, false :: p => x.get p
  | n2 _ _ _ x _, false :: p => x.get p
  | n2 _ _ _ _ y, true :: p => y.get p
  | t, _ :: _ => t
def put : Mt → List Bool → Mt → Mt
  | _, [], z => z
  | n1 k g c x, false :: p, z => n1 k g c (x.put p z)
  | n2 k g c x y, false :: p, z => n2 k g c (x.put p z) y
  | n2 k g c x y, true :: p, z => n2 k g c x (y.put p z)
  | t, _ :: _, _ => t
/-- the place of the part at a path, if the whole lies at place a (block, number) -/
def addr : Mt → Nat × Nat → List Bool → Nat × Nat
  | _, a, [] => a
  | n1 _ g _ x, _, false :: p => x.addr (g, 0) p
  | n2 _ g _ x _, _, false :: p => x.addr (g, 0) p
  | n2 _ g _ _ y, _, true :: p => y.addr (g, 1) p
  | _, a, _ :: _ => a
def addrs (m : Mt) (a : Nat × Nat) : List (Nat × Nat) := m.w.paths.map (m.addr a)
theorem addr_nil (m : Mt) (a) : m.addr a [] = a := by cases m <;> rfl
theorem addrs_n0 (k s : Int) (a) : (n0 k s).addrs a = [a] := rfl
theorem addrs_n1 (k : Int) (g c : Nat) (x : Mt) (a) : (n1 k g c x).addrs a = a :: x.addrs (g, 0) := by
  simp [addrs, w, W.paths, addr, List.map_map, Function.comp_def]
theorem addrs_n2 (k : Int) (g c : Nat) (x y : Mt) (a) : (n2 k g c x y).addrs a = a :: (x.addrs (g, 0) ++ y.addrs (g, 1)) := by
  simp [addrs, w, W.paths, addr, List.map_map, Function.comp_def]
theorem get_w : ∀ (m : Mt) (p : List Bool), (m.get p).w = m.w.get p := by
  intro m
  induction m with
  | n0 k s => intro p; rcases p with _ | ⟨_ | _, p⟩ <;> rfl
  | n1 k g c x ih => intro p; rcases p with _ | ⟨_ | _, p⟩ <;> first | rfl | exact ih p
  | n2 k g c x y ih1 ih2 => intro p; rcases p with _ | ⟨_ | _, p⟩ <;> first | rfl | exact ih1 p | exact ih2 p
theorem put_w (z : Mt) : ∀ (m : Mt) (p : List Bool), (m.put p z).w = m.w.put p z.w := by
  intro m
  induction m with
  | n0 k s => intro p; rcases p with _ | ⟨_ | _, p⟩ <;> rfl
  | n1 k g c x ih =>
    intro p
    rcases p with _ | ⟨_ | _, p⟩
    · rfl
    · simp [put, w, W.put, ih p]
    · rfl
  | n2 k g c x y ih1 ih2 =>
    intro p
    rcases p with _ | ⟨_ | _, p⟩
    · rfl
    · simp [put, w, W.put, ih1 p]
    · simp [put, w, W.put, ih2 p]
theorem paths_len : ∀ t : W, t.paths.length = t.size := by
  intro t
  induction t with
  | n0 k s => rfl
  | n1 k x ih => simp [W.paths, W.size, ih]
  | n2 k x y ih1 ih2 => simp [W.paths, W.size, ih1, ih2]
theorem addrs_len (m : Mt) (a) : (m.addrs a).length = m.w.size := by simp [addrs, paths_len]
theorem has.keep {w1 w2 : World} : ∀ {m : Mt}, m.has w1 → (∀ g ∈ m.blks, w2.heap[g]? = w1.heap[g]?) → m.has w2 := by
  intro m
  induction m with
  | n0 k s => intro h _; trivial
  | n1 k g c x ih =>
    rintro ⟨h1, h2, h3⟩ hk
    exact ⟨h1, h2.keep (hk g (by simp [blks])), ih h3 fun b hb => hk b (by simp [blks, hb])⟩
  | n2 k g c x y ih1 ih2 =>
    rintro ⟨h1, h2, h3, h4, h5⟩ hk
    exact ⟨h1, h2.keep (hk g (by simp [blks])), h3.keep (hk g (by simp [blks])), ih1 h4 fun b hb => hk b (by simp [blks, hb]), ih2 h5 fun b hb => hk b (by simp [blks, hb])⟩
theorem _root_.Go.Proofs.Ytccknopchddicaa.KidAt.lt {w1 : World} {g j : Nat} {v : Value} (h : KidAt w1 g j v) : g < w1.heap.size := by
  obtain ⟨c0, c1, c2, cur, _, h1, _⟩ := h
  exact lt_blk h1
theorem has.lt {w1 : World} : ∀ {m : Mt}, m.has w1 → ∀ g ∈ m.blks, g < w1.heap.size := by
  intro m
  induction m with
  | n0 k s => intro _ g hg; simp [blks] at hg
  | n1 k g c x ih =>
    rintro ⟨h1, h2, h3⟩ b hb
    simp [blks] at hb
    rcases hb with rfl | hb
    · exact h2.lt
    · exact ih h3 b hb
  | n2 k g c x y ih1 ih2 =>
    rintro ⟨h1, h2, h3, h4, h5⟩ b hb
    simp [blks] at hb
    rcases hb with rfl | hb | hb
    · exact h2.lt
    · exact ih1 h4 b hb
    · exact ih2 h5 b hb
/-- each of its blocks is a row of nodes -/
theorem has.row {w1 : World} : ∀ {m : Mt}, m.has w1 → ∀ g ∈ m.blks, ∃ cur, w1.heap[g]? = some (.cells cur 33 (0, 0)) := by
  intro m
  induction m with
  | n0 k s => intro _ g hg; simp [blks] at hg
  | n1 k g c x ih =>
    rintro ⟨h1, h2, h3⟩ b hb
    simp [blks] at hb
    rcases hb with rfl | hb
    · obtain ⟨_, _, _, cur, _, h, _⟩ := h2; exact ⟨cur, h⟩
    · exact ih h3 b hb
  | n2 k g c x y ih1 ih2 =>
    rintro ⟨h1, h2, h3, h4, h5⟩ b hb
    simp [blks] at hb
    rcases hb with rfl | hb | hb
    · obtain ⟨_, _, _, cur, _, h, _⟩ := h2; exact ⟨cur, h⟩
    · exact ih1 h4 b hb
    · exact ih2 h5 b hb
theorem has.below {w1 w2 : World} {B : Nat} {m : Mt} (h : m.has w1) (hb : Below B w1 w2) (hB : ∀ g ∈ m.blks, g < B) : m.has w2 := h.keep fun g hg => hb.block g (hB g hg)
theorem has.made {w1 w2 : World} {m : Mt} (h : m.has w1) (hb : Below w1.heap.size w1 w2) : m.has w2 := h.below hb h.lt
theorem td {w1 : World} {lo hi : Nat} : ∀ {m : Mt}, m.has w1 → (∀ g ∈ m.blks, lo ≤ g ∧ g < hi) → Td w1 lo hi m.w m.val := by
  intro m
  induction m with
  | n0 k s => intro _ _; rfl
  | n1 k g c x ih =>
    rintro ⟨h1, h2, h3⟩ hb
    have hg := hb g (by simp [blks])
    exact ⟨g, c, x.val, rfl, h1, hg.1, hg.2, h2, ih h3 fun b h => hb b (by simp [blks, h])⟩
  | n2 k g c x y ih1 ih2 =>
    rintro ⟨h1, h2, h3, h4, h5⟩ hb
    have hg := hb g (by simp [blks])
    exact ⟨g, c, x.val, y.val, rfl, h1, hg.1, hg.2, h2, h3, ih1 h4 fun b h => hb b (by simp [blks, h]), ih2 h5 fun b h => hb b (by simp [blks, h])⟩
theorem of_tk {w1 : World} : ∀ (t : W) (lo hi : Nat) (v : Value), Tk w1 t lo hi v → ∃ m : Mt, m.w = t ∧ m.val = v ∧ m.has w1 ∧ (∀ g ∈ m.blks, lo ≤ g ∧ g < hi) ∧ m.blks.Nodup := by
  intro t
  induction t with
  | n0 k s =>
    intro lo hi v h
    exact ⟨.n0 k s, rfl, h.1.symm, trivial, by simp [blks], by simp [blks]⟩
  | n1 k x ih =>
    rintro lo hi v ⟨g, c, a, rfl, h1, h2, h3, h4, h5⟩
    obtain ⟨m, rfl, rfl, q1, q2, q3⟩ := ih lo g a h5
    refine ⟨.n1 k g c m, rfl, rfl, ⟨h1, h4, q1⟩, ?_, ?_⟩
    · intro b hb
      simp [blks] at hb
      rcases hb with rfl | hb
      · exact ⟨h2, h3⟩
      · have := q2 b hb; omega
    · simp only [blks, List.nodup_cons]
      exact ⟨fun hb => by have := q2 g hb; omega, q3⟩
  | n2 k x y ih1 ih2 =>
    rintro lo hi v ⟨g, c, mm, a, b, rfl, h1, h2, h3, h4, h5, h6, h7, h8⟩
    obtain ⟨m1, rfl, rfl, q1, q2, q3⟩ := ih1 lo mm a h7
    obtain ⟨m2, rfl, rfl, r1, r2, r3⟩ := ih2 mm g b h8
    refine ⟨.n2 k g c m1 m2, rfl, rfl, ⟨h1, h5, h6, q1, r1⟩, ?_, ?_⟩
    · intro b hb
      simp [blks] at hb
      rcases hb with rfl | hb | hb
      · omega
      · have := q2 b hb; omega
      · have := r2 b hb; omega
    · simp only [blks, List.nodup_cons, List.mem_append, List.nodup_append]
      refine ⟨fun hb => ?_, q3, r3, ?_⟩
      · rcases hb with hb | hb
        · have := q2 g hb; omega
        · have := r2 g hb; omega
      · intro p hp q hq e
        have := q2 p hp; have := r2 q hq; omega
theorem ind {P : Mt → Prop} (h : ∀ m, (∀ x ∈ m.kids, P x) → P m) : ∀ m, P m
  | n0 k s => h _ (by simp [kids])
  | n1 k g c x => h _ (by simp [kids]; exact ind h x)
  | n2 k g c x y => h _ (by simp [kids]; exact ⟨ind h x, ind h y⟩)
/-- its parts, one like the other -/
theorem has.kid {w1 : World} {m : Mt} (h : m.has w1) {j : Nat} (hj : j < m.kids.length) : ∃ g, m.kA = some ⟨g, 0, none⟩ ∧ g ∈ m.blks ∧ m.kids.length ≤ m.kc ∧ KidAt w1 g j (m.kids[j]).val ∧ (m.kids[j]).has w1 := by
  cases m with
  | n0 k s => simp [kids] at hj
  | n1 k g c x =>
    obtain ⟨h1, h2, h3⟩ := h
    obtain rfl : j = 0 := by simp [kids] at hj; exact hj
    exact ⟨g, rfl, by simp [blks], h1, h2, h3⟩
  | n2 k g c x y =>
    obtain ⟨h1, h2, h3, h4, h5⟩ := h
    have hj : j < 2 := hj
    match j, hj with
    | 0, _ => exact ⟨g, rfl, by simp [blks], h1, h2, h4⟩
    | 1, _ => exact ⟨g, rfl, by simp [blks], h1, h3, h5⟩
theorem kid_blks {m : Mt} {x : Mt} (hx : x ∈ m.kids) : ∀ g ∈ x.blks, g ∈ m.blks := by
  intro g hg
  cases m with
  | n0 k s => simp [kids] at hx
  | n1 k g' c y => simp [kids] at hx; subst hx; simp [blks, hg]
  | n2 k g' c y z => simp [kids] at hx; rcases hx with rfl | rfl <;> simp [blks, hg]
theorem kid_size {m : Mt} {x : Mt} (hx : x ∈ m.kids) : x.w.size < m.w.size := by
  cases m with
  | n0 k s => simp [kids] at hx
  | n1 k g' c y => simp [kids] at hx; subst hx; simp [w, W.size]
  | n2 k g' c y z => simp [kids] at hx; rcases hx with rfl | rfl <;> simp [w, W.size] <;> omega
theorem kids_le (m : Mt) : m.kids.length ≤ 2 := by cases m <;> simp [kids]
/-! ### the place of a part -/
theorem at_path {w1 : World} : ∀ (m : Mt) (a : Nat × Nat) (p : List Bool), p ∈ m.w.paths → KidAt w1 a.1 a.2 m.val → m.has w1 → KidAt w1 (m.addr a p).1 (m.addr a p).2 (m.get p).val ∧ (m.get p).has w1 ∧ (∀ g ∈ (m.get p).blks, g ∈ m.blks) ∧ (m.addr a p).1 ∈ a.1 :: m.blks := by
  intro m
  induction m with
  | n0 k s =>
    intro a p hp h1 h2
    simp [w, W.paths] at hp
    subst hp
    exact ⟨h1, h2, fun g h => h, by simp [addr]⟩
  | n1 k g c x ih =>
    intro a p hp h1 h2
    simp [w, W.paths] at hp
    rcases hp with rfl | ⟨q, hq, rfl⟩
    · exact ⟨h1, h2, fun g h => h, by simp [addr]⟩
    · obtain ⟨e1, e2, e3⟩ := h2
      obtain ⟨q1, q2, q3, q4⟩ := ih (g, 0) q hq e2 e3
      refine ⟨q1, q2, fun b hb => by simp [blks, q3 b hb], ?_⟩
      simp [addr, blks] at q4 ⊢
      rcases q4 with q4 | q4 <;> simp [q4]
  | n2 k g c x y ih1 ih2 =>
    intro a p hp h1 h2
    simp [w, W.paths] at hp
    obtain ⟨e1, e2, e3, e4, e5⟩ := id h2
    rcases hp with rfl | ⟨q, hq, rfl⟩ | ⟨q, hq, rfl⟩
    · exact ⟨h1, h2, fun g h => h, by simp [addr]⟩
    · obtain ⟨q1, q2, q3, q4⟩ := ih1 (g, 0) q hq e2 e4
      refine ⟨q1, q2, fun b hb => by simp [blks, q3 b hb], ?_⟩
      simp [addr, blks] at q4 ⊢
      rcases q4 with q4 | q4 <;> simp [q4]
    · obtain ⟨q1, q2, q3, q4⟩ := ih2 (g, 1) q hq e3 e5
      refine ⟨q1, q2, fun b hb => by simp [blks, q3 b hb], ?_⟩
      simp [addr, blks] at q4 ⊢
      rcases q4 with q4 | q4 <;> simp [q4]
/-- w2 is w1 with a node stored at place a -/
structure PutAt (w1 w2 : World) (a : Nat × Nat) (v : Value) : Prop where
  at_ : KidAt w2 a.1 a.2 v
  beside : ∀ j u, j ≠ a.2 → KidAt w1 a.1 j u → KidAt w2 a.1 j u
  other : ∀ b, b ≠ a.1 → w2.heap[b]? = w1.heap[b]?
theorem put_has {w1 w2 : World} {z : Mt} : ∀ (m : Mt) (a : Nat × Nat) (p : List Bool), p ∈ m.w.paths → KidAt w1 a.1 a.2 m.val → m.has w1 → a.1 ∉ m.blks → m.blks.Nodup →
    PutAt w1 w2 (m.addr a p) z.val → z.has w2 → KidAt w2 a.1 a.2 (m.put p z).val ∧ (m.put p z).has w2 := by
  intro m
  induction m with
  | n0 k s =>
    intro a p hp h1 h2 hna hnd hput hz
    simp [w, W.paths] at hp
    subst hp
    exact ⟨hput.at_, hz⟩
  | n1 k g c x ih =>
    intro a p hp h1 h2 hna hnd hput hz
    simp [w, W.paths] at hp
    rcases hp with rfl | ⟨q, hq, rfl⟩
    · exact ⟨hput.at_, hz⟩
    · obtain ⟨e1, e2, e3⟩ := h2
      simp only [blks, List.nodup_cons] at hnd
      simp only [blks, List.mem_cons, not_or] at hna
      have hput' : PutAt w1 w2 (x.addr (g, 0) q) z.val := hput
      obtain ⟨r1, r2⟩ := ih (g, 0) q hq e2 e3 hnd.1 hnd.2 hput' hz
      obtain ⟨_, _, _, q4⟩ := at_path x (g, 0) q hq e2 e3
      refine ⟨?_, e1, r1, r2⟩
      refine KidAt.keep (v := (n1 k g c x).val) h1 (hput'.other _ fun e => ?_)
      rw [← e] at q4
      simp at q4
      rcases q4 with q4 | q4
      · exact hna.1 q4
      · exact hna.2 q4
  | n2 k g c x y ih1 ih2 =>
    intro a p hp h1 h2 hna hnd hput hz
    simp [w, W.paths] at hp
    obtain ⟨e1, e2, e3, e4, e5⟩ := id h2
    simp only [blks, List.nodup_cons, List.mem_append, not_or, List.nodup_append] at hnd
    obtain ⟨⟨n1, n2⟩, n3, n4, n5⟩ := hnd
    simp only [blks, List.mem_cons, List.mem_append, not_or] at hna
    rcases hp with rfl | ⟨q, hq, rfl⟩ | ⟨q, hq, rfl⟩
    · exact ⟨hput.at_, hz⟩
    · have hput' : PutAt w1 w2 (x.addr (g, 0) q) z.val := hput
      obtain ⟨r1, r2⟩ := ih1 (g, 0) q hq e2 e4 n1 n3 hput' hz
      obtain ⟨_, _, _, q4⟩ := at_path x (g, 0) q hq e2 e4
      simp only [List.mem_cons] at q4
      refine ⟨KidAt.keep (v := (Mt.n2 k g c x y).val) h1 (hput'.other _ fun e => ?_), e1, r1, ?_, r2, ?_⟩
      · rw [← e] at q4
        rcases q4 with q4 | q4
        · exact hna.1 q4
        · exact hna.2.1 q4
      · by_cases hg : (x.addr (g, 0) q).1 = g
        · have : q = [] := by
            rcases q with _ | ⟨b, q⟩
            · rfl
            · exfalso
              cases x with
              | n0 k s => simp [w, W.paths] at hq
              | n1 k' g' c' x' =>
                simp [w, W.paths] at hq
                obtain ⟨hq, rfl⟩ := hq
                obtain ⟨f1, f2, f3⟩ := e4
                obtain ⟨_, _, _, s4⟩ := at_path x' (g', 0) q hq f2 f3
                rw [addr] at hg
                rw [hg] at s4
                simp only [blks, List.mem_cons, not_or] at n1 s4
                rcases s4 with s4 | s4
                · exact n1.1 s4
                · exact n1.2 s4
              | n2 k' g' c' x' y' =>
                simp [w, W.paths] at hq
                obtain ⟨f1, f2, f3, f4, f5⟩ := e4
                simp only [blks, List.mem_cons, List.mem_append, not_or] at n1
                rcases hq with ⟨hq, rfl⟩ | ⟨hq, rfl⟩
                · obtain ⟨_, _, _, s4⟩ := at_path x' (g', 0) q hq f2 f4
                  rw [addr] at hg
                  rw [hg] at s4
                  simp only [List.mem_cons] at s4
                  rcases s4 with s4 | s4
                  · exact n1.1 s4
                  · exact n1.2.1 s4
                · obtain ⟨_, _, _, s4⟩ := at_path y' (g', 1) q hq f3 f5
                  rw [addr] at hg
                  rw [hg] at s4
                  simp only [List.mem_cons] at s4
                  rcases s4 with s4 | s4
                  · exact n1.1 s4
                  · exact n1.2.2 s4
          subst this
          rw [addr_nil] at hput'
          exact hput'.beside 1 _ (by simp) e3
        · exact e3.keep (hput'.other _ fun e => hg e.symm)
      · refine e5.keep fun b hb => hput'.other _ fun e => ?_
        rw [← e] at q4
        rcases q4 with q4 | q4
        · exact n2 (q4 ▸ hb)
        · exact n5 b q4 b hb rfl
    · have hput' : PutAt w1 w2 (y.addr (g, 1) q) z.val := hput
      obtain ⟨r1, r2⟩ := ih2 (g, 1) q hq e3 e5 n2 n4 hput' hz
      obtain ⟨_, _, _, q4⟩ := at_path y (g, 1) q hq e3 e5
      simp only [List.mem_cons] at q4
      refine ⟨KidAt.keep (v := (Mt.n2 k g c x y).val) h1 (hput'.other _ fun e => ?_), e1, ?_, r1, ?_, r2⟩
      · rw [← e] at q4
        rcases q4 with q4 | q4
        · exact hna.1 q4
        · exact hna.2.2 q4
      · by_cases hg : (y.addr (g, 1) q).1 = g
        · have : q = [] := by
            rcases q with _ | ⟨b, q⟩
            · rfl
            · exfalso
              cases y with
              | n0 k s => simp [w, W.paths] at hq
              | n1 k' g' c' x' =>
                simp [w, W.paths] at hq
                obtain ⟨hq, rfl⟩ := hq
                obtain ⟨f1, f2, f3⟩ := e5
                obtain ⟨_, _, _, s4⟩ := at_path x' (g', 0) q hq f2 f3
                rw [addr] at hg
                rw [hg] at s4
                simp only [blks, List.mem_cons, not_or] at n2 s4
                rcases s4 with s4 | s4
                · exact n2.1 s4
                · exact n2.2 s4
              | n2 k' g' c' x' y' =>
                simp [w, W.paths] at hq
                obtain ⟨f1, f2, f3, f4, f5⟩ := e5
                simp only [blks, List.mem_cons, List.mem_append, not_or] at n2
                rcases hq with ⟨hq, rfl⟩ | ⟨hq, rfl⟩
                · obtain ⟨_, _, _, s4⟩ := at_path x' (g', 0) q hq f2 f4
                  rw [addr] at hg
                  rw [hg] at s4
                  simp only [List.mem_cons] at s4
                  rcases s4 with s4 | s4
                  · exact n2.1 s4
                  · exact n2.2.1 s4
                · obtain ⟨_, _, _, s4⟩ := at_path y' (g', 1) q hq f3 f5
                  rw [addr] at hg
                  rw [hg] at s4
                  simp only [List.mem_cons] at s4
                  rcases s4 with s4 | s4
                  · exact n2.1 s4
                  · exact n2.2.2 s4
          subst this
          rw [addr_nil] at hput'
          exact hput'.beside 0 _ (by simp) e2
        · exact e2.keep (hput'.other _ fun e => hg e.symm)
      · refine e4.keep fun b hb => hput'.other _ fun e => ?_
        rw [← e] at q4
        rcases q4 with q4 | q4
        · exact n1 (q4 ▸ hb)
        · exact n5 b hb b q4 rfl
end Mt
end Go.Proofs.Ytccknopchddicaa
