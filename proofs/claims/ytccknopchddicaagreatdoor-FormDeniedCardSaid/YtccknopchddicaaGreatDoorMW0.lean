/- words for memory: what a slice reads as; errors. -/
import Derived.Test.YtccknopchddicaaGreatDoorMGa
import Derived.Test.YtccknopchddicaaGreatDoorProg
import Derived.WalkKit
import Derived.WalkLawsBesides
import Derived.WalkSpells
import Derived.WalkSmall
import Derived.Deep.OwnRows
import Derived.Deep.QuietTactic
import Derived.BigQuiet
import Derived.Lib.Hide
set_option linter.unusedSimpArgs false
set_option linter.unusedVariables false
set_option linter.unnecessarySimpa false
namespace Go.Proofs.YtccknopchddicaaGreatDoor
open Go.RowKit Stile

/-- the slice v reads as n elements of sz cells each, cell j holding g j; it lies below block B -/
def Rd (w : World) (B sz : Nat) (v : Value) (n : Nat) (g : Nat → Value) : Prop :=
  ∃ A c, v = .slice A n c ∧ n ≤ c ∧ (0 < n → ∃ b off, A = some ⟨b, off, none⟩ ∧ b < B ∧ ∀ j, j < n * sz → w.cell? ⟨b, off + j, none⟩ = some (g j))

section
variable {w w' : World} {B B' sz n : Nat} {v : Value} {g g' : Nat → Value}
theorem Rd.below (h : Rd w B sz v n g) (hb : Below B w w') : Rd w' B sz v n g := by
  obtain ⟨A, c, rfl, hc, h⟩ := h
  refine ⟨A, c, rfl, hc, fun hn => ?_⟩
  obtain ⟨b, off, rfl, hlt, hcell⟩ := h hn
  exact ⟨b, off, rfl, hlt, fun j hj => (hb.cell (p := ⟨b, off + j, none⟩) hlt).trans (hcell j hj)⟩
theorem Rd.mono (h : Rd w B sz v n g) (hb : B ≤ B') : Rd w B' sz v n g := by
  obtain ⟨A, c, rfl, hc, h⟩ := h
  refine ⟨A, c, rfl, hc, fun hn => ?_⟩
  obtain ⟨b, off, rfl, hlt, hcell⟩ := h hn
  exact ⟨b, off, rfl, by omega, hcell⟩
theorem Rd.congr (h : Rd w B sz v n g) (e : ∀ j, j < n * sz → g j = g' j) : Rd w B sz v n g' := by
  obtain ⟨A, c, rfl, hc, h⟩ := h
  refine ⟨A, c, rfl, hc, fun hn => ?_⟩
  obtain ⟨b, off, rfl, hlt, hcell⟩ := h hn
  exact ⟨b, off, rfl, hlt, fun j hj => by rw [hcell j hj, e j hj]⟩
theorem Rd.nil : Rd w B sz (.slice none 0 0) 0 g := ⟨none, 0, rfl, Nat.le_refl _, fun h => absurd h (by omega)⟩
theorem Rd.of_rowIs {b t : Nat} (h : w.rowIs b t n g) (hb : b < B) : Rd w B 1 (.slice (some ⟨b, 0, none⟩) n n) n g :=
  ⟨_, n, rfl, Nat.le_refl _, fun _ => ⟨b, 0, rfl, hb, fun j hj => by rw [Nat.zero_add]; exact h.cell (by omega)⟩⟩
theorem Rd.of_own {base e : Nat} {xs : List Value} (h : w.ownsRow base e sz v n xs) (hx : ∀ j, j < n * sz → xs[j]? = some (g j)) : Rd w w.heap.size sz v n g := by
  rcases h.2 with ⟨rfl, rfl⟩ | ⟨b, cap, cur, rfl, hb, hh, hnc, hmax, hsz, htk⟩
  · exact Rd.nil
  · refine ⟨_, cap, rfl, hnc, fun _ => ⟨b, 0, rfl, ?_, fun j hj => ?_⟩⟩
    · exact (Array.getElem?_eq_some_iff.1 hh).1
    · have e := hx j hj
      rw [← htk, List.getElem?_take, if_pos hj] at e
      have e : cur[j]? = some (g j) := by simpa using e
      simp [World.cell?, hh, e]
theorem Rd.at1 (h : Rd w B 1 v n g) (hn : 0 < n) : ∃ b off c, v = .slice (some ⟨b, off, none⟩) n c ∧ n ≤ c ∧ b < B ∧ ∀ k, k < n → w.cell? ⟨b, off + k, none⟩ = some (g k) := by
  obtain ⟨A, c, rfl, hc, h⟩ := h
  obtain ⟨b, off, rfl, hlt, hcell⟩ := h hn
  exact ⟨b, off, c, rfl, hc, hlt, fun k hk => hcell k (by omega)⟩
theorem Rd.at3 (h : Rd w B 3 v n g) (hn : 0 < n) : ∃ b off c, v = .slice (some ⟨b, off, none⟩) n c ∧ n ≤ c ∧ b < B ∧ ∀ k, k < n →
    w.cell? ⟨b, off + k * 3, none⟩ = some (g (k * 3)) ∧ w.cell? ⟨b, off + k * 3 + 1, none⟩ = some (g (k * 3 + 1)) ∧ w.cell? ⟨b, off + k * 3 + 2, none⟩ = some (g (k * 3 + 2)) := by
  obtain ⟨A, c, rfl, hc, h⟩ := h
  obtain ⟨b, off, rfl, hlt, hcell⟩ := h hn
  exact ⟨b, off, c, rfl, hc, hlt, fun k hk => ⟨hcell _ (by omega), by rw [Nat.add_assoc]; exact hcell _ (by omega), by rw [Nat.add_assoc]; exact hcell _ (by omega)⟩⟩
end

def ints (l : List Int) (j : Nat) : Value := .int .i64 (l.getD j 0)
def bools (l : List Bool) (j : Nat) : Value := .bool (l.getD j false)
def words (l : List Nat) (j : Nat) : Value := .int .u64 ((l.getD j 0 : Nat) : Int)
def nd (f : List Nd) (i : Nat) : Nd := f.getD i default
def nodes (f : List Nd) (j : Nat) : Value := .int .i64 (if j % 3 = 0 then (nd f (j / 3)).k else if j % 3 = 1 then (nd f (j / 3)).a else (nd f (j / 3)).b)
def RdI (w : World) (B : Nat) (v : Value) (l : List Int) : Prop := Rd w B 1 v l.length (ints l)
def RdB (w : World) (B : Nat) (v : Value) (l : List Bool) : Prop := Rd w B 1 v l.length (bools l)
def RdW (w : World) (B : Nat) (v : Value) (l : List Nat) : Prop := Rd w B 1 v l.length (words l)
def RdN (w : World) (B : Nat) (v : Value) (f : List Nd) : Prop := Rd w B 3 v f.length (nodes f)

theorem nodes_at (f : List Nd) (k : Nat) : nodes f (k * 3) = .int .i64 (nd f k).k ∧ nodes f (k * 3 + 1) = .int .i64 (nd f k).a ∧ nodes f (k * 3 + 2) = .int .i64 (nd f k).b := by
  unfold nodes
  refine ⟨?_, ?_, ?_⟩
  · rw [if_pos (by omega), show k * 3 / 3 = k from by omega]
  · rw [if_neg (by omega), if_pos (by omega), show (k * 3 + 1) / 3 = k from by omega]
  · rw [if_neg (by omega), if_neg (by omega), show (k * 3 + 2) / 3 = k from by omega]

theorem RdN.at_ {w : World} {B : Nat} {v : Value} {f : List Nd} (h : RdN w B v f) (hn : 0 < f.length) : ∃ b off c, v = .slice (some ⟨b, off, none⟩) f.length c ∧ f.length ≤ c ∧ b < B ∧ ∀ k, k < f.length →
    w.cell? ⟨b, off + k * 3, none⟩ = some (.int .i64 (nd f k).k) ∧ w.cell? ⟨b, off + k * 3 + 1, none⟩ = some (.int .i64 (nd f k).a) ∧ w.cell? ⟨b, off + k * 3 + 2, none⟩ = some (.int .i64 (nd f k).b) := by
  obtain ⟨b, off, c, h1, h2, h3, h4⟩ := Rd.at3 h hn
  refine ⟨b, off, c, h1, h2, h3, fun k hk => ?_⟩
  obtain ⟨a1, a2, a3⟩ := nodes_at f k
  rw [← a1, ← a2, ← a3]
  exact h4 k hk

/-- an Errno as an error; 0: nil -/
def errV (c : Int) : Value := if c = 0 then .nilIface else .iface 76 (.int .i64 c)
theorem errV_zero : errV 0 = .nilIface := rfl
theorem errV_pos {c : Int} (h : c ≠ 0) : errV c = .iface 76 (.int .i64 c) := by simp [errV, h]

theorem below_drewN {B : Nat} {a w : World} (h : Below B a w) (n : Nat) : Below B a (w.drewN n) := ⟨h.os, h.tape, h.output, h.size, h.block⟩
end Go.Proofs.YtccknopchddicaaGreatDoor
