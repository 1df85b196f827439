import Derived.Test.YtppapffkidkonaaDoorPoolA
import Derived.Test.YtppapffkidkonaaDoorShelf
import Derived.Deep.QuietTactic
import Derived.BigQuiet
import Derived.Laws.OwnMore
namespace Go.Proofs.YtppapffkidkonaaDoor
open Go.RowKit
set_option linter.unusedVariables false
set_option linter.unusedSimpArgs false

/-- The cells of places. -/
def plC : List (Int × Bool) → List Value
  | [] => []
  | p :: l => .int .i64 p.1 :: .bool p.2 :: plC l
theorem plC_length : ∀ l, (plC l).length = l.length * 2
  | [] => rfl
  | p :: l => by simp [plC, plC_length l]; omega
theorem plC_turn : ∀ (l : List (Int × Bool)) (i : Nat) (h : i < l.length), (plC l)[i * 2]? = some (.int .i64 l[i].1)
  | p :: l, 0, _ => rfl
  | p :: l, i + 1, h => by
    have := plC_turn l i (by simpa using h)
    simp only [plC, Nat.add_mul, Nat.one_mul]
    exact this
theorem plC_taken : ∀ (l : List (Int × Bool)) (i : Nat) (h : i < l.length), (plC l)[i * 2 + 1]? = some (.bool l[i].2)
  | p :: l, 0, _ => rfl
  | p :: l, i + 1, h => by
    have := plC_taken l i (by simpa using h)
    simp only [plC, Nat.add_mul, Nat.one_mul]
    exact this
theorem plC_snoc : ∀ (l : List (Int × Bool)) (p : Int × Bool), plC (l ++ [p]) = plC l ++ [.int .i64 p.1, .bool p.2]
  | [], _ => rfl
  | q :: l, p => by simp [plC, plC_snoc l p]
theorem plC_set1 : ∀ (l : List (Int × Bool)) (i : Nat) (h : i < l.length) (x : Int), (plC l).set (i * 2) (.int .i64 x) = plC (l.set i (x, l[i].2))
  | p :: l, 0, _, x => rfl
  | p :: l, i + 1, h, x => by
    have := plC_set1 l i (by simpa using h) x
    simp only [plC, Nat.add_mul, Nat.one_mul, List.set_cons_succ, this, List.getElem_cons_succ]
theorem plC_set2 : ∀ (l : List (Int × Bool)) (i : Nat) (h : i < l.length) (x : Bool), (plC l).set (i * 2 + 1) (.bool x) = plC (l.set i (l[i].1, x))
  | p :: l, 0, _, x => rfl
  | p :: l, i + 1, h, x => by
    have := plC_set2 l i (by simpa using h) x
    simp only [plC, Nat.add_mul, Nat.one_mul, List.set_cons_succ, this, List.getElem_cons_succ]

/-- A pool in memory: block g, its value v of places; what lies below B is not its own. -/
structure Pl (B : Nat) (W : World) (g : Nat) (v : Value) (most : Int) (ps : List (Int × Bool)) (taken : Int) : Prop where
  blk : W.heap[g]? = some (.cells #[.int .i64 most, v, .int .i64 taken] 50 (0, 0))
  row : W.ownsRow B 52 2 v ps.length (plC ps)
  gB : B ≤ g
  ne : ∀ k, v.ownBlock = some k → k ≠ g
/-- All but these blocks is as it was. -/
structure Kp (w w' : World) (S : Nat → Prop) : Prop where
  os : w'.os = w.os
  tape : w'.tape = w.tape
  output : w'.output = w.output
  size : w.heap.size ≤ w'.heap.size
  block : ∀ k, k < w.heap.size → ¬ S k → w'.heap[k]? = w.heap[k]?
theorem Kp.of_below {w w' : World} {S : Nat → Prop} (h : Below w.heap.size w w') : Kp w w' S := ⟨h.os, h.tape, h.output, h.size, fun k hk _ => h.block k hk⟩
section
variable {B : Nat} {W W' : World} {g : Nat} {v : Value} {most : Int} {ps : List (Int × Bool)} {taken : Int}
theorem Pl.lt (h : Pl B W g v most ps taken) : g < W.heap.size := (Array.getElem?_eq_some_iff.1 h.blk).1
theorem Pl.rlt (h : Pl B W g v most ps taken) : ∀ k, v.ownBlock = some k → B ≤ k ∧ k < W.heap.size := h.row.lt
theorem Pl.c0 (h : Pl B W g v most ps taken) : W.cell? ⟨g, 0, none⟩ = some (.int .i64 most) := by simp [World.cell?, h.blk]
theorem Pl.c1 (h : Pl B W g v most ps taken) : W.cell? ⟨g, 1, none⟩ = some v := by simp [World.cell?, h.blk]
theorem Pl.c2 (h : Pl B W g v most ps taken) : W.cell? ⟨g, 2, none⟩ = some (.int .i64 taken) := by simp [World.cell?, h.blk]
theorem Pl.f (h : Pl B W g v most ps taken) (j : Nat) : W.frozen? ⟨g, j, none⟩ = false := by simp [World.frozen?, h.blk]
theorem Pl.move (h : Pl B W g v most ps taken) (hm : ∀ k, k = g ∨ v.ownBlock = some k → W'.heap[k]? = W.heap[k]?) : Pl B W' g v most ps taken := by
  refine ⟨(hm g (.inl rfl)).trans h.blk, ?_, h.gB, h.ne⟩
  obtain ⟨k1, k2⟩ := h.row
  refine ⟨k1, ?_⟩
  rcases k2 with k2 | ⟨g', cap, cur, rfl, k3, k4, k5⟩
  · exact .inl k2
  · exact .inr ⟨g', cap, cur, rfl, k3, (hm g' (.inr rfl)).trans k4, k5⟩
theorem Pl.below (h : Pl B W g v most ps taken) (hb : Below W.heap.size W W') : Pl B W' g v most ps taken :=
  h.move (fun k hk => hb.block k (by rcases hk with rfl | hk; exact h.lt; exact (h.rlt k hk).2))
/-- A store into the pool's own block. -/
theorem Pl.setMost (h : Pl B W g v most ps taken) (x : Int) : Pl B (W.setCell ⟨g, 2, none⟩ (.int .i64 x)) g v most ps x := by
  refine ⟨by simp [World.setCell, Array.getElem?_modify, h.blk], ?_, h.gB, h.ne⟩
  obtain ⟨k1, k2⟩ := h.row
  refine ⟨k1, ?_⟩
  rcases k2 with k2 | ⟨g', cap, cur, rfl, k3, k4, k5⟩
  · exact .inl k2
  · exact .inr ⟨g', cap, cur, rfl, k3, (Below.heap_setCell W ⟨g, 2, none⟩ _ g' (h.ne g' rfl)).trans k4, k5⟩
end

theorem new_calls' (m : Int) (w : World) :
    Calls Tryd.prog 6 #[.int .i64 m] w fun e w' => e = .returned (.pointer (some ⟨w.heap.size, 0, none⟩)) ∧ w' = w.alloc (.cells #[.int .i64 (min (max m 0) 10000), .slice none 0 0, .int .i64 0] 50) := by
  go_enter Tryd.func6, Tryd.ntmps6
  go_wp2
  go_ret
  exact ⟨rfl, rfl⟩
theorem len_calls {B : Nat} {W : World} {g : Nat} {v : Value} {most : Int} {ps : List (Int × Bool)} {taken : Int} (h : Pl B W g v most ps taken) :
    Calls Tryd.prog 10 #[.pointer (some ⟨g, 0, none⟩)] W fun e w' => e = .returned (.int .i64 taken) ∧ w' = W := by
  have c2 := h.c2
  clear h
  go_enter Tryd.func10, Tryd.ntmps10
  go_wp2
  go_ret
  exact ⟨rfl, rfl⟩
end Go.Proofs.YtppapffkidkonaaDoor
