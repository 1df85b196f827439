import Derived.Test.YthncaagpjajhkaaDoorErrF
import Derived.Test.YthncaagpjajhkaaDoorShelf
import Derived.Lib.LaidTab
import Derived.Lib.ItoaLen
import Derived.Laws.Concat
import Derived.Deep.QuietTactic
import Derived.BigQuiet
import Derived.Deep.LoopGhost
import Derived.LoopTactic
namespace Go.Proofs.YthncaagpjajhkaaDoor
open Go.RowKit
set_option linter.unusedVariables false
set_option linter.unusedSimpArgs false

theorem tab_global : Tryd.prog.globalNamed "internal/strconv.uint64pow10" = some 1 := by kernel_rfl
/-- What the listed variables hold. -/
structure Env (w : World) : Prop where
  et : ErrType w
  tab : Lib.TabIs Tryd.prog w "internal/strconv.uint64pow10" .u64 Lib.pow10Tab
theorem Env.below {w w' : World} (h : Env w) (hb : Below w.heap.size w w') : Env w' := by
  refine ⟨h.et.below hb, ?_⟩
  have h2 := h.tab
  unfold Lib.TabIs World.var? at h2 ⊢
  rw [tab_global] at h2 ⊢
  simp only [Option.bind_some] at h2 ⊢
  have hlt : 1 < w.heap.size := by
    rcases Nat.lt_or_ge 1 w.heap.size with h' | h'
    · exact h'
    · rw [Array.getElem?_eq_none h'] at h2; cases h2
  rw [hb.block _ hlt]
  exact h2
theorem below_grow' (w : World) (k : Nat) (os : Array Obj) : Below w.heap.size w (Sort.grow (w.drewN k) os) := by
  refine ⟨rfl, rfl, rfl, ?_, fun i hi => ?_⟩
  · show w.heap.size ≤ (w.heap ++ os).size
    rw [Array.size_append]; omega
  · show (w.heap ++ os)[i]? = w.heap[i]?
    rw [Array.getElem?_append_left hi]

theorem itoa_18 : Lib.itoa 18 = [49, 56] := by
  unfold Lib.itoa
  rw [if_neg (by omega)]
  show Lib.decDigits 18 = [49, 56]
  unfold Lib.decDigits
  simp [Lib.decDigits]

set_option maxRecDepth 100000 in
theorem errno_18 (w : World) (he : Env w) : Calls Tryd.prog 5 #[.int .i64 18] w fun e w' => e = .returned (.string ⟨#[101, 114, 114, 111, 114, 32, 49, 56]⟩) ∧ Below w.heap.size w w' := by
  have H := Lib.hid (Tryd.strconv_Itoa 18 (by omega) (by omega) w he.tab)
  rw [itoa_18] at H
  clear he
  go_enter Tryd.func5, Tryd.ntmps5
  go_wp2_with fail
  refine H.out.mono ?_
  rintro e w1 ⟨rfl, k, os, rfl⟩
  go_wp2_with fail
  go_ret
  exact ⟨rfl, below_grow' w k os⟩

/-- The numbers, as they stand in the list of pairs. -/
def nums : List Int := [0, 1, 2, 3, 4, 5, 6, 7, 8, 9, 10, 11, 12, 13, 14, 15, 16, 17, 18, 1073741824, 35184372088832, 500, 1000, 20, 1000, 2000, 100, 0, 1, 2, 1, 2, 3, 1, 2, 3, 4, 1, 2, 3, 4, 5, 6, 1, 2, 3, 4, 5, 6, 1, 2, 3, 4, 5, 6, 1, 2, 3, 4]
def dC : List Int → List Value
  | [] => []
  | a :: l => .int .i64 a :: .int .i64 a :: dC l
theorem dC_one : ∀ (l : List Int) (i : Nat) (h : i < l.length), (dC l)[i * 2]? = some (.int .i64 l[i])
  | p :: l, 0, _ => rfl
  | p :: l, i + 1, h => by
    have := dC_one l i (by simpa using h)
    simp only [dC, Nat.add_mul, Nat.one_mul]
    exact this
theorem dC_two : ∀ (l : List Int) (i : Nat) (h : i < l.length), (dC l)[i * 2 + 1]? = some (.int .i64 l[i])
  | p :: l, 0, _ => rfl
  | p :: l, i + 1, h => by
    have := dC_two l i (by simpa using h)
    simp only [dC, Nat.add_mul, Nat.one_mul]
    exact this

set_option maxHeartbeats 4000000 in
set_option maxRecDepth 100000 in
theorem all_calls (w : World) : Calls Tryd.prog 4 #[] w fun e w' => e = .returned (.slice (some ⟨w.heap.size, 0, none⟩) 59 59) ∧ w' = w.alloc (.cells (dC nums).toArray 25) := by
  go_enter Tryd.func4, Tryd.ntmps4
  go_wp2
  go_ret
  exact ⟨rfl, rfl⟩
end Go.Proofs.YthncaagpjajhkaaDoor
