import Derived.Test.YtppapffkidkonaaDoorPoolO
namespace Go.Proofs.YtppapffkidkonaaDoor
open Go.RowKit
set_option linter.unusedVariables false
set_option linter.unusedSimpArgs false
/-- A handle of the row is written anew. -/
theorem Ls.turn {B : Nat} {w wr : World} {g : Nat} {M taken : Int} {ps : List (Int × Bool)} {v : Value} {ts : List Int} {ra cap n : Nat} (h : Ls B w wr g M ps taken v (.slice (some ⟨ra, 0, none⟩) n cap) ts) (hn : n = ts.length) (k : Nat) (hk : k < ts.length) (x : Int) (hB : B ≤ w.heap.size) :
    (wr.setCell ⟨ra, k * 2, none⟩ (.int .i64 (k : Int))).cell? ⟨ra, k * 2 + 1, none⟩ = some (.int .i64 ts[k]) ∧ (wr.setCell ⟨ra, k * 2, none⟩ (.int .i64 (k : Int))).frozen? ⟨ra, k * 2 + 1, none⟩ = false ∧
    Ls B w ((wr.setCell ⟨ra, k * 2, none⟩ (.int .i64 (k : Int))).setCell ⟨ra, k * 2 + 1, none⟩ (.int .i64 x)) g M ps taken v (.slice (some ⟨ra, 0, none⟩) n cap) (ts.set k x) := by
  subst hn
  have e1 : (hC 0 ts).set (k * 2) (.int .i64 (k : Int)) = hC 0 ts := by
    have := hC_place ts 0 k hk
    rw [Nat.zero_add] at this
    apply List.ext_getElem?
    intro i
    rw [List.getElem?_set]
    split
    · rename_i e
      subst e
      split
      · exact this.symm
      · rename_i h2
        rw [List.getElem?_eq_none (by omega)] at this
        cases this
    · rfl
  have r1 := (h.row.stored (k * 2) (.int .i64 (k : Int))).1
  rw [e1] at r1
  have r2 := (r1.stored (k * 2 + 1) (.int .i64 x)).1
  rw [hC_set ts 0 k hk] at r2
  have hne := h.ne ra rfl
  have hlt := h.row.lt ra rfl
  have far : ∀ b, b ≠ ra → ((wr.setCell ⟨ra, k * 2, none⟩ (.int .i64 (k : Int))).setCell ⟨ra, k * 2 + 1, none⟩ (.int .i64 x)).heap[b]? = wr.heap[b]? := fun b hb => (Below.heap_setCell _ ⟨ra, k * 2 + 1, none⟩ _ b hb).trans (Below.heap_setCell wr ⟨ra, k * 2, none⟩ _ b hb)
  refine ⟨(r1.cellAt (k * 2 + 1) (by omega)).trans (hC_turn ts 0 k hk), r1.frozenAt _, ?_, ?_, h.ne, ?_⟩
  · refine h.pl.move (fun b hb => far b (fun e => ?_))
    subst e
    rcases hb with hb | hb
    · exact hne.1 hb
    · exact hne.2 hb
  · rw [List.length_set]
    exact r2
  · refine ⟨h.below.os, h.below.tape, h.below.output, ?_, fun b hb => (far b (fun e => by have := hlt.1; omega)).trans (h.below.block b hb)⟩
    simp only [World.setCell, Array.size_modify]
    exact h.below.size
end Go.Proofs.YtppapffkidkonaaDoor
