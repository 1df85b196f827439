import Derived.Test.YtppapffkidkonaaDoorPoolG
import Derived.Deep.AppendLies
import Derived.StillTailTactics
import Derived.LoopTactic
namespace Go.Proofs.YtppapffkidkonaaDoor
open Go.RowKit
set_option linter.unusedVariables false
set_option linter.unusedSimpArgs false

theorem info_place : (Tryd.prog.info? 52).map (fun i => (i.zero, i.size, i.bytes)) = some (some (.agg #[.int .i64 0, .bool false]), 2, 16) := by kernel_rfl

/-- All that the five stores of a take leave; each world has a name. -/
theorem take_steps {B : Nat} {W w : World} {S : Nat → Prop} {g r n cap G : Nat} {most : Int} {ps : List (Int × Bool)} {taken : Int} (h : Pl B w g (.slice (some ⟨r, 0, none⟩) n cap) most ps taken) (hn : n = ps.length) (k : Nat) (t : Int) (hk : k < ps.length) (hp : ps[k] = (t, false)) (hR : w.heap[G]? = some (.cells #[.int .i64 0, .int .i64 0] 27 (0, 0))) (hGg : G ≠ g) (hGr : G ≠ r) (hGW : W.heap.size ≤ G) (hKp : Kp W w S) (hg : S g) (hr : S r ∨ W.heap.size ≤ r) :
    ∃ w1 w2 w3 w4 w5 : World, w.setCell ⟨r, k * 2, none⟩ (.int .i64 (t + 1)) = w1 ∧ w1.setCell ⟨r, k * 2 + 1, none⟩ (.bool true) = w2 ∧ w2.setCell ⟨g, 2, none⟩ (.int .i64 (taken + 1)) = w3 ∧ w3.setCell ⟨G, 0, none⟩ (.int .i64 (k : Int)) = w4 ∧ w4.setCell ⟨G, 1, none⟩ (.int .i64 (t + 1)) = w5 ∧
      (w.cell? ⟨g, 1, none⟩ = some (.slice (some ⟨r, 0, none⟩) n cap) ∧ w.cell? ⟨r, k * 2, none⟩ = some (.int .i64 t) ∧ w.frozen? ⟨r, k * 2, none⟩ = false) ∧
      (w1.cell? ⟨g, 1, none⟩ = some (.slice (some ⟨r, 0, none⟩) n cap) ∧ w1.cell? ⟨r, k * 2 + 1, none⟩ = some (.bool false) ∧ w1.frozen? ⟨r, k * 2 + 1, none⟩ = false) ∧
      (w2.cell? ⟨g, 2, none⟩ = some (.int .i64 taken) ∧ w2.frozen? ⟨g, 2, none⟩ = false) ∧
      (w3.cell? ⟨g, 1, none⟩ = some (.slice (some ⟨r, 0, none⟩) n cap) ∧ w3.cell? ⟨r, k * 2, none⟩ = some (.int .i64 (t + 1))) ∧
      (w3.cell? ⟨G, 0, none⟩ = some (.int .i64 0) ∧ w3.frozen? ⟨G, 0, none⟩ = false ∧ w3.cell? ⟨G, 1, none⟩ = some (.int .i64 0) ∧ w3.frozen? ⟨G, 1, none⟩ = false) ∧
      (w4.cell? ⟨G, 1, none⟩ = some (.int .i64 0) ∧ w4.frozen? ⟨G, 1, none⟩ = false) ∧
      (w5.cell? ⟨G, 0, none⟩ = some (.int .i64 (k : Int)) ∧ w5.cell? ⟨G, 1, none⟩ = some (.int .i64 (t + 1))) ∧
      Hid (Pl B w5 g (.slice (some ⟨r, 0, none⟩) n cap) most (ps.set k (t + 1, true)) (taken + 1)) ∧ Hid (Kp W w5 S) := by
  obtain ⟨s1, s2, s3, s4, s5, s6, s7, s8, s9, s10⟩ := h.steps hn k t hk hp
  have hR3 := ((Below.heap_setCell _ ⟨g, 2, none⟩ (.int .i64 (taken + 1)) G hGg).trans ((Below.heap_setCell _ ⟨r, k * 2 + 1, none⟩ (.bool true) G hGr).trans (Below.heap_setCell w ⟨r, k * 2, none⟩ (.int .i64 (t + 1)) G hGr))).trans hR
  obtain ⟨z1, z2, z3, z4, z5, z6, z7, z8⟩ := res_steps hR3 (k : Int) (t + 1)
  refine ⟨_, _, _, _, _, rfl, rfl, rfl, rfl, rfl, ⟨h.c1, s1, s2⟩, ⟨s3, s4, s5⟩, ⟨s6, s7⟩, ⟨s8, s9⟩, ⟨z1, z2, z3, z4⟩, ⟨z5, z6⟩, ⟨z7, z8⟩, ?_, ?_⟩
  · refine (s10.move (fun b hb => Below.heap_setCell _ ⟨G, 0, none⟩ (.int .i64 (k : Int)) b (fun e => ?_))).move (fun b hb => Below.heap_setCell _ ⟨G, 1, none⟩ (.int .i64 (t + 1)) b (fun e => ?_))
    all_goals
      have e : b = G := e
      rcases hb with hb | hb
      · exact hGg (e.symm.trans hb)
      · exact hGr (e.symm.trans (Option.some.inj hb).symm)
  · have q : ∀ (w' : World) (j : Nat) (u : Value), Kp W w' S → Kp W (w'.setCell ⟨r, j, none⟩ u) S := by
      intro w' j u hw
      rcases hr with hr | hr
      · exact hw.set ⟨r, j, none⟩ u hr
      · exact hw.fresh r j u hr
    exact ((((q _ _ _ (q _ _ _ hKp)).set ⟨g, 2, none⟩ (.int .i64 (taken + 1)) hg).fresh G 0 _ hGW).fresh G 1 _ hGW)

/-- What the append of a place leaves. -/
theorem grow_steps {B : Nat} {W w0 wA : World} {v : Value} {g r n cap G : Nat} {o : Obj} {most : Int} {ps : List (Int × Bool)} {taken : Int} (h : Pl B w0 g v most ps taken) (hb0 : Below W.heap.size W w0) (hgW : g < W.heap.size) (hvW : ∀ k, v.ownBlock = some k → k < W.heap.size) (hR : w0.heap[G]? = some (.cells #[.int .i64 0, .int .i64 0] 27 (0, 0))) (hG : W.heap.size ≤ G) (hn : n = ps.length)
    (hown : wA.ownsRow B 52 2 (.slice (some ⟨r, 0, none⟩) (n + 1) cap) (n + 1) (plC ps ++ [.int .i64 0, .bool false])) (hgrow : (w0.alloc o).grownBy wA v.ownBlock) (hat : v.ownBlock = some r ∨ r = w0.heap.size + 1) :
    wA.cell? ⟨g, 1, none⟩ = some v ∧ wA.frozen? ⟨g, 1, none⟩ = false ∧ Pl B (wA.setCell ⟨g, 1, none⟩ (.slice (some ⟨r, 0, none⟩) (n + 1) cap)) g (.slice (some ⟨r, 0, none⟩) (n + 1) cap) most (ps ++ [(0, false)]) taken ∧
      (wA.setCell ⟨g, 1, none⟩ (.slice (some ⟨r, 0, none⟩) (n + 1) cap)).heap[G]? = some (.cells #[.int .i64 0, .int .i64 0] 27 (0, 0)) ∧ Kp W (wA.setCell ⟨g, 1, none⟩ (.slice (some ⟨r, 0, none⟩) (n + 1) cap)) (fun k => k = g ∨ v.ownBlock = some k) ∧ G ≠ g ∧ G ≠ r := by
  have hsz := hb0.size
  have hG0 : G < w0.heap.size := (Array.getElem?_eq_some_iff.1 hR).1
  have old : ∀ b, b < w0.heap.size → v.ownBlock ≠ some b → wA.heap[b]? = w0.heap[b]? := by
    intro b hb hv
    refine (hgrow.block b (by simp; omega) (fun e => hv e.symm)).trans ?_
    show (w0.heap.push o)[b]? = _
    rw [Array.getElem?_push, if_neg (by omega)]
  have hg0 : wA.heap[g]? = _ := (old g (by omega) (fun e => h.ne g e rfl)).trans h.blk
  have hGA := (old G hG0 (fun e => by have := hvW G e; omega)).trans hR
  have hGg : G ≠ g := by omega
  have hGr : G ≠ r := by
    rcases hat with e | e
    · have := hvW r e; omega
    · omega
  have hrg : r ≠ g := by
    rcases hat with e | e
    · exact h.ne r e
    · omega
  refine ⟨by simp [World.cell?, hg0], by simp [World.frozen?, hg0], ⟨by simp [World.setCell, Array.getElem?_modify, hg0], ?_, h.gB, fun k e => by
    have e : r = k := Option.some.inj e
    rw [← e]; exact hrg⟩, (Below.heap_setCell wA ⟨g, 1, none⟩ _ G hGg).trans hGA, ?_, hGg, hGr⟩
  · rw [plC_snoc, List.length_append, List.length_singleton, ← hn]
    obtain ⟨k1, k2⟩ := hown
    refine ⟨k1, ?_⟩
    rcases k2 with k2 | ⟨g', cap', cur, e, k3, k4, k5⟩
    · exact .inl k2
    · injection e with e1 e2 e3
      injection e1 with e1
      injection e1 with e1
      subst e1
      exact .inr ⟨r, cap', cur, by rw [e3], k3, (Below.heap_setCell wA ⟨g, 1, none⟩ _ r hrg).trans k4, k5⟩
  · have q : Kp W wA (fun k => k = g ∨ v.ownBlock = some k) := by
      refine ⟨hgrow.os.trans hb0.os, hgrow.tape.trans hb0.tape, hgrow.output.trans hb0.output, ?_, fun k hk hS => (old k (by omega) (fun e => hS (.inr e))).trans (hb0.block k hk)⟩
      have := hgrow.size
      simp at this
      omega
    exact q.set ⟨g, 1, none⟩ _ (.inl rfl)
end Go.Proofs.YtppapffkidkonaaDoor
