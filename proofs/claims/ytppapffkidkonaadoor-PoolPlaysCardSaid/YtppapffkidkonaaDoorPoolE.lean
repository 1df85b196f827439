import Derived.Test.YtppapffkidkonaaDoorPoolD
import Derived.StillTailTactics
namespace Go.Proofs.YtppapffkidkonaaDoor
open Go.RowKit
set_option linter.unusedVariables false
set_option linter.unusedSimpArgs false

section
variable {B : Nat} {W W' : World} {g r cap : Nat} {most : Int} {ps : List (Int × Bool)} {taken : Int}
theorem Pl.stored (h : Pl B W g (.slice (some ⟨r, 0, none⟩) ps.length cap) most ps taken) (j : Nat) (u : Value) (ps' : List (Int × Bool)) (hl : ps'.length = ps.length) (hc : (plC ps).set j u = plC ps') :
    Pl B (W.setCell ⟨r, j, none⟩ u) g (.slice (some ⟨r, 0, none⟩) ps.length cap) most ps' taken := by
  have hne := h.ne r rfl
  refine ⟨(Below.heap_setCell W ⟨r, j, none⟩ _ g (fun e => hne e.symm)).trans h.blk, ?_, h.gB, h.ne⟩
  have := (h.row.stored j u).1
  rw [hc] at this
  rw [hl]
  exact this
end
/-- What a store into the pool's own two blocks leaves. -/
theorem Kp.set {w w' : World} {S : Nat → Prop} (h : Kp w w' S) (a : Addr) (u : Value) (ha : S a.block) : Kp w (w'.setCell a u) S :=
  ⟨h.os, h.tape, h.output, by show w.heap.size ≤ _; simp only [World.setCell, Array.size_modify]; exact h.size, fun k hk hS => (Below.heap_setCell w' a u k (fun e => hS (e ▸ ha))).trans (h.block k hk hS)⟩
theorem Kp.below {w w' w'' : World} {S : Nat → Prop} (h : Kp w w' S) (hb : Below w'.heap.size w' w'') : Kp w w'' S :=
  ⟨hb.os.trans h.os, hb.tape.trans h.tape, hb.output.trans h.output, Nat.le_trans h.size hb.size, fun k hk hS => (hb.block k (Nat.lt_of_lt_of_le hk h.size)).trans (h.block k hk hS)⟩

set_option maxHeartbeats 2000000 in
set_option maxRecDepth 100000 in
theorem free_yes {B : Nat} {W : World} {g r cap : Nat} {most : Int} {ps : List (Int × Bool)} {taken : Int} (h : Pl B W g (.slice (some ⟨r, 0, none⟩) ps.length cap) most ps taken) (hn : ps.length ≤ 10000) (ht0 : 0 ≤ taken) (ht1 : taken ≤ 10000) (i : Nat) (t : Int) (hi : i < ps.length) (hp : ps[i] = (t, true)) :
    Calls Tryd.prog 8 #[.pointer (some ⟨g, 0, none⟩), .agg #[.int .i64 (i : Int), .int .i64 t]] W fun e w' => e = .returned .nilIface ∧ Pl B w' g (.slice (some ⟨r, 0, none⟩) ps.length cap) most (ps.set i (t, false)) (taken - 1) ∧ Kp W w' (fun k => k = g ∨ k = r) := by
  have hu := Tryd.underlying27
  have hb0 : Below W.heap.size W (W.alloc (.cells #[.int .i64 (i : Int), .int .i64 t] 27)) := (Below.refl _ _).alloc (Nat.le_refl _) _
  have hX : hasB ps (i : Int) t = true := by
    unfold hasB
    rw [decide_eq_true (show (0 : Int) ≤ i by omega), decide_eq_true (show (i : Int) < ps.length by omega)]
    simp [hi, hp]
  have H1 := Lib.hid (has_calls (h.below hb0) hn (i : Int) t)
  rw [hX] at H1
  have HP := Lib.hid (h.below hb0)
  have HB0 := Lib.hid hb0
  have h0z : (0 : Int) ≤ (i : Int) := by omega
  have h1z : (i : Int) < (ps.length : Int) := by omega
  clear h hX hb0
  go_enter Tryd.func8, Tryd.ntmps8
  go_wp2_with fail
  refine H1.out.mono ?_
  clear H1
  rintro e w1 ⟨rfl, hb1⟩
  have y1 := (hb1.cell (p := ⟨W.heap.size, 0, none⟩) (by simp))
  have HP1 := Lib.hid (HP.out.below hb1)
  have HB1 := Lib.hid (HB0.out.trans (hb1.mono HB0.out.size))
  have y2 : w1.cell? ⟨W.heap.size, 0, none⟩ = some (.int .i64 (i : Int)) := y1.trans (by rw [World.cell?_alloc_at _ _ _ _ rfl]; rfl)
  have z1 := HP1.out.c1
  have z2 := HP1.out.c2
  have zr : w1.cell? ⟨r, i * 2 + 1, none⟩ = some (.bool true) := by
    rw [HP1.out.row.cellAt (i * 2 + 1) (by omega), plC_taken ps i hi, hp]
  have zf := HP1.out.row.frozenAt (i * 2 + 1)
  have zg := HP1.out.f 2
  have hrg := HP1.out.ne r rfl
  have z2' : (w1.setCell ⟨r, i * 2 + 1, none⟩ (.bool false)).cell? ⟨g, 2, none⟩ = some (.int .i64 taken) := (World.cell?_of_block (Below.heap_setCell w1 ⟨r, i * 2 + 1, none⟩ _ g (fun e => hrg e.symm))).trans z2
  have zg' : (w1.setCell ⟨r, i * 2 + 1, none⟩ (.bool false)).frozen? ⟨g, 2, none⟩ = false := (World.frozen?_of_block (Below.heap_setCell w1 ⟨r, i * 2 + 1, none⟩ _ g (fun e => hrg e.symm))).trans zg
  clear y1 hb1 HP HB0
  go_wp2_with fail
  go_still_tail 8, (by kernel_rfl)
  go_wp2
  go_ret
  refine ⟨rfl, ?_⟩
  have P1 := (HP1.out.stored (i * 2 + 1) (.bool false) (ps.set i (t, false)) (by simp) (by rw [plC_set2 ps i hi false, hp])).setMost (taken - 1)
  exact ⟨P1.move (fun _ _ => rfl), (((Kp.of_below HB1.out).set ⟨r, i * 2 + 1, none⟩ _ (.inr rfl)).set ⟨g, 2, none⟩ _ (.inl rfl)).below ((Below.refl _ _).drew)⟩
end Go.Proofs.YtppapffkidkonaaDoor
