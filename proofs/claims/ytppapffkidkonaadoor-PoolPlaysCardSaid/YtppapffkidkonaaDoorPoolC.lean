import Derived.Test.YtppapffkidkonaaDoorPoolB
namespace Go.Proofs.YtppapffkidkonaaDoor
open Go.RowKit
set_option linter.unusedVariables false
set_option linter.unusedSimpArgs false

theorem Pl.form {B : Nat} {W : World} {g : Nat} {v : Value} {most : Int} {ps : List (Int × Bool)} {taken : Int} (h : Pl B W g v most ps taken) (h0 : 0 < ps.length) :
    ∃ r cap, v = .slice (some ⟨r, 0, none⟩) ps.length cap ∧ ps.length ≤ cap ∧ B ≤ r ∧ r ≠ g ∧ r < W.heap.size ∧ ∀ i (hi : i < ps.length), W.cell? ⟨r, i * 2, none⟩ = some (.int .i64 ps[i].1) ∧ W.cell? ⟨r, i * 2 + 1, none⟩ = some (.bool ps[i].2) ∧ W.frozen? ⟨r, i * 2, none⟩ = false ∧ W.frozen? ⟨r, i * 2 + 1, none⟩ = false := by
  have hr := h.row
  rcases h.row.2 with ⟨_, k0⟩ | ⟨r, cap, cur, rfl, k3, k4, k5, _, _, k6⟩
  · omega
  · refine ⟨r, cap, rfl, k5, k3, h.ne r rfl, (Array.getElem?_eq_some_iff.1 k4).1, fun i hi => ⟨?_, ?_, hr.frozenAt _, hr.frozenAt _⟩⟩
    · rw [hr.cellAt (i * 2) (by omega)]; exact plC_turn ps i hi
    · rw [hr.cellAt (i * 2 + 1) (by omega)]; exact plC_taken ps i hi
theorem Pl.form0 {B : Nat} {W : World} {g : Nat} {v : Value} {most : Int} {ps : List (Int × Bool)} {taken : Int} (h : Pl B W g v most ps taken) : ∃ A cap, v = .slice A ps.length cap ∧ ps.length ≤ cap := by
  rcases h.row.2 with ⟨rfl, k0⟩ | ⟨r, cap, cur, rfl, k3, k4, k5, _⟩
  · exact ⟨none, 0, by rw [k0], by omega⟩
  · exact ⟨_, _, rfl, k5⟩
theorem below_drewN {B : Nat} {a w : World} (h : Below B a w) (n : Nat) : Below B a (w.drewN n) := ⟨h.os, h.tape, h.output, h.size, h.block⟩
/-- Is there such a place? -/
def hasB (ps : List (Int × Bool)) (a t : Int) : Bool := decide (0 ≤ a) && decide (a < ps.length) && (ps.getD a.toNat (0, false)).2 && decide ((ps.getD a.toNat (0, false)).1 = t)

set_option maxHeartbeats 2000000 in
set_option maxRecDepth 100000 in
theorem has_calls {B : Nat} {W : World} {g : Nat} {v : Value} {most : Int} {ps : List (Int × Bool)} {taken : Int} (h : Pl B W g v most ps taken) (hn : ps.length ≤ 10000) (a t : Int) :
    Calls Tryd.prog 14 #[.pointer (some ⟨g, 0, none⟩), .agg #[.int .i64 a, .int .i64 t]] W fun e w' => e = .returned (.bool (hasB ps a t)) ∧ Below W.heap.size W w' := by
  have hgl := h.lt
  have hu := Tryd.underlying27
  by_cases h0 : 0 ≤ a
  · have h0b : decide (0 ≤ a) = true := decide_eq_true h0
    by_cases h1 : a < ps.length
    · obtain ⟨i, rfl⟩ : ∃ i : Nat, a = i := ⟨a.toNat, by omega⟩
      have hi : i < ps.length := by omega
      obtain ⟨r, cap, rfl, hcap, hrB, hrg, hrl, hc⟩ := h.form (by omega)
      obtain ⟨x1, x2, _, _⟩ := hc i hi
      have hX : hasB ps (i : Int) t = (ps[i].2 && decide (ps[i].1 = t)) := by
        unfold hasB
        rw [decide_eq_true h0, decide_eq_true h1]
        simp [hi]
      rw [hX]
      generalize ps[i] = q at *
      obtain ⟨q1, q2⟩ := q
      clear hc hX h0
      have c1 := ((Below.refl W.heap.size W).alloc (Nat.le_refl _) (.cells #[.int .i64 (i : Int), .int .i64 t] 27)).cell (p := ⟨g, 1, none⟩) hgl
      have c1' := h.c1
      have y1 := ((Below.refl W.heap.size W).alloc (Nat.le_refl _) (.cells #[.int .i64 (i : Int), .int .i64 t] 27)).cell (p := ⟨r, i * 2, none⟩) hrl
      have y2 := ((Below.refl W.heap.size W).alloc (Nat.le_refl _) (.cells #[.int .i64 (i : Int), .int .i64 t] 27)).cell (p := ⟨r, i * 2 + 1, none⟩) hrl
      simp only at x1 x2
      generalize ps.length = n at *
      clear h
      cases q2 with
      | true =>
        by_cases ht : q1 = t
        · have htb : (q1 == t) = true := beq_iff_eq.2 ht
          have hs : (true && decide (q1 = t)) = true := by rw [decide_eq_true ht]; rfl
          simp only at hs ⊢
          rw [hs]
          clear ht hs
          go_enter Tryd.func14, Tryd.ntmps14
          go_wp2_with fail
          go_quiet (fail)
          go_wp2
          go_ret
          exact ⟨rfl, below_drewN ((Below.refl _ _).alloc (Nat.le_refl _) _) _⟩
        · have htb : (q1 == t) = false := beq_eq_false_iff_ne.2 ht
          have hs : (true && decide (q1 = t)) = false := by rw [decide_eq_false ht]; rfl
          simp only at hs ⊢
          rw [hs]
          clear ht hs
          go_enter Tryd.func14, Tryd.ntmps14
          go_wp2_with fail
          go_quiet (fail)
          go_wp2
          go_ret
          exact ⟨rfl, below_drewN ((Below.refl _ _).alloc (Nat.le_refl _) _) _⟩
      | false =>
        simp only [Bool.false_and]
        go_enter Tryd.func14, Tryd.ntmps14
        go_wp2_with fail
        go_quiet (fail)
        go_wp2
        go_ret
        exact ⟨rfl, below_drewN ((Below.refl _ _).alloc (Nat.le_refl _) _) _⟩
    · have h1b : decide (a < (ps.length : Int)) = false := decide_eq_false h1
      have hX : hasB ps a t = false := by unfold hasB; rw [h1b, Bool.and_false]; rfl
      rw [hX]
      obtain ⟨A, cap, rfl, hcap⟩ := h.form0
      have c1 := ((Below.refl W.heap.size W).alloc (Nat.le_refl _) (.cells #[.int .i64 a, .int .i64 t] 27)).cell (p := ⟨g, 1, none⟩) hgl
      have c1' := h.c1
      generalize ps.length = n at *
      clear h hX h0
      go_enter Tryd.func14, Tryd.ntmps14
      go_wp2_with fail
      go_quiet (fail)
      go_wp2
      go_ret
      exact ⟨rfl, below_drewN ((Below.refl _ _).alloc (Nat.le_refl _) _) _⟩
  · have h0b : decide (0 ≤ a) = false := decide_eq_false h0
    have hX : hasB ps a t = false := by unfold hasB; rw [h0b]; rfl
    rw [hX]
    clear hX h
    go_enter Tryd.func14, Tryd.ntmps14
    go_wp2_with fail
    go_quiet (fail)
    go_wp2
    go_ret
    exact ⟨rfl, below_drewN ((Below.refl _ _).alloc (Nat.le_refl _) _) _⟩
end Go.Proofs.YtppapffkidkonaaDoor
