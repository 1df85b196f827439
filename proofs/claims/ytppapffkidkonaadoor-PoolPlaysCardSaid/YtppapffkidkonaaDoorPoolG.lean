import Derived.Test.YtppapffkidkonaaDoorPoolF
import Derived.StillTailTactics
import Derived.LoopTactic
namespace Go.Proofs.YtppapffkidkonaaDoor
open Go.RowKit
set_option linter.unusedVariables false
set_option linter.unusedSimpArgs false

/-- The three stores of a take into the pool. -/
theorem Pl.steps {B : Nat} {w : World} {g r n cap : Nat} {most : Int} {ps : List (Int × Bool)} {taken : Int} (h : Pl B w g (.slice (some ⟨r, 0, none⟩) n cap) most ps taken) (hn : n = ps.length) (k : Nat) (t : Int) (hk : k < ps.length) (hp : ps[k] = (t, false)) :
    w.cell? ⟨r, k * 2, none⟩ = some (.int .i64 t) ∧ w.frozen? ⟨r, k * 2, none⟩ = false ∧
    (w.setCell ⟨r, k * 2, none⟩ (.int .i64 (t + 1))).cell? ⟨g, 1, none⟩ = some (.slice (some ⟨r, 0, none⟩) n cap) ∧
    (w.setCell ⟨r, k * 2, none⟩ (.int .i64 (t + 1))).cell? ⟨r, k * 2 + 1, none⟩ = some (.bool false) ∧
    (w.setCell ⟨r, k * 2, none⟩ (.int .i64 (t + 1))).frozen? ⟨r, k * 2 + 1, none⟩ = false ∧
    ((w.setCell ⟨r, k * 2, none⟩ (.int .i64 (t + 1))).setCell ⟨r, k * 2 + 1, none⟩ (.bool true)).cell? ⟨g, 2, none⟩ = some (.int .i64 taken) ∧
    ((w.setCell ⟨r, k * 2, none⟩ (.int .i64 (t + 1))).setCell ⟨r, k * 2 + 1, none⟩ (.bool true)).frozen? ⟨g, 2, none⟩ = false ∧
    (((w.setCell ⟨r, k * 2, none⟩ (.int .i64 (t + 1))).setCell ⟨r, k * 2 + 1, none⟩ (.bool true)).setCell ⟨g, 2, none⟩ (.int .i64 (taken + 1))).cell? ⟨g, 1, none⟩ = some (.slice (some ⟨r, 0, none⟩) n cap) ∧
    (((w.setCell ⟨r, k * 2, none⟩ (.int .i64 (t + 1))).setCell ⟨r, k * 2 + 1, none⟩ (.bool true)).setCell ⟨g, 2, none⟩ (.int .i64 (taken + 1))).cell? ⟨r, k * 2, none⟩ = some (.int .i64 (t + 1)) ∧
    Pl B (((w.setCell ⟨r, k * 2, none⟩ (.int .i64 (t + 1))).setCell ⟨r, k * 2 + 1, none⟩ (.bool true)).setCell ⟨g, 2, none⟩ (.int .i64 (taken + 1))) g (.slice (some ⟨r, 0, none⟩) n cap) most (ps.set k (t + 1, true)) (taken + 1) := by
  subst hn
  have P1 : Pl B (w.setCell ⟨r, k * 2, none⟩ (.int .i64 (t + 1))) g (.slice (some ⟨r, 0, none⟩) ps.length cap) most (ps.set k (t + 1, false)) taken :=
    h.stored (k * 2) _ _ (by simp) (by rw [plC_set1 ps k hk, hp])
  have P1' : Pl B (w.setCell ⟨r, k * 2, none⟩ (.int .i64 (t + 1))) g (.slice (some ⟨r, 0, none⟩) (ps.set k (t + 1, false)).length cap) most (ps.set k (t + 1, false)) taken := by
    rw [List.length_set]; exact P1
  have hk1 : k < (ps.set k (t + 1, false)).length := by rw [List.length_set]; exact hk
  have e1 : (ps.set k (t + 1, false))[k] = (t + 1, false) := by simp
  have P2 := P1'.stored (k * 2 + 1) (.bool true) (ps.set k (t + 1, true)) (by simp) (by rw [plC_set2 _ k hk1, e1, List.set_set])
  rw [List.length_set] at P2
  have P3 := P2.setMost (taken + 1)
  have q0 := (h.row.cellAt (k * 2) (by omega)).trans (plC_turn ps k hk)
  have q1 := (P1'.row.cellAt (k * 2 + 1) (by omega)).trans (plC_taken _ k hk1)
  have P3' := P3
  have hk3 : k < (ps.set k (t + 1, true)).length := by rw [List.length_set]; exact hk
  rw [show ps.length = (ps.set k (t + 1, true)).length from by rw [List.length_set]] at P3'
  have q3 := (P3'.row.cellAt (k * 2) (by omega)).trans (plC_turn _ k hk3)
  rw [hp] at q0
  rw [e1] at q1
  rw [List.getElem_set_self] at q3
  exact ⟨q0, h.row.frozenAt _, P1.c1, q1, P1'.row.frozenAt _, P2.c2, P2.f 2, P3.c1, q3, P3⟩
/-- The result's two cells. -/
theorem res_steps {w : World} {G : Nat} {T : TypeId} (h : w.heap[G]? = some (.cells #[.int .i64 0, .int .i64 0] T (0, 0))) (a b : Int) :
    w.cell? ⟨G, 0, none⟩ = some (.int .i64 0) ∧ w.frozen? ⟨G, 0, none⟩ = false ∧ w.cell? ⟨G, 1, none⟩ = some (.int .i64 0) ∧ w.frozen? ⟨G, 1, none⟩ = false ∧
    (w.setCell ⟨G, 0, none⟩ (.int .i64 a)).cell? ⟨G, 1, none⟩ = some (.int .i64 0) ∧ (w.setCell ⟨G, 0, none⟩ (.int .i64 a)).frozen? ⟨G, 1, none⟩ = false ∧
    ((w.setCell ⟨G, 0, none⟩ (.int .i64 a)).setCell ⟨G, 1, none⟩ (.int .i64 b)).cell? ⟨G, 0, none⟩ = some (.int .i64 a) ∧
    ((w.setCell ⟨G, 0, none⟩ (.int .i64 a)).setCell ⟨G, 1, none⟩ (.int .i64 b)).cell? ⟨G, 1, none⟩ = some (.int .i64 b) := by
  refine ⟨?_, ?_, ?_, ?_, ?_, ?_, ?_, ?_⟩ <;> simp [World.cell?, World.frozen?, World.setCell, Array.getElem?_modify, h]

/-- A store into a new block. -/
theorem Kp.fresh {w w' : World} {S : Nat → Prop} (h : Kp w w' S) (b j : Nat) (u : Value) (hb : w.heap.size ≤ b) : Kp w (w'.setCell ⟨b, j, none⟩ u) S :=
  ⟨h.os, h.tape, h.output, by show w.heap.size ≤ _; simp only [World.setCell, Array.size_modify]; exact h.size, fun k hk hS => (Below.heap_setCell w' ⟨b, j, none⟩ u k (fun e => by have e : k = b := e; omega)).trans (h.block k hk hS)⟩

set_option maxHeartbeats 600000 in
set_option maxRecDepth 100000 in
theorem take_old {B : Nat} {W : World} {g r cap : Nat} {most : Int} {ps : List (Int × Bool)} {taken : Int} (h : Pl B W g (.slice (some ⟨r, 0, none⟩) ps.length cap) most ps taken) (hn : ps.length ≤ 10000) (ht0 : 0 ≤ taken) (ht1 : taken ≤ 10000) (hK : (lf ps : Int) ≠ most) (k : Nat) (t : Int) (hk : k = lf ps) (hkl : k < ps.length) (hp : ps[k] = (t, false)) (htt : 0 ≤ t ∧ t < 4611686018427387904) :
    Calls Tryd.prog 7 #[.pointer (some ⟨g, 0, none⟩)] W fun e w' => e = .returned (.tuple #[.agg #[.int .i64 k, .int .i64 (t + 1)], .nilIface]) ∧ Pl B w' g (.slice (some ⟨r, 0, none⟩) ps.length cap) most (ps.set k (t + 1, true)) (taken + 1) ∧ Kp W w' (fun k => k = g ∨ k = r) := by
  have hu := Tryd.underlying27
  have hrW := (h.rlt r rfl).2
  have hgW := h.lt
  obtain ⟨G, hG⟩ : ∃ G, G = W.heap.size := ⟨_, rfl⟩
  obtain ⟨w0, hw0⟩ : ∃ w0, w0 = W.alloc (.cells #[.int .i64 0, .int .i64 0] 27) := ⟨_, rfl⟩
  have hb0 : Below W.heap.size W w0 := by rw [hw0]; exact (Below.refl _ _).alloc (Nat.le_refl _) _
  have h1 := h.below hb0
  have hR : w0.heap[G]? = some (.cells #[.int .i64 0, .int .i64 0] 27 (0, 0)) := (by rw [hw0, hG]; show (W.heap.push _)[W.heap.size]? = _; exact Array.getElem?_push_size)
  have c0 := h1.c0
  have c1 := h1.c1
  have HC := Lib.hid h1.cells
  have HB0 := Lib.hid hb0
  have HT := Lib.hid (lf_taken ps)
  have HL := Lib.hid hkl
  have HG := Lib.hid hG
  have HW0 := Lib.hid hw0
  obtain ⟨n, hne⟩ : ∃ n, n = ps.length := ⟨_, rfl⟩
  have hcap : n ≤ cap := by
    obtain ⟨_, _, e, hc⟩ := h.form0
    injection e with _ _ e3
    rw [hne, e3]; exact hc
  rw [← hne] at c1 hn hkl h1 ⊢
  obtain ⟨s1, s2, s3, s4, s5, s6, s7, s8, s9, s10⟩ := h1.steps hne k t HL.out hp
  have hGg : G ≠ g := by omega
  have hGr : G ≠ r := by omega
  have hR3 := ((Below.heap_setCell _ ⟨g, 2, none⟩ (.int .i64 (taken + 1)) G hGg).trans ((Below.heap_setCell _ ⟨r, k * 2 + 1, none⟩ (.bool true) G hGr).trans (Below.heap_setCell w0 ⟨r, k * 2, none⟩ (.int .i64 (t + 1)) G hGr))).trans hR
  obtain ⟨z1, z2, z3, z4, z5, z6, z7, z8⟩ := res_steps hR3 (k : Int) (t + 1)
  have HKp : Hid (Kp W (((((w0.setCell ⟨r, k * 2, none⟩ (.int .i64 (t + 1))).setCell ⟨r, k * 2 + 1, none⟩ (.bool true)).setCell ⟨g, 2, none⟩ (.int .i64 (taken + 1))).setCell ⟨G, 0, none⟩ (.int .i64 (k : Int))).setCell ⟨G, 1, none⟩ (.int .i64 (t + 1))) (fun k => k = g ∨ k = r)) := by
    refine Lib.hid ?_
    have q3 := ((Kp.of_below (S := fun k => k = g ∨ k = r) hb0).set ⟨r, k * 2, none⟩ (.int .i64 (t + 1)) (.inr rfl)).set ⟨r, k * 2 + 1, none⟩ (.bool true) (.inr rfl)
    have q4 := q3.set ⟨g, 2, none⟩ (.int .i64 (taken + 1)) (.inl rfl)
    exact (q4.fresh G 0 _ (by omega)).fresh G 1 _ (by omega)
  have HP5 := Lib.hid ((s10.move (fun b hb => Below.heap_setCell _ ⟨G, 0, none⟩ (.int .i64 (k : Int)) b (fun e => by
    have e : b = G := e
    rcases hb with hb | hb
    · exact hGg (e.symm.trans hb)
    · exact hGr (e.symm.trans (Option.some.inj hb).symm)))).move (fun b hb => Below.heap_setCell _ ⟨G, 1, none⟩ (.int .i64 (t + 1)) b (fun e => by
    have e : b = G := e
    rcases hb with hb | hb
    · exact hGg (e.symm.trans hb)
    · exact hGr (e.symm.trans (Option.some.inj hb).symm))))
  obtain ⟨w1, e1⟩ : ∃ w1, w0.setCell ⟨r, k * 2, none⟩ (.int .i64 (t + 1)) = w1 := ⟨_, rfl⟩
  rw [e1] at s3 s4 s5 s6 s7 s8 s9 z1 z2 z3 z4 z5 z6 z7 z8 HKp HP5
  obtain ⟨w2, e2⟩ : ∃ w2, w1.setCell ⟨r, k * 2 + 1, none⟩ (.bool true) = w2 := ⟨_, rfl⟩
  rw [e2] at s6 s7 s8 s9 z1 z2 z3 z4 z5 z6 z7 z8 HKp HP5
  obtain ⟨w3, e3⟩ : ∃ w3, w2.setCell ⟨g, 2, none⟩ (.int .i64 (taken + 1)) = w3 := ⟨_, rfl⟩
  rw [e3] at s8 s9 z1 z2 z3 z4 z5 z6 z7 z8 HKp HP5
  obtain ⟨w4, e4⟩ : ∃ w4, w3.setCell ⟨G, 0, none⟩ (.int .i64 (k : Int)) = w4 := ⟨_, rfl⟩
  rw [e4] at z5 z6 z7 z8 HKp HP5
  obtain ⟨w5, e5⟩ : ∃ w5, w4.setCell ⟨G, 1, none⟩ (.int .i64 (t + 1)) = w5 := ⟨_, rfl⟩
  rw [e5] at z7 z8 HKp HP5
  have HN := Lib.hid hne
  have HK := Lib.hid hk
  rw [← hk] at hK
  have y := (HC.out k HL.out)
  obtain ⟨r', e', y1, y2⟩ := y
  cases e'
  rw [hp] at y1 y2
  have HRW := Lib.hid hrW
  have HGW := Lib.hid hgW
  have HGG := Lib.hid hGg
  have HGR := Lib.hid hGr
  clear h h1 hb0 hne hk hp hG hw0 hR hR3 s10 hrW hgW hGg hGr y1
  have hz : (k : Int) < (n : Int) := by omega
  have hz0 : (0 : Int) ≤ (k : Int) := by omega
  have hzn : ¬ ((k : Int) = (n : Int)) := by omega
  go_enter Tryd.func7, Tryd.ntmps7
  go_wp2_with fail
  rw [← HW0.out, ← HG.out]
  go_loop [4] (fun i => ∃ j : Nat, j ≤ k ∧ i = .int .i64 j) (fun i => k - (intOf i).toNat)
  case atStart => exact ⟨0, Nat.zero_le _, rfl⟩
  case round =>
    obtain ⟨j, hj, rfl⟩ := hrel
    by_cases hlt : j < k
    · obtain ⟨r', e', _, y⟩ := HC.out j (by rw [← HN.out]; omega)
      cases e'
      rw [HT.out j (by rw [← HN.out]; omega) (by rw [← HK.out]; exact hlt)] at y
      have hx : (j : Int) < (n : Int) := by omega
      have hx0 : (0 : Int) ≤ (j : Int) := by omega
      go_wp2
      go_round
      case rel => exact ⟨j + 1, by omega, by go_num⟩
      case measure => simp [intOf]; omega
    · have hjk : j = k := by omega
      subst hjk
      go_wp2
      exact bodyPost_ret (v := .tuple #[.agg #[.int .i64 (j : Int), .int .i64 (t + 1)], .nilIface]) (by simp [results, Tryd.results7, go_sem, z7, z8, hu]) rfl ⟨rfl, HP5.out, HKp.out⟩
end Go.Proofs.YtppapffkidkonaaDoor
