import Derived.Test.YtppapffkidkonaaDoorPoolV
namespace Go.Proofs.YtppapffkidkonaaDoor
open Go.RowKit
set_option linter.unusedVariables false
set_option linter.unusedSimpArgs false

set_option maxHeartbeats 2000000 in
set_option maxRecDepth 100000 in
theorem ref_free_not {B : Nat} {W : World} {gr r1 r2 n : Nat} {qs : List (Int × Bool)} (h : Rp B W gr r1 r2 n qs) (a t : Int) (hb : hasB qs a t = false) :
    Calls Tryd.prog 16 #[.pointer (some ⟨gr, 0, none⟩), .agg #[.int .i64 a, .int .i64 t]] W fun e w' => e = .returned (.bool false) ∧ Below W.heap.size W w' := by
  have hu := Tryd.underlying27
  have hb0 : Below W.heap.size W (W.alloc (.cells #[.int .i64 a, .int .i64 t] 27)) := (Below.refl _ _).alloc (Nat.le_refl _) _
  have H1 := Lib.hid (ref_has (h.below hb0) a t)
  rw [hb] at H1
  have HB0 := Lib.hid hb0
  clear h hb hb0
  go_enter Tryd.func16, Tryd.ntmps16
  go_wp2_with fail
  refine H1.out.mono ?_
  clear H1
  rintro e w1 ⟨rfl, hb1⟩
  have HB1 := Lib.hid (HB0.out.trans (hb1.mono HB0.out.size))
  clear hb1 HB0
  go_wp2_with fail
  go_ret
  exact ⟨rfl, HB1.out⟩

set_option maxHeartbeats 2000000 in
set_option maxRecDepth 100000 in
theorem ref_free_yes {B : Nat} {W : World} {gr r1 r2 n : Nat} {qs : List (Int × Bool)} (h : Rp B W gr r1 r2 n qs) (i : Nat) (t : Int) (hp : qs[i]? = some (t, true)) :
    Calls Tryd.prog 16 #[.pointer (some ⟨gr, 0, none⟩), .agg #[.int .i64 (i : Int), .int .i64 t]] W fun e w' => e = .returned (.bool true) ∧ Rp B w' gr r1 r2 n (qs.set i (t, false)) ∧ Kp W w' (fun k => k = r1 ∨ k = r2) := by
  have hu := Tryd.underlying27
  have hb0 : Below W.heap.size W (W.alloc (.cells #[.int .i64 (i : Int), .int .i64 t] 27)) := (Below.refl _ _).alloc (Nat.le_refl _) _
  have hX := (hasB_iff qs i t).2 hp
  have H1 := Lib.hid (ref_has (h.below hb0) (i : Int) t)
  rw [hX] at H1
  have HP := Lib.hid (h.below hb0)
  have HB0 := Lib.hid hb0
  obtain ⟨hi, hp'⟩ := List.getElem?_eq_some_iff.1 hp
  have h0z : (0 : Int) ≤ (i : Int) := by omega
  have h1z : (i : Int) < (n : Int) := by rw [← h.len]; omega
  have HQ := Lib.hid hp'
  clear h hX hb0 hp hp'
  go_enter Tryd.func16, Tryd.ntmps16
  go_wp2_with fail
  refine H1.out.mono ?_
  clear H1
  rintro e w1 ⟨rfl, hb1⟩
  have y1 := (hb1.cell (p := ⟨W.heap.size, 0, none⟩) (by simp))
  have HP1 := Lib.hid (HP.out.below hb1)
  have HB1 := Lib.hid (HB0.out.trans (hb1.mono HB0.out.size))
  have y2 : w1.cell? ⟨W.heap.size, 0, none⟩ = some (.int .i64 (i : Int)) := y1.trans (by rw [World.cell?_alloc_at _ _ _ _ rfl]; rfl)
  have z1 := HP1.out.c1
  obtain ⟨zr, zf⟩ := HP1.out.k i hi
  clear y1 hb1 HP HB0
  go_wp2_with fail
  go_still_tail 7, (by kernel_rfl)
  go_wp2
  go_ret
  refine ⟨rfl, ?_⟩
  have P1 := HP1.out.set2 i hi false
  rw [HQ.out] at P1
  exact ⟨P1.move (fun _ _ => rfl), ((Kp.of_below HB1.out).set ⟨r2, i, none⟩ _ (.inr rfl)).below ((Below.refl _ _).drew)⟩

set_option maxHeartbeats 2000000 in
set_option maxRecDepth 100000 in
theorem ref_take_full {B : Nat} {W : World} {gr r1 r2 n : Nat} {qs : List (Int × Bool)} (h : Rp B W gr r1 r2 n qs) (hn : n ≤ 10000) (hK : lf qs = n) :
    Calls Tryd.prog 13 #[.pointer (some ⟨gr, 0, none⟩)] W fun e w' => e = .returned (.tuple #[.agg #[.int .i64 0, .int .i64 0], .bool false]) ∧ Below W.heap.size W w' := by
  have hu := Tryd.underlying27
  obtain ⟨w0, hw0⟩ : ∃ w0, W.alloc (.cells #[.int .i64 0, .int .i64 0] 27) = w0 := ⟨_, rfl⟩
  obtain ⟨G, hG⟩ : ∃ G, W.heap.size = G := ⟨_, rfl⟩
  have hb0 : Below W.heap.size W w0 := by rw [← hw0]; exact (Below.refl _ _).alloc (Nat.le_refl _) _
  have h1 := h.below hb0
  have hR : w0.heap[G]? = some (.cells #[.int .i64 0, .int .i64 0] 27 (0, 0)) := by rw [← hw0, ← hG]; show (W.heap.push _)[W.heap.size]? = _; exact Array.getElem?_push_size
  have c1 := h1.c1
  have HH := Lib.hid h1
  have HB0 := Lib.hid hb0
  have HT := Lib.hid (lf_taken qs)
  have HK := Lib.hid hK
  have HR := Lib.hid hR
  clear h h1 hb0 hK hR
  go_enter Tryd.func13, Tryd.ntmps13
  go_wp2_with fail
  clear hw0 hG
  go_loop [4] (fun i => ∃ j : Nat, j ≤ n ∧ i = .int .i64 j) (fun i => n - (intOf i).toNat)
  case atStart => exact ⟨0, Nat.zero_le _, rfl⟩
  case round =>
    obtain ⟨j, hj, rfl⟩ := hrel
    by_cases hlt : j < n
    · have hl : j < qs.length := by rw [HH.out.len]; exact hlt
      obtain ⟨y, -⟩ := HH.out.k j hl
      rw [HT.out j hl (by rw [HK.out]; exact hlt)] at y
      have hx : (j : Int) < (n : Int) := by omega
      have hx0 : (0 : Int) ≤ (j : Int) := by omega
      have hx1 : (j : Int) < 10000 := by omega
      go_wp2
      go_round
      case rel => exact ⟨j + 1, by omega, by go_num⟩
      case measure => simp [intOf]; omega
    · have hjk : j = n := by omega
      subst hjk
      have y0 : w0.cell? ⟨G, 0, none⟩ = some (.int .i64 0) := by simp [World.cell?, HR.out]
      have y1 : w0.cell? ⟨G, 1, none⟩ = some (.int .i64 0) := by simp [World.cell?, HR.out]
      have y2 : w0.frozen? ⟨G, 0, none⟩ = false := by simp [World.frozen?, HR.out]
      have y3 : w0.frozen? ⟨G, 1, none⟩ = false := by simp [World.frozen?, HR.out]
      have y4 : w0.setCell ⟨G, 0, none⟩ (.int .i64 0) = w0 := set_same HR.out rfl
      have y5 : w0.setCell ⟨G, 1, none⟩ (.int .i64 0) = w0 := set_same HR.out rfl
      go_wp2
      exact bodyPost_ret (v := .tuple #[.agg #[.int .i64 0, .int .i64 0], .bool false]) (by simp [results, Tryd.results13, go_sem, y0, y1, hu]) rfl ⟨rfl, HB0.out⟩

/-- The two stores of a take into the reference's pool, and the two into the result. -/
theorem Rp.steps {B : Nat} {W w : World} {gr r1 r2 n G : Nat} {qs : List (Int × Bool)} (h : Rp B w gr r1 r2 n qs) (hb : Below W.heap.size W w) (k : Nat) (t : Int) (hk : k < qs.length) (hp : qs[k] = (t, false)) (hR : w.heap[G]? = some (.cells #[.int .i64 0, .int .i64 0] 27 (0, 0))) (hG : W.heap.size ≤ G) (hlt : gr < W.heap.size ∧ r1 < W.heap.size ∧ r2 < W.heap.size) :
    ∃ w1 w2 w3 w4 : World, w.setCell ⟨r2, k, none⟩ (.bool true) = w1 ∧ w1.setCell ⟨r1, k, none⟩ (.int .i64 (t + 1)) = w2 ∧ w2.setCell ⟨G, 0, none⟩ (.int .i64 (k : Int)) = w3 ∧ w3.setCell ⟨G, 1, none⟩ (.int .i64 (t + 1)) = w4 ∧
      (w.cell? ⟨gr, 1, none⟩ = some (.slice (some ⟨r2, 0, none⟩) n n) ∧ w.cell? ⟨r2, k, none⟩ = some (.bool false) ∧ w.frozen? ⟨r2, k, none⟩ = false) ∧
      (w1.cell? ⟨gr, 0, none⟩ = some (.slice (some ⟨r1, 0, none⟩) n n) ∧ w1.cell? ⟨r1, k, none⟩ = some (.int .i64 t) ∧ w1.frozen? ⟨r1, k, none⟩ = false) ∧
      (w2.cell? ⟨gr, 0, none⟩ = some (.slice (some ⟨r1, 0, none⟩) n n) ∧ w2.cell? ⟨r1, k, none⟩ = some (.int .i64 (t + 1))) ∧
      (w2.cell? ⟨G, 0, none⟩ = some (.int .i64 0) ∧ w2.frozen? ⟨G, 0, none⟩ = false ∧ w2.cell? ⟨G, 1, none⟩ = some (.int .i64 0) ∧ w2.frozen? ⟨G, 1, none⟩ = false) ∧
      (w3.cell? ⟨G, 1, none⟩ = some (.int .i64 0) ∧ w3.frozen? ⟨G, 1, none⟩ = false) ∧
      (w4.cell? ⟨G, 0, none⟩ = some (.int .i64 (k : Int)) ∧ w4.cell? ⟨G, 1, none⟩ = some (.int .i64 (t + 1))) ∧
      Hid (Rp B w4 gr r1 r2 n (qs.set k (t + 1, true))) ∧ Hid (Kp W w4 (fun k => k = r1 ∨ k = r2)) := by
  obtain ⟨y1, y2⟩ := h.k k hk
  rw [hp] at y1
  have h1 := h.set2 k hk true
  rw [hp] at h1
  have hk1 : k < (qs.set k (t, true)).length := by rw [List.length_set]; exact hk
  obtain ⟨x1, x2⟩ := h1.t k hk1
  have e1 : (qs.set k (t, true))[k] = (t, true) := by simp
  rw [e1] at x1
  have h2 := h1.set1 k hk1 (t + 1)
  rw [e1, List.set_set] at h2
  have hk2 : k < (qs.set k (t + 1, true)).length := by rw [List.length_set]; exact hk
  obtain ⟨x3, -⟩ := h2.t k hk2
  rw [List.getElem_set_self] at x3
  have g1 : G ≠ r1 := by omega
  have g2 : G ≠ r2 := by omega
  have g0 : G ≠ gr := by omega
  have hR3 := ((Below.heap_setCell _ ⟨r1, k, none⟩ (.int .i64 (t + 1)) G g1).trans (Below.heap_setCell w ⟨r2, k, none⟩ (.bool true) G g2)).trans hR
  obtain ⟨z1, z2, z3, z4, z5, z6, z7, z8⟩ := res_steps hR3 (k : Int) (t + 1)
  refine ⟨_, _, _, _, rfl, rfl, rfl, rfl, ⟨h.c1, y1, y2⟩, ⟨h1.c0, x1, x2⟩, ⟨h2.c0, x3⟩, ⟨z1, z2, z3, z4⟩, ⟨z5, z6⟩, ⟨z7, z8⟩, ?_, ?_⟩
  · refine (h2.move (fun b hb => Below.heap_setCell _ ⟨G, 0, none⟩ (.int .i64 (k : Int)) b (fun e => ?_))).move (fun b hb => Below.heap_setCell _ ⟨G, 1, none⟩ (.int .i64 (t + 1)) b (fun e => ?_))
    all_goals
      have e : b = G := e
      subst e
      rcases hb with hb | hb | hb
      · exact g0 hb
      · exact g1 hb
      · exact g2 hb
  · exact ((((Kp.of_below hb).set ⟨r2, k, none⟩ (.bool true) (.inr rfl)).set ⟨r1, k, none⟩ (.int .i64 (t + 1)) (.inl rfl)).fresh G 0 _ hG).fresh G 1 _ hG

set_option maxHeartbeats 2000000 in
set_option maxRecDepth 100000 in
theorem ref_take {B : Nat} {W : World} {gr r1 r2 n : Nat} {qs : List (Int × Bool)} (h : Rp B W gr r1 r2 n qs) (hn : n ≤ 10000) (k : Nat) (t : Int) (hk : k = lf qs) (hkl : k < n) (hp : qs[k]? = some (t, false)) (htt : 0 ≤ t ∧ t < 4611686018427387904) :
    Calls Tryd.prog 13 #[.pointer (some ⟨gr, 0, none⟩)] W fun e w' => e = .returned (.tuple #[.agg #[.int .i64 (k : Nat), .int .i64 (t + 1)], .bool true]) ∧ Rp B w' gr r1 r2 n (qs.set k (t + 1, true)) ∧ Kp W w' (fun k => k = r1 ∨ k = r2) := by
  have hu := Tryd.underlying27
  obtain ⟨w0, hw0⟩ : ∃ w0, W.alloc (.cells #[.int .i64 0, .int .i64 0] 27) = w0 := ⟨_, rfl⟩
  obtain ⟨G, hG⟩ : ∃ G, W.heap.size = G := ⟨_, rfl⟩
  have hb0 : Below W.heap.size W w0 := by rw [← hw0]; exact (Below.refl _ _).alloc (Nat.le_refl _) _
  have h1 := h.below hb0
  have hR : w0.heap[G]? = some (.cells #[.int .i64 0, .int .i64 0] 27 (0, 0)) := by rw [← hw0, ← hG]; show (W.heap.push _)[W.heap.size]? = _; exact Array.getElem?_push_size
  obtain ⟨hkq, hp⟩ := List.getElem?_eq_some_iff.1 hp
  obtain ⟨w1, w2, w3, w4, e1, e2, e3, e4, ⟨s0, s1, s2⟩, ⟨s3, s4, s5⟩, ⟨s6, s7⟩, ⟨z1, z2, z3, z4⟩, ⟨z5, z6⟩, ⟨z7, z8⟩, HP, HKp⟩ := h1.steps hb0 k t hkq hp hR (Nat.le_of_eq hG) h.lt
  have HH := Lib.hid h1
  have HT := Lib.hid (lf_taken qs)
  have HK := Lib.hid hk
  have hz : (k : Int) < (n : Int) := by omega
  have hz0 : (0 : Int) ≤ (k : Int) := by omega
  clear h h1 hb0 hR hk hp hkq
  go_enter Tryd.func13, Tryd.ntmps13
  go_wp2_with fail
  clear hw0 hG
  go_loop [4] (fun i => ∃ j : Nat, j ≤ k ∧ i = .int .i64 j) (fun i => k - (intOf i).toNat)
  case atStart => exact ⟨0, Nat.zero_le _, rfl⟩
  case round =>
    obtain ⟨j, hj, rfl⟩ := hrel
    by_cases hlt : j < k
    · have hl : j < qs.length := by rw [HH.out.len]; omega
      obtain ⟨y, -⟩ := HH.out.k j hl
      rw [HT.out j hl (by rw [← HK.out]; exact hlt)] at y
      have hx : (j : Int) < (n : Int) := by omega
      have hx0 : (0 : Int) ≤ (j : Int) := by omega
      have hx1 : (j : Int) < 10000 := by omega
      go_wp2
      go_round
      case rel => exact ⟨j + 1, by omega, by go_num⟩
      case measure => simp [intOf]; omega
    · have hjk : j = k := by omega
      subst hjk
      go_wp2
      exact bodyPost_ret (v := .tuple #[.agg #[.int .i64 (j : Int), .int .i64 (t + 1)], .bool true]) (by simp [results, Tryd.results13, go_sem, z7, z8, hu]) rfl ⟨rfl, HP.out, HKp.out⟩
end Go.Proofs.YtppapffkidkonaaDoor
