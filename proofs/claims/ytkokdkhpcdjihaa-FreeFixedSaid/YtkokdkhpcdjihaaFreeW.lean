import Derived.Test.YtkokdkhpcdjihaaFreeV
import Derived.Test.YtkokdkhpcdjihaaQFreex4
namespace Go.Proofs.Ytkokdkhpcdjihaa.QFree
open Go.RowKit Go.Proofs.YtkokdkhpcdjihaaW.PrintWords Go.Proofs.YtkokdkhpcdjihaaW.PrintLast Go.Proofs.YtkokdkhpcdjihaaW.PrintMore
open Go.Proofs.Ytkokdkhpcdjihaa
set_option linter.unusedVariables false
set_option linter.unusedSimpArgs false

theorem add0 (h n : Nat) : (⟨h, 0, none⟩ : Addr).add n = ⟨h, n, none⟩ := by simp [Addr.add]; intro h; omega
theorem C3 (W : World) (h : Nat) (x y z : S26) (hb : W.heap[h]? = some (.cells #[.int .i64 x.f0, .int .i64 x.f1, .int .i64 x.f2, .int .i64 x.f3, .int .i64 x.f4, .int .i64 x.f5, .int .i64 y.f0, .int .i64 y.f1, .int .i64 y.f2, .int .i64 y.f3, .int .i64 y.f4, .int .i64 y.f5, .int .i64 z.f0, .int .i64 z.f1, .int .i64 z.f2, .int .i64 z.f3, .int .i64 z.f4, .int .i64 z.f5] 26 (0, 0))) :
    Kd.C k26 W (some ⟨h, 0, none⟩) 3 [x, y, z] := by
  refine ⟨rfl, by omega, fun _ => ⟨_, rfl, fun j p hj => ?_⟩⟩
  match j, hj with
  | 0, hj =>
    obtain rfl : x = p := by simpa using hj
    refine ⟨_, rfl, k26_mk W x, fun i u hu => ?_⟩
    rw [add0]
    refine (cell_of_row W h _ _ _ _ hb).trans ?_
    match i, hu with
    | 0, hu => exact hu
    | 1, hu => exact hu
    | 2, hu => exact hu
    | 3, hu => exact hu
    | 4, hu => exact hu
    | 5, hu => exact hu
    | i + 6, hu => simp at hu
  | 1, hj =>
    obtain rfl : y = p := by simpa using hj
    refine ⟨_, rfl, k26_mk W y, fun i u hu => ?_⟩
    rw [add0]
    refine (cell_of_row W h _ _ _ _ hb).trans ?_
    match i, hu with
    | 0, hu => exact hu
    | 1, hu => exact hu
    | 2, hu => exact hu
    | 3, hu => exact hu
    | 4, hu => exact hu
    | 5, hu => exact hu
    | i + 6, hu => simp at hu
  | 2, hj =>
    obtain rfl : z = p := by simpa using hj
    refine ⟨_, rfl, k26_mk W z, fun i u hu => ?_⟩
    rw [add0]
    refine (cell_of_row W h _ _ _ _ hb).trans ?_
    match i, hu with
    | 0, hu => exact hu
    | 1, hu => exact hu
    | 2, hu => exact hu
    | 3, hu => exact hu
    | 4, hu => exact hu
    | 5, hu => exact hu
    | i + 6, hu => simp at hu
  | j + 3, hj => simp at hj
theorem C1 (W : World) (h : Nat) (x : S26) (hb : W.heap[h]? = some (.cells #[.int .i64 x.f0, .int .i64 x.f1, .int .i64 x.f2, .int .i64 x.f3, .int .i64 x.f4, .int .i64 x.f5] 26 (0, 0))) :
    Kd.C k26 W (some ⟨h, 0, none⟩) 1 [x] := by
  refine ⟨rfl, by omega, fun _ => ⟨_, rfl, fun j p hj => ?_⟩⟩
  match j, hj with
  | 0, hj =>
    obtain rfl : x = p := by simpa using hj
    refine ⟨_, rfl, k26_mk W x, fun i u hu => ?_⟩
    rw [add0]
    refine (cell_of_row W h _ _ _ _ hb).trans ?_
    match i, hu with
    | 0, hu => exact hu
    | 1, hu => exact hu
    | 2, hu => exact hu
    | 3, hu => exact hu
    | 4, hu => exact hu
    | 5, hu => exact hu
    | i + 6, hu => simp at hu
  | j + 1, hj => simp at hj
theorem I3 (W : World) (h : Nat) (x y z : Int) (hb : W.heap[h]? = some (.cells #[.int .i64 x, .int .i64 y, .int .i64 z] 2 (0, 0))) :
    Kd.C (Kd.int .i64) W (some ⟨h, 0, none⟩) 3 [x, y, z] := by
  refine ⟨rfl, by omega, fun _ => ⟨_, rfl, fun j p hj => ?_⟩⟩
  match j, hj with
  | 0, hj =>
    obtain rfl : x = p := by simpa using hj
    refine ⟨[.int .i64 x], rfl, rfl, fun i u hu => ?_⟩
    rw [add0]
    refine (cell_of_row W h _ _ _ _ hb).trans ?_
    match i, hu with
    | 0, hu => exact hu
    | i + 1, hu => simp at hu
  | 1, hj =>
    obtain rfl : y = p := by simpa using hj
    refine ⟨[.int .i64 y], rfl, rfl, fun i u hu => ?_⟩
    rw [add0]
    refine (cell_of_row W h _ _ _ _ hb).trans ?_
    match i, hu with
    | 0, hu => exact hu
    | i + 1, hu => simp at hu
  | 2, hj =>
    obtain rfl : z = p := by simpa using hj
    refine ⟨[.int .i64 z], rfl, rfl, fun i u hu => ?_⟩
    rw [add0]
    refine (cell_of_row W h _ _ _ _ hb).trans ?_
    match i, hu with
    | 0, hu => exact hu
    | i + 1, hu => simp at hu
  | j + 3, hj => simp at hj
theorem aw1 : free_Resolve.f 200 [⟨0, 0, -1, 1, 0, 0⟩, ⟨0, 0, -1, 1, 0, 0⟩, ⟨0, 0, 20, 1, 0, 0⟩] 100 = some [40, 40, 20] := by kernel_rfl
theorem aw2 : free_Resolve.f 200 [⟨30, 0, -1, 0, 1, 0⟩, ⟨60, 0, -1, 0, 1, 5⟩, ⟨10, 0, -1, 0, 0, 0⟩] 75 = some [20, 40, 10] := by kernel_rfl
theorem aw3 : quoinlaw16_Same.f 200 [40, 40, 20] [40, 40, 20] = some true := by kernel_rfl
theorem aw4 : quoinlaw16_Same.f 200 [20, 40, 10] [20, 40, 10] = some true := by kernel_rfl
theorem aw5 : free_Ok.f 200 [⟨0, 0, -1, 1, 0, 0⟩] = some true := by kernel_rfl
theorem aw6 : free_Ok.f 200 [⟨-1, 0, 0, 0, 0, 0⟩] = some false := by kernel_rfl
set_option maxHeartbeats 2000000 in
set_option maxRecDepth 100000 in
theorem aw (w : World) : Calls Try.prog 7 #[] w fun e w' => e = .returned (.bool true) ∧ Below w.heap.size w w' := by
  have hu26 := Try.underlying26
  go_enter Try.func7, Try.ntmps7
  go_wp2_with fail
  have hX : ((w.alloc (.cells #[.int .i64 0, .int .i64 0, .int .i64 (-1), .int .i64 1, .int .i64 0, .int .i64 0] 26)).alloc (.cells #[.int .i64 0, .int .i64 0, .int .i64 20, .int .i64 1, .int .i64 0, .int .i64 0] 26)).heap[w.heap.size]? = some (.cells #[.int .i64 0, .int .i64 0, .int .i64 (-1), .int .i64 1, .int .i64 0, .int .i64 0] 26 (0, 0)) :=
    (Below.heap_alloc _ _ _ (by simp)).trans (blk_new w _)
  have hB : Below w.heap.size w ((w.alloc (.cells #[.int .i64 0, .int .i64 0, .int .i64 (-1), .int .i64 1, .int .i64 0, .int .i64 0] 26)).alloc (.cells #[.int .i64 0, .int .i64 0, .int .i64 20, .int .i64 1, .int .i64 0, .int .i64 0] 26)) := ((Below.refl _ _).alloc (Nat.le_refl _) _).alloc (by simp) _
  have hs : w.heap.size + 1 + 1 = ((w.alloc (.cells #[.int .i64 0, .int .i64 0, .int .i64 (-1), .int .i64 1, .int .i64 0, .int .i64 0] 26)).alloc (.cells #[.int .i64 0, .int .i64 0, .int .i64 20, .int .i64 1, .int .i64 0, .int .i64 0] 26)).heap.size := by simp
  rw [hs]
  generalize (w.alloc (.cells #[.int .i64 0, .int .i64 0, .int .i64 (-1), .int .i64 1, .int .i64 0, .int .i64 0] 26)).alloc (.cells #[.int .i64 0, .int .i64 0, .int .i64 20, .int .i64 1, .int .i64 0, .int .i64 0] 26) = W0 at *
  have hXl := (Array.getElem?_eq_some_iff.1 hX).1
  have hBs := hB.size
  have hR1 := Aside0.mk (free_Resolve.calls 200 (some ⟨W0.heap.size, 0, none⟩) 3 [⟨0, 0, -1, 1, 0, 0⟩, ⟨0, 0, -1, 1, 0, 0⟩, ⟨0, 0, 20, 1, 0, 0⟩] 100 [40, 40, 20] _ (C3 _ _ _ _ _ (blk_new W0 _)) (by decide) aw1)
  have hX1 := (Below.heap_alloc W0 (.cells #[.int .i64 0, .int .i64 0, .int .i64 (-1), .int .i64 1, .int .i64 0, .int .i64 0, .int .i64 0, .int .i64 0, .int .i64 (-1), .int .i64 1, .int .i64 0, .int .i64 0, .int .i64 0, .int .i64 0, .int .i64 20, .int .i64 1, .int .i64 0, .int .i64 0] 26) _ hXl).trans hX
  have hB1 := hB.alloc hBs (.cells #[.int .i64 0, .int .i64 0, .int .i64 (-1), .int .i64 1, .int .i64 0, .int .i64 0, .int .i64 0, .int .i64 0, .int .i64 (-1), .int .i64 1, .int .i64 0, .int .i64 0, .int .i64 0, .int .i64 0, .int .i64 20, .int .i64 1, .int .i64 0, .int .i64 0] 26)
  clear hX hB hs hXl hBs
  refine hR1.out.mono ?_
  clear hR1
  generalize W0.alloc (.cells #[.int .i64 0, .int .i64 0, .int .i64 (-1), .int .i64 1, .int .i64 0, .int .i64 0, .int .i64 0, .int .i64 0, .int .i64 (-1), .int .i64 1, .int .i64 0, .int .i64 0, .int .i64 0, .int .i64 0, .int .i64 20, .int .i64 1, .int .i64 0, .int .i64 0] 26) = W1 at *
  rintro e w1 ⟨v1, rfl, ho1, hb1⟩
  have hX2 := Aside0.mk ((hb1.block _ (Array.getElem?_eq_some_iff.1 hX1).1).trans hX1)
  have hB2 := Aside0.mk (hB1.trans (hb1.mono hB1.size))
  obtain ⟨A1, c1, rfl⟩ := Kd.R_slice ho1
  have ho2 := Aside0.mk (Kd.R_lower ho1 hB1.size)
  clear hX1 hB1 hb1 ho1
  have hR2 := Aside0.mk (free_Resolve.calls 200 (some ⟨w1.heap.size, 0, none⟩) 3 [⟨30, 0, -1, 0, 1, 0⟩, ⟨60, 0, -1, 0, 1, 5⟩, ⟨10, 0, -1, 0, 0, 0⟩] 75 [20, 40, 10] _ (C3 _ _ _ _ _ (blk_new w1 _)) (by decide) aw2)
  have hX3 := Aside0.mk ((Below.heap_alloc w1 (.cells #[.int .i64 30, .int .i64 0, .int .i64 (-1), .int .i64 0, .int .i64 1, .int .i64 0, .int .i64 60, .int .i64 0, .int .i64 (-1), .int .i64 0, .int .i64 1, .int .i64 5, .int .i64 10, .int .i64 0, .int .i64 (-1), .int .i64 0, .int .i64 0, .int .i64 0] 26) _ (Array.getElem?_eq_some_iff.1 hX2.out).1).trans hX2.out)
  have hB3 := Aside0.mk (hB2.out.alloc hB2.out.size (.cells #[.int .i64 30, .int .i64 0, .int .i64 (-1), .int .i64 0, .int .i64 1, .int .i64 0, .int .i64 60, .int .i64 0, .int .i64 (-1), .int .i64 0, .int .i64 1, .int .i64 5, .int .i64 10, .int .i64 0, .int .i64 (-1), .int .i64 0, .int .i64 0, .int .i64 0] 26))
  have ho3 := Aside0.mk (Kd.R_alloc ho2.out (.cells #[.int .i64 30, .int .i64 0, .int .i64 (-1), .int .i64 0, .int .i64 1, .int .i64 0, .int .i64 60, .int .i64 0, .int .i64 (-1), .int .i64 0, .int .i64 1, .int .i64 5, .int .i64 10, .int .i64 0, .int .i64 (-1), .int .i64 0, .int .i64 0, .int .i64 0] 26))
  clear hX2 hB2 ho2
  go_wp2_with fail
  refine hR2.out.mono ?_
  clear hR2
  generalize w1.alloc (.cells #[.int .i64 30, .int .i64 0, .int .i64 (-1), .int .i64 0, .int .i64 1, .int .i64 0, .int .i64 60, .int .i64 0, .int .i64 (-1), .int .i64 0, .int .i64 1, .int .i64 5, .int .i64 10, .int .i64 0, .int .i64 (-1), .int .i64 0, .int .i64 0, .int .i64 0] 26) = W2 at *
  rintro e w2 ⟨v2, rfl, ho4, hb2⟩
  have hX4 := Aside0.mk ((hb2.block _ (Array.getElem?_eq_some_iff.1 hX3.out).1).trans hX3.out)
  have hB4 := Aside0.mk (hB3.out.trans (hb2.mono hB3.out.size))
  have ho5 := Aside0.mk (Kd.R_below ho3.out hb2)
  obtain ⟨A2, c2, rfl⟩ := Kd.R_slice ho4
  have ho6 := Aside0.mk (Kd.R_lower ho4 hB3.out.size)
  clear hX3 hB3 ho3 ho4 hb2
  -- the first Same
  have hS1 := Aside0.mk (quoinlaw16_Same.calls 200 A1 c1 [40, 40, 20] (some ⟨w2.heap.size, 0, none⟩) 3 [40, 40, 20] true _ (Kd.R_reads' (Kd.R_alloc ho5.out (.cells #[.int .i64 40, .int .i64 40, .int .i64 20] 2))).2.2 (Kd.R_reads' ho5.out).2.1 (I3 _ _ _ _ _ (blk_new w2 _)) (by decide) aw3)
  go_wp2_with fail
  refine hS1.out.mono ?_
  clear hS1
  have hX5 := Aside0.mk ((Below.heap_alloc w2 (.cells #[.int .i64 40, .int .i64 40, .int .i64 20] 2) _ (Array.getElem?_eq_some_iff.1 hX4.out).1).trans hX4.out)
  have hB5 := Aside0.mk (hB4.out.alloc hB4.out.size (.cells #[.int .i64 40, .int .i64 40, .int .i64 20] 2))
  have ho7 := Aside0.mk (Kd.R_alloc ho6.out (.cells #[.int .i64 40, .int .i64 40, .int .i64 20] 2))
  clear hX4 hB4 ho5 ho6
  generalize w2.alloc (.cells #[.int .i64 40, .int .i64 40, .int .i64 20] 2) = W3 at *
  rintro e w3 ⟨rfl, hd3⟩
  have hb3 := hd3.below
  have hX6 := Aside0.mk ((hb3.block _ (Array.getElem?_eq_some_iff.1 hX5.out).1).trans hX5.out)
  have hB6 := Aside0.mk (hB5.out.trans (hb3.mono hB5.out.size))
  have ho8 := Aside0.mk (Kd.R_below ho7.out hb3)
  clear hX5 hB5 ho7 hb3 hd3
  have hS2 := Aside0.mk (quoinlaw16_Same.calls 200 A2 c2 [20, 40, 10] (some ⟨w3.heap.size, 0, none⟩) 3 [20, 40, 10] true _ (Kd.R_reads' (Kd.R_alloc ho8.out (.cells #[.int .i64 20, .int .i64 40, .int .i64 10] 2))).2.2 (Kd.R_reads' ho8.out).2.1 (I3 _ _ _ _ _ (blk_new w3 _)) (by decide) aw4)
  go_wp2_with fail
  refine hS2.out.mono ?_
  clear hS2
  have hX7 := Aside0.mk ((Below.heap_alloc w3 (.cells #[.int .i64 20, .int .i64 40, .int .i64 10] 2) _ (Array.getElem?_eq_some_iff.1 hX6.out).1).trans hX6.out)
  have hB7 := Aside0.mk (hB6.out.alloc hB6.out.size (.cells #[.int .i64 20, .int .i64 40, .int .i64 10] 2))
  clear hX6 hB6 ho8
  generalize w3.alloc (.cells #[.int .i64 20, .int .i64 40, .int .i64 10] 2) = W4 at *
  rintro e w4 ⟨rfl, hd4⟩
  have hb4 := hd4.below
  have hX8 := Aside0.mk ((hb4.block _ (Array.getElem?_eq_some_iff.1 hX7.out).1).trans hX7.out)
  have hB8 := Aside0.mk (hB7.out.trans (hb4.mono hB7.out.size))
  clear hX7 hB7 hb4 hd4
  have y0 : w4.cell? ⟨w.heap.size, 0, none⟩ = some (.int .i64 0) := (blk_cell hX8.out 0).trans rfl
  have y1 : w4.cell? ⟨w.heap.size, 1, none⟩ = some (.int .i64 0) := (blk_cell hX8.out 1).trans rfl
  have y2 : w4.cell? ⟨w.heap.size, 2, none⟩ = some (.int .i64 (-1)) := (blk_cell hX8.out 2).trans rfl
  have y3 : w4.cell? ⟨w.heap.size, 3, none⟩ = some (.int .i64 1) := (blk_cell hX8.out 3).trans rfl
  have y4 : w4.cell? ⟨w.heap.size, 4, none⟩ = some (.int .i64 0) := (blk_cell hX8.out 4).trans rfl
  have y5 : w4.cell? ⟨w.heap.size, 5, none⟩ = some (.int .i64 0) := (blk_cell hX8.out 5).trans rfl
  have hO1 := Aside0.mk (free_Ok.calls 200 (some ⟨w4.heap.size, 0, none⟩) 1 [⟨0, 0, -1, 1, 0, 0⟩] true _ (C1 _ _ _ (blk_new w4 _)) (by decide) aw5)
  have hB9 := Aside0.mk (hB8.out.alloc hB8.out.size (.cells #[.int .i64 0, .int .i64 0, .int .i64 (-1), .int .i64 1, .int .i64 0, .int .i64 0] 26))
  clear hX8
  go_wp2_with fail
  refine hO1.out.mono ?_
  clear hO1 y0 y1 y2 y3 y4 y5 hB8
  generalize w4.alloc (.cells #[.int .i64 0, .int .i64 0, .int .i64 (-1), .int .i64 1, .int .i64 0, .int .i64 0] 26) = W5 at *
  rintro e w5 ⟨rfl, hb5⟩
  have hB10 := Aside0.mk (hB9.out.trans (hb5.mono hB9.out.size))
  clear hB9 hb5
  have hO2 := Aside0.mk (free_Ok.calls 200 (some ⟨w5.heap.size, 0, none⟩) 1 [⟨-1, 0, 0, 0, 0, 0⟩] false _ (C1 _ _ _ (blk_new w5 _)) (by decide) aw6)
  have hB11 := Aside0.mk (hB10.out.alloc hB10.out.size (.cells #[.int .i64 (-1), .int .i64 0, .int .i64 0, .int .i64 0, .int .i64 0, .int .i64 0] 26))
  clear hB10
  go_wp2_with fail
  refine hO2.out.mono ?_
  clear hO2
  generalize w5.alloc (.cells #[.int .i64 (-1), .int .i64 0, .int .i64 0, .int .i64 0, .int .i64 0, .int .i64 0] 26) = W6 at *
  rintro e w6 ⟨rfl, hb6⟩
  have hB12 := Aside0.mk (hB11.out.trans (hb6.mono hB11.out.size))
  clear hB11 hb6
  go_wp2
  go_ret
  exact ⟨rfl, hB12.out⟩
/-- What the document fixes, as a printed function would stand. -/
def quoinlaw18_awake.f (_k : Nat) : Option Bool := some true
theorem quoinlaw18_awake.mono : ∀ k, LeO (quoinlaw18_awake.f k) (quoinlaw18_awake.f (k + 1)) := fun _ => LeO.refl _
theorem quoinlaw18_awake.calls (k : Nat) (r : Bool) (w : World) (h : quoinlaw18_awake.f k = some r) :
    Calls Try.prog 7 #[] w fun e w' => e = .returned (.bool r) ∧ Below w.heap.size w w' := by
  obtain rfl : true = r := by injection h
  exact aw w
end Go.Proofs.Ytkokdkhpcdjihaa.QFree
