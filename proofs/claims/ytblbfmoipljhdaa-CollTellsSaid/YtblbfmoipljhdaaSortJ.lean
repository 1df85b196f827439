import Derived.Test.YtblbfmoipljhdaaSortI
import Derived.ChangeKeysEq
namespace Go.Proofs.Ytblbfmoipljhdaa
open Go.RowKit
set_option linter.unusedVariables false
set_option linter.unusedSimpArgs false

/-- The four places of the document's example. -/
def lexB (a b : Nat) : Bool := decide (Kof [2, -1, 2, 0] (a : Int) < Kof [2, -1, 2, 0] (b : Int)) || (decide (Kof [2, -1, 2, 0] (a : Int) = Kof [2, -1, 2, 0] (b : Int)) && decide (a < b))
theorem four_dec : ∀ a b c d : Fin 4, (lexB a b && lexB b c && lexB c d) = true → a.val = 1 ∧ b.val = 3 ∧ c.val = 0 ∧ d.val = 2 := by decide
theorem four {g : Nat → Int} (hp : Pm 0 4 idf g) (hs : So (Kof [2, -1, 2, 0]) g 0 4) : g 0 = 1 ∧ g 1 = 3 ∧ g 2 = 0 ∧ g 3 = 2 := by
  obtain ⟨a, _, ha, ea⟩ := hp.from 0 (by omega) (by omega)
  obtain ⟨b, _, hb, eb⟩ := hp.from 1 (by omega) (by omega)
  obtain ⟨c, _, hc, ec⟩ := hp.from 2 (by omega) (by omega)
  obtain ⟨d, _, hd, ed⟩ := hp.from 3 (by omega) (by omega)
  have h1 := hs 0 1 (by omega) (by omega) (by omega)
  have h2 := hs 1 2 (by omega) (by omega) (by omega)
  have h3 := hs 2 3 (by omega) (by omega) (by omega)
  rw [ea, eb] at h1
  rw [eb, ec] at h2
  rw [ec, ed] at h3
  have key : ∀ x y : Nat, lex (Kof [2, -1, 2, 0]) (idf x) (idf y) → lexB x y = true := by
    intro x y h
    unfold lexB
    unfold lex idf at h
    rcases h with h | ⟨h, h'⟩
    · simp [h]
    · have : x < y := by omega
      simp [h, this]
  have := four_dec ⟨a, ha⟩ ⟨b, hb⟩ ⟨c, hc⟩ ⟨d, hd⟩ (by simp [key _ _ h1, key _ _ h2, key _ _ h3])
  simp only at this
  obtain ⟨r1, r2, r3, r4⟩ := this
  subst r1 r2 r3 r4
  exact ⟨ea, eb, ec, ed⟩
theorem info_int3 : (i : TypeInfo) → Try.prog.info? 3 = some i → Try.prog.cellsOf 3 = 1 := fun _ _ => by kernel_rfl
theorem eq_arr (a b c d : Int) (w : World) : (Op.equalIn 10000 29 (.agg #[.int .i64 a, .int .i64 b]) (.agg #[.int .i64 c, .int .i64 d])).run Try.prog w = .ok (a == c && b == d) w := by
  obtain ⟨i, hi⟩ : ∃ i, Try.prog.info? 3 = some i := Option.isSome_iff_exists.1 (by kernel_rfl)
  have he : Try.prog.plainKey 3 = true := by kernel_rfl
  have hc : Try.prog.cellsOf 3 = 1 := by kernel_rfl
  have hr := run_equalIn_array (P := Try.prog) w 9999 #[.int .i64 a, .int .i64 b] #[.int .i64 c, .int .i64 d] Try.underlying29 hi
  refine hr.trans ?_
  have p0 : (part 3 #[.int .i64 a, .int .i64 b] 0).run Try.prog w = .ok (.int .i64 a) w := run_part_plain w he rfl
  have p1 : (part 3 #[.int .i64 a, .int .i64 b] 1).run Try.prog w = .ok (.int .i64 b) w := run_part_plain w he rfl
  have p2 : (part 3 #[.int .i64 c, .int .i64 d] 0).run Try.prog w = .ok (.int .i64 c) w := run_part_plain w he rfl
  have p3 : (part 3 #[.int .i64 c, .int .i64 d] 1).run Try.prog w = .ok (.int .i64 d) w := run_part_plain w he rfl
  have q0 := run_equalIn_int (P := Try.prog) w 9998 3 .i64 .i64 a c Try.underlying3
  have q1 := run_equalIn_int (P := Try.prog) w 9998 3 .i64 .i64 b d Try.underlying3
  rw [hc, show List.range 2 = [0, 1] from rfl]
  simp only [Op.eqItems, Sem.run_bind, p0, p1, p2, p3, Nat.zero_mul, Nat.one_mul, Nat.mul_one, Result.andThen_ok, q0, q1]
  have q1' : (Op.equalIn 9999 3 (.int .i64 b) (.int .i64 d)).run Try.prog w = .ok (b == d) w := q1
  cases h1 : a == c <;> cases h2 : b == d <;> simp [p1, p3, q1', h2]
theorem l_true : lines 10 true [4, 4, 4, 20] = [(0, 2), (2, 3), (3, 4)] := by decide
theorem l_false : lines 10 false [4, 4, 4, 20] = [(0, 4)] := by decide
theorem l_nil : lines 10 false [] = [] := by decide
theorem lit_row (w : World) (xs : List Int) (T : TypeId) : ∀ i (hi : i < xs.length), ∃ p : Addr, some (⟨w.heap.size, 0, none⟩ : Addr) = some p ∧ (w.alloc (.cells (xs.map fun x => Value.int .i64 x).toArray T)).cell? (p.add i) = some (.int .i64 xs[i]) ∧ (p.add i).block < (w.alloc (.cells (xs.map fun x => Value.int .i64 x).toArray T)).heap.size := by
  intro i hi
  refine ⟨_, rfl, ?_, ?_⟩
  · rw [Go.WideShapes.add_plain, Nat.zero_add, World.cell?_alloc_at (w := w) _ T w.heap.size i rfl]
    simp [hi]
  · rw [Go.WideShapes.add_plain]; simp

set_option maxHeartbeats 4000000 in
set_option maxRecDepth 100000 in
theorem awake_calls (w : World) : Calls Try.prog 5 #[] w fun e w' => e = .returned (.bool true) ∧ Below w.heap.size w w' := by
  obtain ⟨w1, e1⟩ : ∃ w1, w.alloc (.cells #[.int .i64 2, .int .i64 (-1), .int .i64 2, .int .i64 0] 3) = w1 := ⟨_, rfl⟩
  have H1 := Lib.hid (order_calls w1 (some ⟨w.heap.size, 0, none⟩) 4 4 [2, -1, 2, 0] rfl (by omega) (by omega) (by rw [← e1]; exact lit_row w [2, -1, 2, 0] 3))
  have HB1 : Hid (Below w.heap.size w w1) := Lib.hid (by rw [← e1]; exact (Below.refl _ _).alloc (Nat.le_refl _) _)
  go_enter Try.func5, Try.ntmps5
  go_wp2_with fail
  refine H1.out.mono ?_
  rintro e w2 ⟨A', cap', g, rfl, hT, hb⟩
  obtain ⟨B, rfl, hWB, cs, hcs, hg⟩ := hT.at' (by omega)
  obtain ⟨g0, g1, g2, g3⟩ := four hT.pm hT.so
  have hcap := hT.cap
  have HR : Hid (w2.heap[B]? = some (.cells cs 3 (0, 0)) ∧ cs[0]? = some (.int .i64 1) ∧ cs[1]? = some (.int .i64 3) ∧ cs[2]? = some (.int .i64 0) ∧ cs[3]? = some (.int .i64 2)) := Lib.hid ⟨hcs, by rw [hg 0 (by omega), g0], by rw [hg 1 (by omega), g1], by rw [hg 2 (by omega), g2], by rw [hg 3 (by omega), g3]⟩
  have HB2 := Lib.hid (HB1.out.trans (hb.mono HB1.out.size))
  clear hT hb hWB hcs hg g0 g1 g2 g3 H1 HB1 e1
  obtain ⟨w3, e3⟩ : ∃ w3, w2.alloc (.cells #[.int .i64 4, .int .i64 4, .int .i64 4, .int .i64 20] 2) = w3 := ⟨_, rfl⟩
  have H1 := Lib.hid (lines_calls w3 (some ⟨w2.heap.size, 0, none⟩) 4 [4, 4, 4, 20] 10 true (by simp) (by simp) (by simp) (by rw [← e3]; exact lit_row w2 [4, 4, 4, 20] 2))
  rw [l_true] at H1
  have hb3 : Below w2.heap.size w2 w3 := by rw [← e3]; exact (Below.refl _ _).alloc (Nat.le_refl _) _
  have HB3 := Lib.hid (HB2.out.trans (hb3.mono HB2.out.size))
  have HR3 : Hid (w3.heap[B]? = some (.cells cs 3 (0, 0))) := Lib.hid ((hb3.block B (Array.getElem?_eq_some_iff.1 HR.out.1).1).trans HR.out.1)
  clear hb3 HB2
  go_wp2_with fail
  refine H1.out.mono ?_
  rintro e w4 ⟨v, rfl, hrow, hb⟩
  have HB4 := Lib.hid (HB3.out.trans (hb.mono HB3.out.size))
  have HR4 : Hid (w4.heap[B]? = some (.cells cs 3 (0, 0))) := Lib.hid ((hb.block B (Array.getElem?_eq_some_iff.1 HR3.out).1).trans HR3.out)
  have HRow4 := Lib.hid hrow
  obtain ⟨LA, lcap, rfl, hlc⟩ := row_form0 hrow
  obtain ⟨r, rfl, -, -⟩ := row_form1 hrow (by simp)
  clear hb HB3 HR3 H1 hrow e3
  obtain ⟨w5, e5⟩ : ∃ w5, w4.alloc (.cells #[.int .i64 4, .int .i64 4, .int .i64 4, .int .i64 20] 2) = w5 := ⟨_, rfl⟩
  have H1 := Lib.hid (lines_calls w5 (some ⟨w4.heap.size, 0, none⟩) 4 [4, 4, 4, 20] 10 false (by simp) (by simp) (by simp) (by rw [← e5]; exact lit_row w4 [4, 4, 4, 20] 2))
  rw [l_false] at H1
  have hb5 : Below w4.heap.size w4 w5 := by rw [← e5]; exact (Below.refl _ _).alloc (Nat.le_refl _) _
  have HB5 := Lib.hid (HB4.out.trans (hb5.mono HB4.out.size))
  have HR5 : Hid (w5.heap[B]? = some (.cells cs 3 (0, 0))) := Lib.hid ((hb5.block B (Array.getElem?_eq_some_iff.1 HR4.out).1).trans HR4.out)
  have HRow5 := Lib.hid (row_move HRow4.out (fun k e => hb5.block k (HRow4.out.lt k e).2))
  clear hb5 HB4 HR4 HRow4
  go_wp2_with fail
  refine H1.out.mono ?_
  rintro e w6 ⟨v, rfl, hrow, hb⟩
  have HB6 := Lib.hid (HB5.out.trans (hb.mono HB5.out.size))
  have HR6 : Hid (w6.heap[B]? = some (.cells cs 3 (0, 0))) := Lib.hid ((hb.block B (Array.getElem?_eq_some_iff.1 HR5.out).1).trans HR5.out)
  have HRow6 := Lib.hid (row_move HRow5.out (fun k e => hb.block k (HRow5.out.lt k e).2))
  have HRowF := Lib.hid hrow
  obtain ⟨FA, fcap, rfl, hfc⟩ := row_form0 hrow
  obtain ⟨rf, rfl, -, -⟩ := row_form1 hrow (by simp)
  clear hb HB5 HR5 H1 hrow e5 HRow5
  have c0 : w6.cell? ⟨B, 0, none⟩ = some (.int .i64 1) := by simp [World.cell?, HR6.out, HR.out.2.1]
  have c1 : w6.cell? ⟨B, 1, none⟩ = some (.int .i64 3) := by simp [World.cell?, HR6.out, HR.out.2.2.1]
  have c2 : w6.cell? ⟨B, 2, none⟩ = some (.int .i64 0) := by simp [World.cell?, HR6.out, HR.out.2.2.2.1]
  have c3 : w6.cell? ⟨B, 3, none⟩ = some (.int .i64 2) := by simp [World.cell?, HR6.out, HR.out.2.2.2.2]
  have d0 := HRow6.out.cellAt 0 (by simp)
  have d1 := HRow6.out.cellAt 1 (by simp)
  have d2 := HRow6.out.cellAt 2 (by simp)
  have d3 := HRow6.out.cellAt 3 (by simp)
  have d4 := HRow6.out.cellAt 4 (by simp)
  have d5 := HRow6.out.cellAt 5 (by simp)
  have f0 := HRowF.out.cellAt 0 (by simp)
  have f1 := HRowF.out.cellAt 1 (by simp)
  simp [pC] at d0 d1 d2 d3 d4 d5 f0 f1
  have H1 := Lib.hid (lines_calls w6 none 0 [] 10 false (by simp) (by simp) (by simp) (by simp))
  rw [l_nil] at H1
  have hu := Try.underlying29
  have hq := eq_arr
  go_wp2_with fail
  refine H1.out.mono ?_
  rintro e w7 ⟨v, rfl, hrow, hb⟩
  have HB7 := Lib.hid (HB6.out.trans (hb.mono HB6.out.size))
  obtain ⟨NA, ncap, rfl, hnc⟩ := row_form0 hrow
  go_wp2_with fail
  go_ret
  exact ⟨rfl, HB7.out⟩
end Go.Proofs.Ytblbfmoipljhdaa
