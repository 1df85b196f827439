import Derived.Test.YthncaagpjajhkaaDoorNamesA
namespace Go.Proofs.YthncaagpjajhkaaDoor
open Go.RowKit
set_option linter.unusedVariables false
set_option linter.unusedSimpArgs false

theorem nums_len : nums.length = 59 := by decide

set_option maxHeartbeats 4000000 in
set_option maxRecDepth 100000 in
theorem names_calls (w : World) (he : Env w) : Calls Tryd.prog 3 #[] w fun e w' => e = .returned (.bool true) ∧ Below w.heap.size w w' := by
  have HE := Lib.hid he
  clear he
  obtain ⟨r, hr⟩ : ∃ r, w.heap.size = r := ⟨_, rfl⟩
  have HG := Lib.hid hr
  have HA := Lib.hid (all_calls w)
  rw [hr] at HA
  go_enter Tryd.func3, Tryd.ntmps3
  go_wp2_with fail
  refine HA.out.mono ?_
  clear HA
  rintro e w1 ⟨rfl, hw1⟩
  have HB1 : Hid (Below w.heap.size w w1) := Lib.hid (by rw [hw1]; exact (Below.refl _ _).alloc (Nat.le_refl _) _)
  have HR1 : Hid (w1.heap[r]? = some (.cells (dC nums).toArray 25 (0, 0))) := Lib.hid (by rw [hw1, ← hr]; show (w.heap.push _)[w.heap.size]? = _; exact Array.getElem?_push_size)
  clear hw1 hr
  go_wp2_with fail
  go_loopg [2] 59 (fun kq v2 wr => ∃ i : Nat, i ≤ 59 ∧ 59 - i ≤ kq ∧ v2 = .int .i64 i ∧ Hid (Below w.heap.size w wr) ∧ Hid (wr.heap[r]? = some (.cells (dC nums).toArray 25 (0, 0))))
  case atStart => exact ⟨0, by omega, by omega, rfl, HB1.out, HR1.out⟩
  case round =>
    obtain ⟨i, hi, hiq, rfl, HB, HR⟩ := hrel
    by_cases hin : i < 59
    · have hz1 : (i : Int) < 59 := by omega
      have hz0 : (0 : Int) ≤ (i : Int) := by omega
      have hil : i < nums.length := by rw [nums_len]; exact hin
      have c0 : wr.cell? ⟨r, i * 2, none⟩ = some (.int .i64 nums[i]) := by
        have := dC_one nums i hil
        simp [World.cell?, HR.out, this]
      have c1 : wr.cell? ⟨r, i * 2 + 1, none⟩ = some (.int .i64 nums[i]) := by
        have := dC_two nums i hil
        simp [World.cell?, HR.out, this]
      generalize nums[i] = a at *
      go_wp2_with fail
      go_quiet (fail)
      go_wp2_with fail
      have HB2 : Hid (Below w.heap.size w (wr.drewN nq)) := Lib.hid ⟨HB.out.os, HB.out.tape, HB.out.output, HB.out.size, HB.out.block⟩
      go_roundg (59 - (i + 1))
      case measure => omega
      case rel => exact ⟨i + 1, by omega, Nat.le_refl _, by go_num, HB2.out, HR.out⟩
    · have hz1 : ¬ (i : Int) < 59 := by omega
      have H1 := Lib.hid (errno_18 wr (HE.out.below HB.out))
      go_wp2_with fail
      refine H1.out.mono ?_
      rintro e w2 ⟨rfl, hb⟩
      have HB2 := Lib.hid (HB.out.trans (hb.mono HB.out.size))
      clear hb H1 HB HR
      go_wp2_with fail
      refine (Code_nil _).mono ?_
      rintro e w3 ⟨rfl, rfl⟩
      obtain ⟨w4, e4⟩ : ∃ w4, w3.alloc (.cells #[.int .i64 3, .iface 26 (.int .i64 11)] 33) = w4 := ⟨_, rfl⟩
      have hb4 : Below w3.heap.size w3 w4 := by rw [← e4]; exact (Below.refl _ _).alloc (Nat.le_refl _) _
      have HB4 := Lib.hid (HB2.out.trans (hb4.mono HB2.out.size))
      have H4 := Lib.hid (Code_fault w3.heap.size 11 w4 (HE.out.below HB4.out).et (by rw [← e4]; simp))
      clear hb4 HB2
      go_wp2_with fail
      refine H4.out.mono ?_
      rintro e w5 ⟨rfl, hb⟩
      go_wp2
      go_ret
      exact ⟨rfl, HB4.out.trans (hb.mono HB4.out.size)⟩
end Go.Proofs.YthncaagpjajhkaaDoor
