import Derived.Test.YtblbfmoipljhdaaRefD
namespace Go.Proofs.Ytblbfmoipljhdaa
open Go.RowKit
set_option linter.unusedVariables false
set_option linter.unusedSimpArgs false

theorem cell_heap {w w' : World} (h : w'.heap = w.heap) (a : Addr) : w'.cell? a = w.cell? a := by unfold World.cell?; rw [h]
theorem cell_lt {W : World} {a : Addr} {v : Value} (h : W.cell? a = some v) : a.block < W.heap.size := by
  unfold World.cell? at h
  cases hb : W.heap[a.block]? with
  | none => rw [hb] at h; cases h
  | some o => exact (Array.getElem?_eq_some_iff.1 hb).1

set_option maxHeartbeats 4000000 in
set_option maxRecDepth 100000 in
theorem ctells_calls (W : World) (A0 A1 : Option Addr) (n cap n1 cap1 : Nat) (os xs : List Int) (inner : Int) (wrap : Bool) (hn : n = os.length) (hcap : n ≤ cap)
    (hx : ∀ i (hi : i < os.length), ∃ p : Addr, A0 = some p ∧ W.cell? (p.add i) = some (.int .i64 os[i]) ∧ (p.add i).block < W.heap.size)
    (hn1 : n1 = xs.length) (hcap1 : n1 ≤ cap1) (hw : ∀ x ∈ xs, -9223372036854775808 ≤ x ∧ x ≤ 9223372036854775807)
    (hx1 : ∀ i (hi : i < xs.length), ∃ p : Addr, A1 = some p ∧ W.cell? (p.add i) = some (.int .i64 xs[i]) ∧ (p.add i).block < W.heap.size)
    (hi0 : -9223372036854775808 ≤ inner) (hi1 : inner ≤ 9223372036854775807) :
    Calls Try.prog 3 #[.slice A0 n cap, .slice A1 n1 cap1, .int .i64 inner, .bool wrap] W fun e w' => e = .returned (.bool true) ∧ Below W.heap.size W w' := by
  by_cases hbig : 200 < n
  · have hz : (200 : Int) < (n : Int) := by omega
    go_enter Try.func3, Try.ntmps3
    go_wp2_with fail
    refine (awake_calls _).mono ?_
    rintro e w' ⟨rfl, hb⟩
    go_wp2_with fail
    go_ret
    exact ⟨rfl, hb⟩
  have H1 := Lib.hid (order_calls W A0 n cap os hn hcap (by omega) hx)
  have HX := Lib.hid hx
  have HX1 := Lib.hid hx1
  have HN := Lib.hid hn
  have HN1 := Lib.hid hn1
  have HW := Lib.hid hw
  have hz : ¬ (200 : Int) < (n : Int) := by omega
  have hn200 : n ≤ 200 := by omega
  clear hx hx1 hn hn1 hw hbig
  go_enter Try.func3, Try.ntmps3
  go_wp2_with fail
  refine H1.out.mono ?_
  rintro e w1 ⟨A', cap', g, rfl, hT, hb⟩
  have hcap' := hT.cap
  have HT := Lib.hid hT
  have HB1 := Lib.hid hb
  have H2 := Lib.hid (rorder_calls w1 A0 n cap os HN.out hcap (by omega) (fun i hi => by
    obtain ⟨p, e, c, b⟩ := HX.out i hi
    exact ⟨p, e, (hb.cell b).trans c, Nat.lt_of_lt_of_le b hb.size⟩))
  clear hT hb H1
  go_wp2_with fail
  refine H2.out.mono ?_
  rintro e w2 ⟨v, r, rfl, hR⟩
  have hsame := same_row HT.out.pm HT.out.so hR.ro
  obtain ⟨AR, capR, rfl, hcR⟩ := row_form0 hR.row
  have HC : Hid (∀ j, j < n → ∃ Bo Br, A' = some ⟨Bo, 0, none⟩ ∧ AR = some ⟨Br, 0, none⟩ ∧ w2.cell? ⟨Bo, j, none⟩ = some (.int .i64 (r j)) ∧ w2.cell? ⟨Br, j, none⟩ = some (.int .i64 (r j))) := Lib.hid (fun j hj => by
    obtain ⟨Bo, e1, _, cs, hcs, hg⟩ := HT.out.at' (by omega)
    obtain ⟨Br, e2, -, -⟩ := row_form1 hR.row (by omega)
    subst e2
    refine ⟨Bo, Br, e1, rfl, ?_, ?_⟩
    · have e3 := (hR.below.block Bo (Array.getElem?_eq_some_iff.1 hcs).1).trans hcs
      simp [World.cell?, e3, hg j hj, hsame j hj]
    · have := hR.row.cellAt j (by omega)
      rwa [rC_get _ _ _ hj] at this)
  have HB2 := Lib.hid (HB1.out.trans (hR.below.mono HB1.out.size))
  clear hR hsame HT HB1 H2
  go_wp2_with fail
  go_loopg [11] n (fun kq v11 wr => ∃ (i : Nat), v11 = .int .i64 i ∧ i ≤ n ∧ n - i ≤ kq ∧ Hid (wr.heap = w2.heap ∧ Below W.heap.size W wr))
  case atStart => exact ⟨0, rfl, by omega, by omega, rfl, HB2.out⟩
  case round =>
    obtain ⟨i, rfl, hi, hiq, HR⟩ := hrel
    by_cases hin : i < n
    · have hz1 : (i : Int) < (n : Int) := by omega
      have hz0 : (0 : Int) ≤ (i : Int) := by omega
      obtain ⟨Bo, Br, rfl, rfl, c0, c1⟩ := HC.out i hin
      rw [← cell_heap HR.out.1] at c0 c1
      generalize r i = z at *
      have hzz : (z == z) = true := by simp
      go_wp2_with fail
      go_quiet (fail)
      go_wp2_with fail
      go_roundg (n - (i + 1))
      case measure => omega
      case rel => exact ⟨i + 1, by go_num, by omega, Nat.le_refl _, HR.out.1, ⟨HR.out.2.os, HR.out.2.tape, HR.out.2.output, HR.out.2.size, HR.out.2.block⟩⟩
    · have hz1 : ¬ (i : Int) < (n : Int) := by omega
      have H1 := Lib.hid (tame_calls wr A1 n1 cap1 xs HN1.out hcap1 HW.out (fun i hi => by
        obtain ⟨p, e, c, b⟩ := HX1.out i hi
        exact ⟨p, e, (HR.out.2.cell b).trans c, Nat.lt_of_lt_of_le b HR.out.2.size⟩))
      have hrem : Hid (∃ inn, Int.tmod inner 35184372088832 = inn) := Lib.hid ⟨_, rfl⟩
      go_wp2_with fail
      refine H1.out.mono ?_
      rintro e w3 ⟨v3, rfl, hT3⟩
      obtain ⟨inn, hinn⟩ := hrem.out
      have HB3 := Lib.hid (HR.out.2.trans (hT3.below.mono HR.out.2.size))
      obtain ⟨AT, capT, rfl, hcT⟩ := row_form0 hT3.row
      obtain ⟨m, hm⟩ : ∃ m, m = min 60 n1 := ⟨_, rfl⟩
      rw [← hm] at hT3 hcT ⊢
      have hm2 : m = (tmL xs).length := by rw [tmL_length, hm, HN1.out]
      have hm60 : m ≤ 60 := by omega
      have HXT : Hid (∀ i (hi : i < (tmL xs).length), ∃ p : Addr, AT = some p ∧ w3.cell? (p.add i) = some (.int .i64 (tmL xs)[i]) ∧ (p.add i).block < w3.heap.size) := Lib.hid (fun j hj => by
        obtain ⟨rt, e, -, -⟩ := row_form1 hT3.row (by omega)
        subst e
        have h1 := hT3.row.cellAt j (by omega)
        have e1 : tmC xs m = (tmL xs).map (Value.int .i64) := by rw [hm, HN1.out]; exact tmC_tmL xs
        rw [e1, List.getElem?_map, List.getElem?_eq_getElem hj, Option.map_some] at h1
        refine ⟨_, rfl, ?_, ?_⟩
        · rw [Go.WideShapes.add_plain, Nat.zero_add]; exact h1
        · rw [Go.WideShapes.add_plain]; exact (hT3.row.lt rt rfl).2)
      have HTB : Hid (∀ x ∈ tmL xs, -1099511627776 ≤ x ∧ x ≤ 1099511627776) := Lib.hid (fun x hx => by
        simp only [tmL, List.mem_map] at hx
        obtain ⟨p, _, rfl⟩ := hx
        exact tm_bound _)
      have H3 := Lib.hid (lines_calls w3 AT capT (tmL xs) inn wrap (by omega) (by omega) HTB.out HXT.out)
      clear hT3 H1 hrem hm
      subst hm2
      go_wp2_with fail
      refine H3.out.mono ?_
      rintro e w4 ⟨v4, rfl, hr4, hb4⟩
      have HB4 := Lib.hid (HB3.out.trans (hb4.mono HB3.out.size))
      have HR4 := Lib.hid hr4
      have H5 := Lib.hid (collect_calls w4 AT capT (tmL xs) inn wrap (by omega) (by omega) HTB.out (fun i hi => by
        obtain ⟨p, e, c, b⟩ := HXT.out i hi
        exact ⟨p, e, (hb4.cell b).trans c, Nat.lt_of_lt_of_le b hb4.size⟩))
      obtain ⟨AL, capL, rfl, hcL⟩ := row_form0 hr4
      clear hr4 hb4 H3
      go_wp2_with fail
      refine H5.out.mono ?_
      rintro e w5 ⟨v5, rfl, hr5, hb5⟩
      have HB5 := Lib.hid (HB4.out.trans (hb5.mono HB4.out.size))
      have HR5 := Lib.hid hr5
      have HR6 := Lib.hid (row_move HR4.out (fun k e => hb5.block k (HR4.out.lt k e).2))
      obtain ⟨AC, capC, rfl, hcC⟩ := row_form0 hr5
      clear hr5 hb5 H5 HR4
      have hqb : (lines inn wrap (tmL xs)).length ≤ 61 := by
        have h1 := (ln_bound inn wrap (tmL xs) HTB.out (tmL xs).length).2.2.2
        unfold lines
        split
        · simp
        · rw [List.length_append, List.length_singleton]; omega
      generalize lines inn wrap (tmL xs) = ls at *
      have HCC : Hid (∀ j (hj : j < ls.length), ∃ Bl Bc, AL = some ⟨Bl, 0, none⟩ ∧ AC = some ⟨Bc, 0, none⟩ ∧ (w5.cell? ⟨Bl, j * 2, none⟩ = some (.int .i64 ls[j].1) ∧ w5.cell? ⟨Bl, j * 2 + 1, none⟩ = some (.int .i64 ls[j].2)) ∧ w5.cell? ⟨Bc, j * 2, none⟩ = some (.int .i64 ls[j].1) ∧ w5.cell? ⟨Bc, j * 2 + 1, none⟩ = some (.int .i64 ls[j].2)) := Lib.hid (fun j hj => by
        obtain ⟨Bl, e1, -, -⟩ := row_form1 HR6.out (by omega)
        obtain ⟨Bc, e2, -, -⟩ := row_form1 HR5.out (by omega)
        subst e1 e2
        refine ⟨Bl, Bc, rfl, rfl, ⟨?_, ?_⟩, ?_, ?_⟩
        · rw [HR6.out.cellAt (j * 2) (by omega), pC_one _ _ hj]
        · rw [HR6.out.cellAt (j * 2 + 1) (by omega), pC_two _ _ hj]
        · rw [HR5.out.cellAt (j * 2) (by omega), pC_one _ _ hj]
        · rw [HR5.out.cellAt (j * 2 + 1) (by omega), pC_two _ _ hj])
      have hq := eq_arr
      have hu := Try.underlying29
      obtain ⟨q, hq9⟩ : ∃ q, q = ls.length := ⟨_, rfl⟩
      rw [← hq9] at hcL hcC hqb ⊢
      have HQ9 := Lib.hid hq9
      clear hq9
      go_wp2_with fail
      go_loopg [14] q (fun kq v14 wr => ∃ (i : Nat), v14 = .int .i64 i ∧ i ≤ q ∧ q - i ≤ kq ∧ Hid (wr.heap = w5.heap ∧ Below W.heap.size W wr))
      case atStart => exact ⟨0, rfl, by omega, by omega, rfl, HB5.out⟩
      case round =>
        obtain ⟨j, rfl, hj, hjq, HR⟩ := hrel
        by_cases hjn : j < q
        · have hz2 : (j : Int) < (q : Int) := by omega
          have hz3 : (0 : Int) ≤ (j : Int) := by omega
          obtain ⟨Bl, Bc, rfl, rfl, ⟨c0, c1⟩, c2, c3⟩ := HCC.out j (by rw [← HQ9.out]; exact hjn)
          rw [← cell_heap HR.out.1] at c0 c1 c2 c3
          generalize (ls[j]'(by rw [← HQ9.out]; exact hjn)).1 = x at *
          generalize (ls[j]'(by rw [← HQ9.out]; exact hjn)).2 = y at *
          have hxx : (x == x && y == y) = true := by simp
          go_wp2_with fail
          go_quiet (fail)
          go_wp2_with fail
          go_roundg (q - (j + 1))
          case measure => omega
          case rel => exact ⟨j + 1, by go_num, by omega, Nat.le_refl _, HR.out.1, ⟨HR.out.2.os, HR.out.2.tape, HR.out.2.output, HR.out.2.size, HR.out.2.block⟩⟩
        · have hz2 : ¬ (j : Int) < (q : Int) := by omega
          go_wp2_with fail
          refine (awake_calls _).mono ?_
          rintro e w6 ⟨rfl, hb⟩
          go_wp2_with fail
          go_ret
          exact ⟨rfl, HR.out.2.trans (hb.mono HR.out.2.size)⟩
end Go.Proofs.Ytblbfmoipljhdaa
