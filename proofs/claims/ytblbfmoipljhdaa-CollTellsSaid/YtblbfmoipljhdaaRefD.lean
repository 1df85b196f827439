import Derived.Test.YtblbfmoipljhdaaRefC
namespace Go.Proofs.Ytblbfmoipljhdaa
open Go.RowKit
set_option linter.unusedVariables false
set_option linter.unusedSimpArgs false

/-! ### Collect -/
theorem pC_length : ∀ l : List (Int × Int), (pC l).length = l.length * 2
  | [] => rfl
  | p :: l => by simp [pC, pC_length l, Nat.add_mul]
/-- The lines as the reference has them after i. -/
def cl (inner : Int) (wrap : Bool) (xs : List Int) (i : Nat) : List (Int × Int) := if i = 0 then [] else (ln inner wrap xs i).1 ++ [(((ln inner wrap xs i).2.2 : Int), (i : Int))]
theorem cl_lines (inner : Int) (wrap : Bool) (xs : List Int) : cl inner wrap xs xs.length = lines inner wrap xs := rfl
theorem ln_begin (inner : Int) (wrap : Bool) (xs : List Int) : ∀ i, 0 < i → (ln inner wrap xs i).2.2 < i
  | i + 1, _ => by
    unfold ln
    split
    · simp
    · simp only
      rcases Nat.eq_zero_or_pos i with e | e
      · subst e; simp [ln]
      · have := ln_begin inner wrap xs i e; omega
theorem pC_set (acc : List (Int × Int)) (a b c : Int) : (pC (acc ++ [(a, b)])).set (acc.length * 2 + 1) (.int .i64 c) = pC (acc ++ [(a, c)]) := by
  rw [pC_snoc, pC_snoc, List.set_append_right _ _ (by rw [pC_length]; omega), pC_length]
  rw [show acc.length * 2 + 1 - acc.length * 2 = 1 by omega]
  rfl

theorem addr_zero (p : Addr) : p.add 0 = p := by cases p; simp [Addr.add]
structure Cl (W wr : World) (l : List (Int × Int)) (v : Value) : Prop where
  row : wr.ownsRow W.heap.size 29 2 v l.length (pC l)
  below : Below W.heap.size W wr
theorem Cl.cell {W wr : World} {acc : List (Int × Int)} {a b : Int} {ra capA m : Nat} (h : Cl W wr (acc ++ [(a, b)]) (.slice (some ⟨ra, 0, none⟩) m capA)) (hm : m = acc.length + 1) : wr.cell? ⟨ra, acc.length * 2 + 1, none⟩ = some (.int .i64 b) := by
  have h1 := h.row
  rw [List.length_append, List.length_singleton] at h1
  subst hm
  have := h1.cellAt (acc.length * 2 + 1) (by omega)
  rw [this, pC_snoc, List.getElem?_append_right (by rw [pC_length]; omega), pC_length, show acc.length * 2 + 1 - acc.length * 2 = 1 by omega]
  rfl
theorem Cl.store {W wr : World} {acc : List (Int × Int)} {a b c : Int} {ra capA m : Nat} (h : Cl W wr (acc ++ [(a, b)]) (.slice (some ⟨ra, 0, none⟩) m capA)) (hm : m = acc.length + 1) : wr.frozen? ⟨ra, acc.length * 2 + 1, none⟩ = false ∧ Cl W (wr.setCell ⟨ra, acc.length * 2 + 1, none⟩ (.int .i64 c)) (acc ++ [(a, c)]) (.slice (some ⟨ra, 0, none⟩) m capA) := by
  have h1 := h.row
  rw [List.length_append, List.length_singleton] at h1
  subst hm
  obtain ⟨s1, s2⟩ := h1.stored (acc.length * 2 + 1) (.int .i64 c)
  have hra := (h1.lt ra rfl).1
  refine ⟨h1.frozenAt _, ?_, ⟨s2.os.trans h.below.os, s2.tape.trans h.below.tape, s2.output.trans h.below.output, Nat.le_trans h.below.size s2.size, fun k hk => (s2.block k (Nat.lt_of_lt_of_le hk h.below.size) (fun e => by have := Option.some.inj e; omega)).trans (h.below.block k hk)⟩⟩
  rw [List.length_append, List.length_singleton, ← pC_set acc a b c]
  exact s1

set_option maxHeartbeats 4000000 in
set_option maxRecDepth 100000 in
theorem collect_calls (W : World) (A : Option Addr) (cap : Nat) (xs : List Int) (inner : Int) (wrap : Bool) (hcap : xs.length ≤ cap) (hn1 : xs.length ≤ 100) (hb : ∀ x ∈ xs, -1099511627776 ≤ x ∧ x ≤ 1099511627776) (hx : ∀ i (hi : i < xs.length), ∃ p : Addr, A = some p ∧ W.cell? (p.add i) = some (.int .i64 xs[i]) ∧ (p.add i).block < W.heap.size) :
    Calls Try.prog 10 #[.slice A xs.length cap, .int .i64 inner, .bool wrap] W fun e w' => ∃ v, e = .returned v ∧ w'.ownsRow W.heap.size 29 2 v (lines inner wrap xs).length (pC (lines inner wrap xs)) ∧ Below W.heap.size W w' := by
  have HX := Lib.hid hx
  have HLB := Lib.hid (ln_bound inner wrap xs hb)
  have HGB := Lib.hid (getD_bound xs hb)
  have HCL := Lib.hid (cl_lines inner wrap xs)
  obtain ⟨n, hn⟩ : ∃ n, n = xs.length := ⟨_, rfl⟩
  rw [← hn] at hcap hn1 HCL ⊢
  have HN := Lib.hid hn
  clear hx hb hn
  obtain ⟨i0, hi, hzz⟩ := Option.map_eq_some_iff.1 info_pair
  simp only [Prod.mk.injEq] at hzz
  obtain ⟨hz0, hz1, hz2⟩ := hzz
  have HI := Lib.hid (And.intro hi (And.intro hz0 (And.intro hz1 hz2)))
  clear hi hz0 hz1 hz2
  have HR0 : Hid (Cl W W [] (.slice none 0 0)) := Lib.hid ⟨World.ownsRow_nil _ _ _ _, Below.refl _ _⟩
  go_enter Try.func10, Try.ntmps10
  go_wp2_with fail
  go_loopg [7, 8, 9] n (fun kq v7 v8 v9 wr => ∃ (i : Nat), v9 = .int .i64 i ∧ i ≤ n ∧ n - i ≤ kq ∧ v8 = .int .i64 (ln inner wrap xs i).2.1 ∧ Hid (Cl W wr (cl inner wrap xs i) v7))
  case atStart => exact ⟨0, rfl, by omega, by omega, rfl, HR0.out⟩
  case round =>
    obtain ⟨i, rfl, hi, hiq, rfl, HR⟩ := hrel
    obtain ⟨b1, b2, b3, b4⟩ := HLB.out i
    have hsx : ∀ j, ln inner wrap xs (j + 1) = if wrap = true ∧ (ln inner wrap xs j).2.2 < j ∧ inner < (ln inner wrap xs j).2.1 + xs.getD j 0 then ((ln inner wrap xs j).1 ++ [(((ln inner wrap xs j).2.2 : Int), (j : Int))], xs.getD j 0, j) else ((ln inner wrap xs j).1, (ln inner wrap xs j).2.1 + xs.getD j 0, (ln inner wrap xs j).2.2) := fun j => rfl
    have HSX := Lib.hid (hsx i)
    have HCX : Hid (cl inner wrap xs (i + 1) = (ln inner wrap xs (i + 1)).1 ++ [(((ln inner wrap xs (i + 1)).2.2 : Int), ((i + 1 : Nat) : Int))]) := Lib.hid (if_neg (by omega))
    have HBG := Lib.hid (ln_begin inner wrap xs i)
    clear hsx
    by_cases hin : i < n
    · have hz1 : (i : Int) < (n : Int) := by omega
      have hz0 : (0 : Int) ≤ (i : Int) := by omega
      obtain ⟨px, rfl, hcx, hbx⟩ := HX.out i (by rw [← HN.out]; exact hin)
      have hcx' := ((HR.out.below).cell (p := px.add i) hbx).trans hcx
      have hxe : xs[i]'(by rw [← HN.out]; exact hin) = xs.getD i 0 := by rw [List.getD_eq_getElem?_getD, List.getElem?_eq_getElem (by rw [← HN.out]; exact hin)]; rfl
      rw [hxe] at hcx'
      have HXC : Hid (W.cell? (px.add i) = some (.int .i64 (xs.getD i 0)) ∧ (px.add i).block < W.heap.size) := Lib.hid ⟨by rw [← hxe]; exact hcx, hbx⟩
      obtain ⟨g1, g2⟩ := HGB.out i
      clear hcx hbx hxe
      by_cases h0 : i = 0
      · subst h0
        have HEQ : Hid (ln inner wrap xs (0 + 1) = ([], 0 + xs.getD 0 0, 0)) := Lib.hid (by have := HSX.out; rw [if_neg (fun h => absurd h.2.1 (by simp [ln]))] at this; exact this)
        have HCE : Hid (cl inner wrap xs (0 + 1) = [] ++ [((0 : Int), ((0 + 1 : Nat) : Int))]) := Lib.hid (by rw [HCX.out, HEQ.out]; rfl)
        have HS0 : Hid (Cl W wr [] u7) := HR
        obtain ⟨AA, capA, hv, hcA⟩ := row_form0 HS0.out.row
        subst hv
        generalize xs.getD 0 0 = x at *
        have HBW : Hid (W.heap.size ≤ wr.heap.size) := Lib.hid HS0.out.below.size
        have hl0 : (ln inner wrap xs 0).2.1 = 0 := rfl
        rw [hl0]
        clear hl0 HSX HCX HBG b1 b2 b3 b4
        have HRow : Hid (wr.ownsRow W.heap.size 29 2 (.slice AA 0 capA) 0 (pC [])) := Lib.hid (by have := HS0.out.row; simpa using this)
        go_wp2_with (at_builtin; refine wpList_append_any _ rfl (.tmp 31) (.tmp 35) 27 rfl W.heap.size 29 i0 (.agg #[.int .i64 0, .int .i64 0]) 2 16 Try.underlying27 HI.out.1 HI.out.2.1 HI.out.2.2.1 HI.out.2.2.2 rfl (by decide) (.slice AA 0 capA) 0 (pC []) rfl (HRow.out.alloc _) (.slice (some ⟨wr.heap.size, 0, none⟩) 1 1) 1 [.int .i64 (0 : Int), .int .i64 (0 : Int)] rfl ?aN rfl ?aO (by unfold maxLen; omega) (by omega) ?aB ?_; (case aN => exact .inl ⟨_, _, rfl, cells_two_new _ _ _ _⟩); (case aO => simp [Value.oneCell']); (case aB => have := HBW.out; simp; omega); intro v' wA hown hgrow _; obtain ⟨AB, capB, hvB, hcB⟩ := row_form0 hown; subst hvB; obtain ⟨rb, hAB, hmB, -⟩ := row_form1 hown (by omega); subst hAB; have HS1 : Hid (Cl W wA ([] ++ [((0 : Int), (0 : Int))]) (.slice (some ⟨rb, 0, none⟩) (0 + 1) capB)) := Lib.hid ⟨by rw [pC_snoc, List.length_append, List.length_singleton, show ([] : List (Int × Int)).length = 0 from rfl]; exact hown, grown_below HS0.out.below (fun k e => (HRow.out.lt k e).1) HBW.out hgrow⟩; have hfz := (HS1.out.store (c := 1) rfl).1; have hce := HS1.out.cell rfl; have HS2 := Lib.hid (HS1.out.store (c := 1) rfl).2; have c1 := (HS1.out.below.cell (p := px.add 0) HXC.out.2).trans HXC.out.1; simp only [List.length_append, List.length_singleton, List.length_nil, Nat.zero_mul, Nat.zero_add] at hfz hce HS2; (try simp only [addr_zero] at c1); clear hown hgrow HS1 HRow HBW HS0 hcx')
        go_roundg (n - (0 + 1))
        case measure => omega
        case rel => exact ⟨0 + 1, by go_num, by omega, Nat.le_refl _, by rw [HEQ.out]; simp, by rw [HCE.out]; exact HS2.out⟩
      · obtain ⟨acc, sm, fr, hst⟩ : ∃ acc sm fr, ln inner wrap xs i = (acc, sm, fr) := ⟨_, _, _, rfl⟩
        rw [hst] at b1 b2 b3 b4 HSX HBG ⊢
        have hfr : fr < i := HBG.out (by omega)
        have HCI : Hid (cl inner wrap xs i = acc ++ [((fr : Int), (i : Int))]) := Lib.hid (by unfold cl; rw [if_neg h0, hst])
        have HS0 : Hid (Cl W wr (acc ++ [((fr : Int), (i : Int))]) u7) := Lib.hid (by have := HR.out; rwa [HCI.out] at this)
        clear hst HBG
        obtain ⟨AA, capA, hv, hcA⟩ := row_form0 HS0.out.row
        rw [List.length_append, List.length_singleton] at hcA hv
        subst hv
        obtain ⟨ra, hAA, -, -⟩ := row_form1 HS0.out.row (by simp)
        subst hAA
        generalize xs.getD i 0 = x at *
        simp only at *
        have hs1 : -9223372036854775808 ≤ sm + x ∧ sm + x ≤ 9223372036854775807 := by omega
        obtain ⟨hs2, hs3⟩ := hs1
        have hieq : decide ((i : Int) = 0) = false := decide_eq_false (by omega)
        have hieq2 : ((i : Int) == 0) = false := by simpa using hieq
        by_cases hw : wrap = true
        · subst hw
          by_cases hsum : inner < sm + x
          · have hsum' : decide (inner < sm + x) = true := decide_eq_true hsum
            have HEQ : Hid (ln inner true xs (i + 1) = (acc ++ [((fr : Int), (i : Int))], x, i)) := Lib.hid (by have := HSX.out; rw [if_pos ⟨rfl, hfr, hsum⟩] at this; exact this)
            have HCE : Hid (cl inner true xs (i + 1) = (acc ++ [((fr : Int), (i : Int))]) ++ [((i : Int), ((i + 1 : Nat) : Int))]) := Lib.hid (by rw [HCX.out, HEQ.out])
            have HBW : Hid (W.heap.size ≤ wr.heap.size) := Lib.hid HS0.out.below.size
            clear HSX HCX HCI HR
            have HRow : Hid (wr.ownsRow W.heap.size 29 2 (.slice (some ⟨ra, 0, none⟩) (acc.length + 1) capA) (acc.length + 1) (pC (acc ++ [((fr : Int), (i : Int))]))) := Lib.hid (by have := HS0.out.row; simpa using this)
            go_wp2_with (at_builtin; refine wpList_append_any _ rfl (.tmp 31) (.tmp 35) 27 rfl W.heap.size 29 i0 (.agg #[.int .i64 0, .int .i64 0]) 2 16 Try.underlying27 HI.out.1 HI.out.2.1 HI.out.2.2.1 HI.out.2.2.2 rfl (by decide) (.slice (some ⟨ra, 0, none⟩) (acc.length + 1) capA) (acc.length + 1) (pC (acc ++ [((fr : Int), (i : Int))])) rfl (HRow.out.alloc _) (.slice (some ⟨wr.heap.size, 0, none⟩) 1 1) 1 [.int .i64 (i : Int), .int .i64 (i : Int)] rfl ?aN rfl ?aO (by unfold maxLen; omega) (by omega) ?aB ?_; (case aN => exact .inl ⟨_, _, rfl, cells_two_new _ _ _ _⟩); (case aO => simp [Value.oneCell']); (case aB => have := HBW.out; simp; omega); intro v' wA hown hgrow _; obtain ⟨AB, capB, hvB, hcB⟩ := row_form0 hown; subst hvB; obtain ⟨rb, hAB, hmB, -⟩ := row_form1 hown (by omega); subst hAB; have HS1 : Hid (Cl W wA ((acc ++ [((fr : Int), (i : Int))]) ++ [((i : Int), (i : Int))]) (.slice (some ⟨rb, 0, none⟩) ((acc.length + 1) + 1) capB)) := Lib.hid ⟨by rw [pC_snoc, List.length_append, List.length_singleton, List.length_append, List.length_singleton]; exact hown, grown_below HS0.out.below (fun k e => (HRow.out.lt k e).1) HBW.out hgrow⟩; have hfz := (HS1.out.store (c := ((i : Int) + 1)) (by simp)).1; have hce := HS1.out.cell (by simp); have HS2 := Lib.hid (HS1.out.store (c := ((i : Int) + 1)) (by simp)).2; have c1 := (HS1.out.below.cell (p := px.add i) HXC.out.2).trans HXC.out.1; simp only [List.length_append, List.length_singleton, List.length_nil, Nat.zero_mul, Nat.zero_add] at hfz hce HS2; (try simp only [addr_zero] at c1); clear hown hgrow HS1 HRow HBW HS0 hcx')
            go_roundg (n - (i + 1))
            case measure => omega
            case rel => exact ⟨i + 1, by go_num, by omega, Nat.le_refl _, by rw [HEQ.out], by rw [HCE.out]; exact HS2.out⟩
          · have hsum' : decide (inner < sm + x) = false := decide_eq_false hsum
            have HEQ : Hid (ln inner true xs (i + 1) = (acc, sm + x, fr)) := Lib.hid (by have := HSX.out; rw [if_neg (fun h => hsum h.2.2)] at this; exact this)
            have HCE : Hid (cl inner true xs (i + 1) = acc ++ [((fr : Int), ((i + 1 : Nat) : Int))]) := Lib.hid (by rw [HCX.out, HEQ.out])
            clear HSX HCX HCI HR
            have hfz := (HS0.out.store (c := (i : Int) + 1) rfl).1
            have hce := HS0.out.cell rfl
            have HS2 := Lib.hid (HS0.out.store (c := (i : Int) + 1) rfl).2
            go_wp2_with fail
            go_roundg (n - (i + 1))
            case measure => omega
            case rel => exact ⟨i + 1, by go_num, by omega, Nat.le_refl _, by rw [HEQ.out], by rw [HCE.out]; exact HS2.out⟩
        · have hw' : wrap = false := by simpa using hw
          subst hw'
          have HEQ : Hid (ln inner false xs (i + 1) = (acc, sm + x, fr)) := Lib.hid (by have := HSX.out; rw [if_neg (fun h => by cases h.1)] at this; exact this)
          have HCE : Hid (cl inner false xs (i + 1) = acc ++ [((fr : Int), ((i + 1 : Nat) : Int))]) := Lib.hid (by rw [HCX.out, HEQ.out])
          clear HSX HCX HCI HR
          have hfz := (HS0.out.store (c := (i : Int) + 1) rfl).1
          have hce := HS0.out.cell rfl
          have HS2 := Lib.hid (HS0.out.store (c := (i : Int) + 1) rfl).2
          go_wp2_with fail
          go_roundg (n - (i + 1))
          case measure => omega
          case rel => exact ⟨i + 1, by go_num, by omega, Nat.le_refl _, by rw [HEQ.out], by rw [HCE.out]; exact HS2.out⟩
    · have hz1 : ¬ (i : Int) < (n : Int) := by omega
      have hie : i = n := by omega
      subst hie
      obtain ⟨AA, capA, hv, hcA⟩ := row_form0 HR.out.row
      subst hv
      go_wp2_with fail
      go_ret
      exact ⟨_, rfl, by rw [← HCL.out]; exact HR.out.row, HR.out.below⟩
end Go.Proofs.Ytblbfmoipljhdaa
