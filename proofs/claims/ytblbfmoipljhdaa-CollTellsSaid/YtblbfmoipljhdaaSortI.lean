import Derived.Test.YtblbfmoipljhdaaSortH
namespace Go.Proofs.Ytblbfmoipljhdaa
open Go.RowKit
set_option linter.unusedVariables false
set_option linter.unusedSimpArgs false

/-! ### lines -/
def pC : List (Int × Int) → List Value
  | [] => []
  | p :: l => .int .i64 p.1 :: .int .i64 p.2 :: pC l
theorem pC_one : ∀ (l : List (Int × Int)) (i : Nat) (h : i < l.length), (pC l)[i * 2]? = some (.int .i64 l[i].1)
  | p :: l, 0, _ => rfl
  | p :: l, i + 1, h => by
    have := pC_one l i (by simpa using h)
    simp only [pC, Nat.add_mul, Nat.one_mul]
    exact this
theorem pC_two : ∀ (l : List (Int × Int)) (i : Nat) (h : i < l.length), (pC l)[i * 2 + 1]? = some (.int .i64 l[i].2)
  | p :: l, 0, _ => rfl
  | p :: l, i + 1, h => by
    have := pC_two l i (by simpa using h)
    simp only [pC, Nat.add_mul, Nat.one_mul]
    exact this
theorem pC_snoc : ∀ (l : List (Int × Int)) (p : Int × Int), pC (l ++ [p]) = pC l ++ [.int .i64 p.1, .int .i64 p.2]
  | [], _ => rfl
  | q :: l, p => by simp [pC, pC_snoc l p]
/-- The lines so far, the sum of the one that is begun, and where it begins. -/
def ln (inner : Int) (wrap : Bool) (xs : List Int) : Nat → List (Int × Int) × Int × Nat
  | 0 => ([], 0, 0)
  | i + 1 => if wrap = true ∧ (ln inner wrap xs i).2.2 < i ∧ inner < (ln inner wrap xs i).2.1 + xs.getD i 0 then ((ln inner wrap xs i).1 ++ [(((ln inner wrap xs i).2.2 : Int), (i : Int))], xs.getD i 0, i) else ((ln inner wrap xs i).1, (ln inner wrap xs i).2.1 + xs.getD i 0, (ln inner wrap xs i).2.2)
def lines (inner : Int) (wrap : Bool) (xs : List Int) : List (Int × Int) := if xs.length = 0 then [] else (ln inner wrap xs xs.length).1 ++ [(((ln inner wrap xs xs.length).2.2 : Int), (xs.length : Int))]
theorem getD_bound (xs : List Int) (hb : ∀ x ∈ xs, -1099511627776 ≤ x ∧ x ≤ 1099511627776) (i : Nat) : -1099511627776 ≤ xs.getD i 0 ∧ xs.getD i 0 ≤ 1099511627776 := by
  rw [List.getD_eq_getElem?_getD]
  cases h : xs[i]? with
  | none => simp
  | some x => simpa using hb x (List.mem_of_getElem? h)
theorem ln_bound (inner : Int) (wrap : Bool) (xs : List Int) (hb : ∀ x ∈ xs, -1099511627776 ≤ x ∧ x ≤ 1099511627776) : ∀ i : Nat, -1099511627776 * (i : Int) ≤ (ln inner wrap xs i).2.1 ∧ (ln inner wrap xs i).2.1 ≤ 1099511627776 * (i : Int) ∧ (ln inner wrap xs i).2.2 ≤ i ∧ (ln inner wrap xs i).1.length ≤ i
  | 0 => by simp [ln]
  | i + 1 => by
    have h := ln_bound inner wrap xs hb i
    have hx := getD_bound xs hb i
    unfold ln
    split
    · refine ⟨?_, ?_, ?_, ?_⟩ <;> simp only [List.length_append, List.length_singleton] <;> omega
    · refine ⟨?_, ?_, ?_, ?_⟩ <;> simp only <;> omega
theorem info_pair : (Try.prog.info? 29).map (fun i => (i.zero, i.size, i.bytes)) = some (some (.agg #[.int .i64 0, .int .i64 0]), 2, 16) := by kernel_rfl
theorem cells_two_new (w : World) (a b : Value) (T : TypeId) : ∀ j u, [a, b][j]? = some u → (w.alloc (.cells #[a, b] T)).cell? ((⟨w.heap.size, 0, none⟩ : Addr).add j) = some u := by
  intro j u hj
  rcases j with _ | _ | j
  · exact (World.cell?_alloc_at (w := w) #[a, b] T w.heap.size 0 rfl).trans hj
  · exact (World.cell?_alloc_at (w := w) #[a, b] T w.heap.size 1 rfl).trans hj
  · simp at hj
theorem row_form0 {w : World} {B : Nat} {e : TypeId} {s : Nat} {v : Value} {n : Nat} {xs : List Value} (h : w.ownsRow B e s v n xs) : ∃ A cap, v = .slice A n cap ∧ n ≤ cap := by
  rcases h.2 with ⟨rfl, k0⟩ | ⟨r, cap, cur, rfl, k3, k4, k5, _⟩
  · exact ⟨none, 0, by rw [k0], by omega⟩
  · exact ⟨_, _, rfl, k5⟩
theorem row_form1 {w : World} {B : Nat} {e : TypeId} {s n : Nat} {A : Option Addr} {m cap : Nat} {xs : List Value} (h : w.ownsRow B e s (.slice A m cap) n xs) (h0 : 0 < n) : ∃ r, A = some ⟨r, 0, none⟩ ∧ m = n ∧ n ≤ cap := by
  rcases h.2 with ⟨_, k0⟩ | ⟨r, cap', cur, e, k3, k4, k5, _⟩
  · omega
  · injection e with e1 e2 e3
    exact ⟨r, e1, e2, by rw [e3]; exact k5⟩

set_option maxHeartbeats 4000000 in
set_option maxRecDepth 100000 in
theorem lines_calls (W : World) (A : Option Addr) (cap : Nat) (xs : List Int) (inner : Int) (wrap : Bool) (hcap : xs.length ≤ cap) (hn1 : xs.length ≤ 100) (hb : ∀ x ∈ xs, -1099511627776 ≤ x ∧ x ≤ 1099511627776) (hx : ∀ i (hi : i < xs.length), ∃ p : Addr, A = some p ∧ W.cell? (p.add i) = some (.int .i64 xs[i]) ∧ (p.add i).block < W.heap.size) :
    Calls Try.prog 9 #[.slice A xs.length cap, .int .i64 inner, .bool wrap] W fun e w' => ∃ v, e = .returned v ∧ w'.ownsRow W.heap.size 29 2 v (lines inner wrap xs).length (pC (lines inner wrap xs)) ∧ Below W.heap.size W w' := by
  have HX := Lib.hid hx
  have HLB := Lib.hid (ln_bound inner wrap xs hb)
  have HGB := Lib.hid (getD_bound xs hb)
  obtain ⟨n, hn⟩ : ∃ n, n = xs.length := ⟨_, rfl⟩
  rw [← hn] at hcap hn1 ⊢
  have HN := Lib.hid hn
  clear hx hb hn
  obtain ⟨i0, hi, hzz⟩ := Option.map_eq_some_iff.1 info_pair
  simp only [Prod.mk.injEq] at hzz
  obtain ⟨hz0, hz1, hz2⟩ := hzz
  have HI := Lib.hid (And.intro hi (And.intro hz0 (And.intro hz1 hz2)))
  clear hi hz0 hz1 hz2
  have HR0 : Hid (W.ownsRow W.heap.size 29 2 (.slice none 0 0) 0 (pC [])) := Lib.hid (World.ownsRow_nil _ _ _ _)
  go_enter Try.func9, Try.ntmps9
  go_wp2_with fail
  go_loopg [7, 8, 9, 14] n (fun kq v7 v8 v9 v14 wr => ∃ (i : Nat), v14 = .int .i64 i ∧ i ≤ n ∧ n - i ≤ kq ∧ v8 = .int .i64 (ln inner wrap xs i).2.1 ∧ v9 = .int .i64 ((ln inner wrap xs i).2.2 : Nat) ∧ Hid (wr.ownsRow W.heap.size 29 2 v7 (ln inner wrap xs i).1.length (pC (ln inner wrap xs i).1)) ∧ Hid (Below W.heap.size W wr))
  case atStart => exact ⟨0, rfl, by omega, by omega, rfl, rfl, HR0.out, Lib.hid (Below.refl _ _)⟩
  case round =>
    obtain ⟨i, rfl, hi, hiq, rfl, rfl, HR, HB⟩ := hrel
    obtain ⟨b1, b2, b3, b4⟩ := HLB.out i
    have hsx : ∀ j, ln inner wrap xs (j + 1) = if wrap = true ∧ (ln inner wrap xs j).2.2 < j ∧ inner < (ln inner wrap xs j).2.1 + xs.getD j 0 then ((ln inner wrap xs j).1 ++ [(((ln inner wrap xs j).2.2 : Int), (j : Int))], xs.getD j 0, j) else ((ln inner wrap xs j).1, (ln inner wrap xs j).2.1 + xs.getD j 0, (ln inner wrap xs j).2.2) := fun j => rfl
    have HSX := Lib.hid (hsx i)
    clear hsx
    by_cases hin : i < n
    · have hz1 : (i : Int) < (n : Int) := by omega
      have hz0 : (0 : Int) ≤ (i : Int) := by omega
      obtain ⟨px, rfl, hcx, hbx⟩ := HX.out i (by rw [← HN.out]; exact hin)
      have hcx' := ((HB.out).cell (p := px.add i) hbx).trans hcx
      have hxe : xs[i]'(by rw [← HN.out]; exact hin) = xs.getD i 0 := by rw [List.getD_eq_getElem?_getD, List.getElem?_eq_getElem (by rw [← HN.out]; exact hin)]; rfl
      rw [hxe] at hcx'
      obtain ⟨g1, g2⟩ := HGB.out i
      clear hcx hbx hxe
      obtain ⟨AA, capA, hv, hcA⟩ := row_form0 HR.out
      subst hv
      generalize xs.getD i 0 = x at *
      generalize hst : ln inner wrap xs i = st at *
      obtain ⟨acc, sm, fr⟩ := st
      simp only at *
      have HST := Lib.hid hst
      clear hst
      have hs1 : -9223372036854775808 ≤ sm + x ∧ sm + x ≤ 9223372036854775807 := by omega
      obtain ⟨hs2, hs3⟩ := hs1
      by_cases hw : wrap = true
      · subst hw
        by_cases hf : fr < i
        · have hf1 : (fr : Int) < (i : Int) := by omega
          by_cases hsum : inner < sm + x
          · have HEQ : Hid (ln inner true xs (i + 1) = (acc ++ [((fr : Int), (i : Int))], x, i)) := Lib.hid (by have := HSX.out; rw [if_pos ⟨rfl, hf, hsum⟩] at this; exact this)
            obtain ⟨k, hk⟩ : ∃ k, k = acc.length := ⟨_, rfl⟩
            rw [← hk] at HR b4 hcA ⊢
            have HK := Lib.hid hk
            clear hk
            have HRow := Lib.hid HR.out
            have HBW : Hid (W.heap.size ≤ wr.heap.size) := Lib.hid HB.out.size
            go_wp2_with (at_builtin; refine wpList_append_lies _ rfl (.tmp 32) (.tmp 36) 27 rfl W.heap.size 29 i0 (.agg #[.int .i64 0, .int .i64 0]) 2 16 Try.underlying27 HI.out.1 HI.out.2.1 HI.out.2.2.1 HI.out.2.2.2 rfl (by decide) (.slice AA k capA) k (pC acc) rfl (HRow.out.alloc _) ⟨wr.heap.size, 0, none⟩ 1 1 [.int .i64 (fr : Int), .int .i64 (i : Int)] rfl rfl ?aN ?aO (by decide) ?a63 ?aY ?aB (wr.heap.size + 1) ?aH ?_; (case aN => exact cells_two_new _ _ _ _); (case aO => simp [Value.oneCell']); (case a63 => unfold maxLen; omega); (case aY => omega); (case aB => have := HBW.out; simp; omega); (case aH => simp); intro r cap' wA hown hgrow hat hlt1; have HR2 : Hid (wA.ownsRow W.heap.size 29 2 (.slice (some ⟨r, 0, none⟩) (k + 1) cap') (acc ++ [((fr : Int), (i : Int))]).length (pC (acc ++ [((fr : Int), (i : Int))]))) := Lib.hid (by rw [pC_snoc, List.length_append, List.length_singleton, ← HK.out]; exact hown); have HB2 := Lib.hid (grown_below HB.out (fun k e => (HRow.out.lt k e).1) HBW.out hgrow); clear hown hgrow hat hlt1 HRow HBW HR HB)
            go_roundg (n - (i + 1))
            case measure => omega
            case rel =>
              have := HEQ.out
              exact ⟨i + 1, by go_num, by omega, Nat.le_refl _, by rw [this], by rw [this], by rw [this]; exact HR2.out, HB2.out⟩
          · have HEQ : Hid (ln inner true xs (i + 1) = (acc, sm + x, fr)) := Lib.hid (by have := HSX.out; rw [if_neg (fun h => hsum h.2.2)] at this; exact this)
            have hf2 : ¬ inner < sm + x := hsum
            go_wp2_with fail
            go_roundg (n - (i + 1))
            case measure => omega
            case rel =>
              have := HEQ.out
              exact ⟨i + 1, by go_num, by omega, Nat.le_refl _, by rw [this], by rw [this], by rw [this]; exact HR.out, HB.out⟩
        · have HEQ : Hid (ln inner true xs (i + 1) = (acc, sm + x, fr)) := Lib.hid (by have := HSX.out; rw [if_neg (fun h => hf h.2.1)] at this; exact this)
          have hf1 : ¬ (fr : Int) < (i : Int) := by omega
          go_wp2_with fail
          go_roundg (n - (i + 1))
          case measure => omega
          case rel =>
            have := HEQ.out
            exact ⟨i + 1, by go_num, by omega, Nat.le_refl _, by rw [this], by rw [this], by rw [this]; exact HR.out, HB.out⟩
      · have hw' : wrap = false := by simpa using hw
        subst hw'
        have HEQ : Hid (ln inner false xs (i + 1) = (acc, sm + x, fr)) := Lib.hid (by have := HSX.out; rw [if_neg (fun h => by cases h.1)] at this; exact this)
        go_wp2_with fail
        go_roundg (n - (i + 1))
        case measure => omega
        case rel =>
          have := HEQ.out
          exact ⟨i + 1, by go_num, by omega, Nat.le_refl _, by rw [this], by rw [this], by rw [this]; exact HR.out, HB.out⟩
    · have hz1 : ¬ (i : Int) < (n : Int) := by omega
      have hie : i = n := by omega
      subst hie
      obtain ⟨AA, capA, hv, hcA⟩ := row_form0 HR.out
      subst hv
      by_cases h0 : 0 < i
      · have hz2 : (0 : Int) < (i : Int) := by omega
        have HL : Hid (lines inner wrap xs = (ln inner wrap xs i).1 ++ [(((ln inner wrap xs i).2.2 : Int), (i : Int))]) := Lib.hid (by unfold lines; rw [← HN.out, if_neg (by omega)])
        generalize ln inner wrap xs i = st at *
        obtain ⟨acc, sm, fr⟩ := st
        simp only at *
        obtain ⟨k, hk⟩ : ∃ k, k = acc.length := ⟨_, rfl⟩
        rw [← hk] at HR b4 hcA ⊢
        have HK := Lib.hid hk
        clear hk
        have HRow := Lib.hid HR.out
        have HBW : Hid (W.heap.size ≤ wr.heap.size) := Lib.hid HB.out.size
        go_wp2_with (at_builtin; refine wpList_append_lies _ rfl (.tmp 46) (.tmp 51) 27 rfl W.heap.size 29 i0 (.agg #[.int .i64 0, .int .i64 0]) 2 16 Try.underlying27 HI.out.1 HI.out.2.1 HI.out.2.2.1 HI.out.2.2.2 rfl (by decide) (.slice AA k capA) k (pC acc) rfl (HRow.out.alloc _) ⟨wr.heap.size, 0, none⟩ 1 1 [.int .i64 (fr : Int), .int .i64 (i : Int)] rfl rfl ?aN ?aO (by decide) ?a63 ?aY ?aB (wr.heap.size + 1) ?aH ?_; (case aN => exact cells_two_new _ _ _ _); (case aO => simp [Value.oneCell']); (case a63 => unfold maxLen; omega); (case aY => omega); (case aB => have := HBW.out; simp; omega); (case aH => simp); intro r cap' wA hown hgrow hat hlt1; have HR2 : Hid (wA.ownsRow W.heap.size 29 2 (.slice (some ⟨r, 0, none⟩) (k + 1) cap') (acc ++ [((fr : Int), (i : Int))]).length (pC (acc ++ [((fr : Int), (i : Int))]))) := Lib.hid (by rw [pC_snoc, List.length_append, List.length_singleton, ← HK.out]; exact hown); have HB2 := Lib.hid (grown_below HB.out (fun k e => (HRow.out.lt k e).1) HBW.out hgrow); clear hown hgrow hat hlt1 HRow HBW HR HB)
        go_ret
        exact ⟨_, rfl, by rw [HL.out]; exact HR2.out, HB2.out⟩
      · have hz2 : ¬ (0 : Int) < (i : Int) := by omega
        have hi0 : i = 0 := by omega
        subst hi0
        have HL : Hid (lines inner wrap xs = []) := Lib.hid (by unfold lines; rw [← HN.out, if_pos rfl])
        go_wp2_with fail
        go_ret
        exact ⟨_, rfl, by rw [HL.out]; exact HR.out, HB.out⟩
end Go.Proofs.Ytblbfmoipljhdaa
