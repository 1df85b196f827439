import Derived.Test.YtkokdkhpcdjihaaQFreex1
import Derived.Test.YtkokdkhpcdjihaaQFreex6
namespace Go.Proofs.Ytkokdkhpcdjihaa
open Go.RowKit Go.Proofs.YtkokdkhpcdjihaaW.PrintWords Go.Proofs.YtkokdkhpcdjihaaW.PrintLast Go.Proofs.YtkokdkhpcdjihaaW.PrintMore
open QFree
set_option linter.unusedVariables false
set_option linter.unusedSimpArgs false

/-- An item that may be. -/
def itOk (x : S26) : Prop := (0 ≤ x.f0 ∧ x.f0 ≤ 8796093022208) ∧ (0 ≤ x.f1 ∧ x.f1 ≤ 8796093022208) ∧ (-1 ≤ x.f2 ∧ x.f2 ≤ 8796093022208) ∧ (0 ≤ x.f3 ∧ x.f3 ≤ 100) ∧ (0 ≤ x.f4 ∧ x.f4 ≤ 100) ∧ (-8796093022208 ≤ x.f5 ∧ x.f5 ≤ 8796093022208)
instance (x : S26) : Decidable (itOk x) := by unfold itOk; infer_instance
theorem factor_eq (n : Int) : free_factor.f n = some (decide (0 ≤ n ∧ n ≤ 100)) := by
  unfold free_factor.f
  split
  · rename_i h
    congr 1
    apply decide_eq_decide.2
    omega
  · rename_i h
    congr 1
    symm
    apply decide_eq_false
    omega
theorem ok_step (k : Nat) (xs : List S26) (n i : Int) (h1 : i < n) (h0 : 0 ≤ i) (h2 : i < xs.length) :
    free_Ok.l0 (k + 2) xs xs n i = if itOk (rd_T26 xs i) then free_Ok.l0 k xs xs n (wrap64 (i + 1)) else some false := by
  generalize hx : rd_T26 xs i = x
  conv => lhs; unfold free_Ok.l0
  rw [if_pos h1, if_pos h0, if_pos h2, hx, factor_eq, factor_eq]
  simp only [Option.bind_some, decide_eq_true_eq]
  by_cases hok : itOk x
  · rw [if_pos hok]
    unfold itOk at hok
    rw [if_neg (by omega), if_neg (by omega), if_neg (by omega), if_neg (by omega), if_neg (by omega), if_neg (by omega), if_pos (by omega), if_pos (by omega), if_neg (by omega), decide_eq_false (by omega)]
    simp [free_Ok.j1]
  · rw [if_neg hok]
    unfold itOk at hok
    repeat' split
    all_goals first
      | (simp [free_Ok.j1]; done)
      | (rw [decide_eq_true (by omega)]; simp [free_Ok.j1])
theorem flex_step (k : Nat) (xs : List S26) (i : Int) (h1 : i < xs.length) (h0 : 0 ≤ i) :
    quoinref9_FlexOk.l0 (k + 2) xs i = if itOk (rd_T26 xs i) then quoinref9_FlexOk.l0 k xs (wrap64 (i + 1)) else some false := by
  generalize hx : rd_T26 xs i = x
  conv => lhs; unfold quoinref9_FlexOk.l0
  rw [if_pos h1, if_pos h0, hx]
  by_cases hok : itOk x
  · rw [if_pos hok]
    unfold itOk at hok
    rw [if_neg (by omega), if_neg (by omega), if_neg (by omega), if_neg (by omega), if_neg (by omega), if_neg (by omega), if_neg (by omega), if_neg (by omega), if_neg (by omega), if_neg (by omega), if_neg (by omega), decide_eq_false (by omega)]
    simp [quoinref9_FlexOk.j1]
  · rw [if_neg hok]
    unfold itOk at hok
    repeat' split
    all_goals first
      | (simp [quoinref9_FlexOk.j1]; done)
      | (rw [decide_eq_true (by omega)]; simp [quoinref9_FlexOk.j1])
/-- Items that may be, so many. -/
def okB (xs : List S26) : Bool := xs.all (fun x => decide (itOk x)) && decide (xs.length ≤ 500)
theorem inc64 {i : Nat} {n : Nat} (h : i < n) (hn : n ≤ 281474976710656) : wrap64 ((i : Int) + 1) = ((i + 1 : Nat) : Int) := by unfold wrap64; omega
theorem rd26_at (xs : List S26) (i : Nat) (h : i < xs.length) : rd_T26 xs (i : Int) = xs[i] := by simp [rd_T26, h]
theorem ok_from (xs : List S26) (hn : xs.length ≤ 281474976710656) : ∀ (d i k : Nat), xs.length - i = d → i ≤ xs.length → 2 * d < k →
    free_Ok.l0 k xs xs (xs.length : Int) (i : Int) = some ((xs.drop i).all (fun x => decide (itOk x)) && decide (xs.length ≤ 500)) := by
  intro d
  induction d with
  | zero =>
    intro i k hd hi hk
    obtain ⟨k, rfl⟩ : ∃ j, k = j + 1 := ⟨k - 1, by omega⟩
    have : i = xs.length := by omega
    subst this
    unfold free_Ok.l0
    rw [if_neg (by omega)]
    simp only [List.drop_length, List.all_nil, Bool.true_and, Option.some.injEq]
    exact decide_eq_decide.2 (by omega)
  | succ d ih =>
    intro i k hd hi hk
    obtain ⟨k, rfl⟩ : ∃ j, k = j + 2 := ⟨k - 2, by omega⟩
    have hlt : i < xs.length := by omega
    rw [ok_step k xs _ _ (by omega) (by omega) (by omega), rd26_at xs i hlt, inc64 hlt hn, ih (i + 1) k (by omega) (by omega) (by omega), List.drop_eq_getElem_cons hlt, List.all_cons]
    by_cases h : itOk xs[i]
    · rw [if_pos h, decide_eq_true h, Bool.true_and]
    · rw [if_neg h, decide_eq_false h]; rfl
theorem ok_eq (xs : List S26) (hn : xs.length ≤ 281474976710656) (k : Nat) (hk : 2 * xs.length < k) : free_Ok.f k xs = some (okB xs) := by
  have := ok_from xs hn xs.length 0 k (by omega) (by omega) hk
  exact this
theorem flex_from (xs : List S26) (hn : xs.length ≤ 281474976710656) : ∀ (d i k : Nat), xs.length - i = d → i ≤ xs.length → 2 * d < k →
    quoinref9_FlexOk.l0 k xs (i : Int) = some ((xs.drop i).all (fun x => decide (itOk x)) && decide (xs.length ≤ 500)) := by
  intro d
  induction d with
  | zero =>
    intro i k hd hi hk
    obtain ⟨k, rfl⟩ : ∃ j, k = j + 1 := ⟨k - 1, by omega⟩
    have : i = xs.length := by omega
    subst this
    unfold quoinref9_FlexOk.l0
    rw [if_neg (by omega)]
    simp only [List.drop_length, List.all_nil, Bool.true_and, Option.some.injEq]
    exact decide_eq_decide.2 (by omega)
  | succ d ih =>
    intro i k hd hi hk
    obtain ⟨k, rfl⟩ : ∃ j, k = j + 2 := ⟨k - 2, by omega⟩
    have hlt : i < xs.length := by omega
    rw [flex_step k xs _ (by omega) (by omega), rd26_at xs i hlt, inc64 hlt hn, ih (i + 1) k (by omega) (by omega) (by omega), List.drop_eq_getElem_cons hlt, List.all_cons]
    by_cases h : itOk xs[i]
    · rw [if_pos h, decide_eq_true h, Bool.true_and]
    · rw [if_neg h, decide_eq_false h]; rfl
theorem flex_eq (xs : List S26) (hn : xs.length ≤ 281474976710656) (k : Nat) (hk : 2 * xs.length < k) : quoinref9_FlexOk.f k xs = some (okB xs) := by
  have := flex_from xs hn xs.length 0 k (by omega) (by omega) hk
  exact this
theorem ok_true {k : Nat} {xs : List S26} (hn : xs.length ≤ 281474976710656) (h : free_Ok.f k xs = some true) : okB xs = true := by
  have h1 := at_rounds (g := fun k => free_Ok.f k xs) (fun k => free_Ok.mono _ k) (k' := k + 2 * xs.length + 1) (by omega) h
  have h2 := ok_eq xs hn (k + 2 * xs.length + 1) (by omega)
  have h3 : some true = some (okB xs) := h1.symm.trans h2
  injection h3 with h3
  exact h3.symm
theorem okB_len {xs : List S26} (h : okB xs = true) : xs.length ≤ 500 := by
  unfold okB at h
  rw [Bool.and_eq_true] at h
  exact of_decide_eq_true h.2
theorem okB_at {xs : List S26} (h : okB xs = true) (i : Nat) (hi : i < xs.length) : itOk (xs.getD i z26) := by
  unfold okB at h
  rw [Bool.and_eq_true, List.all_eq_true] at h
  have := of_decide_eq_true (h.1 xs[i] (List.getElem_mem hi))
  simpa [hi] using this
end Go.Proofs.Ytkokdkhpcdjihaa
