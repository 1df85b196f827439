import Derived.Test.YtkokdkhpcdjihaaFreeR
namespace Go.Proofs.Ytkokdkhpcdjihaa
open Go.Sort Go.RowKit Go.Proofs.YtkokdkhpcdjihaaW.PrintWords Go.Proofs.YtkokdkhpcdjihaaW.PrintLast Go.Proofs.YtkokdkhpcdjihaaW.PrintMore
open QFree
set_option linter.unusedVariables false
theorem smT_zero (xs : List S26) (fz : List Bool) (P : List Int) (k : Nat) (h : ∀ j, j < k → fz.getD j false = false → clamp0 (xs.getD j z26) (tN (xs.getD j z26) (P.getD j 0)) = tN (xs.getD j z26) (P.getD j 0)) : smT xs fz P k = 0 := by
  induction k with
  | zero => rfl
  | succ k ih =>
    have ih := ih (fun j hj => h j (by omega))
    simp only [smT]
    by_cases hf : fz.getD k false = true
    · rw [if_pos hf, ih]
    · rw [if_neg hf, ih, h k (by omega) (by simpa using hf), Int.sub_self]
      rw [wrap64_id (x := 0) (by omega) (by omega), wrap64_id (by omega) (by omega)]; rfl
theorem mrT_iff (fz : List Bool) (k : Nat) : mrT fz k = true ↔ ∃ j, j < k ∧ fz.getD j false = false := by
  induction k with
  | zero => simp [mrT]
  | succ k ih =>
    simp only [mrT]
    by_cases hf : fz.getD k false = true
    · rw [if_pos hf, ih]
      constructor
      · rintro ⟨j, hj, h⟩; exact ⟨j, by omega, h⟩
      · rintro ⟨j, hj, h⟩
        by_cases e : j = k
        · subst e; rw [hf] at h; cases h
        · exact ⟨j, by omega, h⟩
    · rw [if_neg hf]
      simp only [true_iff]
      exact ⟨k, by omega, by simpa using hf⟩
end Go.Proofs.Ytkokdkhpcdjihaa
