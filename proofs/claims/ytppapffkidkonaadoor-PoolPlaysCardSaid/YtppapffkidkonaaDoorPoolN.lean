import Derived.Test.YtppapffkidkonaaDoorPoolL
namespace Go.Proofs.YtppapffkidkonaaDoor
open Go.RowKit
set_option linter.unusedVariables false
set_option linter.unusedSimpArgs false

theorem and_mask (n : Int) (k : Nat) (hk : k < 63) : bits .and .i64 n ((2 ^ k - 1 : Nat) : Int) = n % ((2 ^ k : Nat) : Int) := by
  have hp : (2 ^ k : Nat) ≤ 2 ^ 62 := Nat.pow_le_pow_right (by omega) (by omega)
  have hp0 : 0 < (2 ^ k : Nat) := Nat.two_pow_pos k
  have hd : ((2 ^ k : Nat) : Int) ∣ ((2 ^ 64 : Nat) : Int) := Int.natCast_dvd_natCast.2 (Nat.pow_dvd_pow 2 (by omega))
  have hm : (BitVec.ofInt 64 ((2 ^ k - 1 : Nat) : Int)).toNat = 2 ^ k - 1 := by
    rw [BitVec.toNat_ofInt]
    generalize (2 ^ k : Nat) = q at *
    omega
  have key : (BitVec.ofInt 64 n &&& BitVec.ofInt 64 ((2 ^ k - 1 : Nat) : Int)).toNat = (n % ((2 ^ 64 : Nat) : Int)).toNat % 2 ^ k := by
    rw [BitVec.toNat_and, BitVec.toNat_ofInt, hm, Nat.and_two_pow_sub_one_eq_mod]
  show IntKind.i64.wrap ((BitVec.ofInt 64 n &&& BitVec.ofInt 64 ((2 ^ k - 1 : Nat) : Int)).toNat : Nat) = _
  rw [key, IntKind.wrap_i64]
  have h1 : (((n % ((2 ^ 64 : Nat) : Int)).toNat % 2 ^ k : Nat) : Int) = n % ((2 ^ k : Nat) : Int) := by
    rw [Int.natCast_emod, Int.toNat_of_nonneg (Int.emod_nonneg _ (by decide)), Int.emod_emod_of_dvd _ hd]
  rw [h1]
  have h2 := Int.emod_nonneg n (b := ((2 ^ k : Nat) : Int)) (by omega)
  have h3 := Int.emod_lt_of_pos n (b := ((2 ^ k : Nat) : Int)) (by omega)
  generalize n % ((2 ^ k : Nat) : Int) = r at *
  generalize (2 ^ k : Nat) = q at *
  omega
theorem and_255 (n : Int) : bits .and .i64 n 255 = n % 256 := and_mask n 8 (by decide)
theorem and_7 (n : Int) : bits .and .i64 n 7 = n % 8 := and_mask n 3 (by decide)
theorem tm_nat (x : Int) (M : Nat) (h : 1 ≤ M) : ∃ a : Nat, (bits .and .i64 x 255).tmod (M : Int) = (a : Int) ∧ a < M := by
  rw [and_255, Int.tmod_eq_emod_of_nonneg (by omega)]
  have h1 := Int.emod_nonneg (x % 256) (b := (M : Int)) (by omega)
  have h2 := Int.emod_lt_of_pos (x % 256) (b := (M : Int)) (by omega)
  exact ⟨((x % 256) % (M : Int)).toNat, by omega, by omega⟩

theorem lf_eq : ∀ (l : List (Int × Bool)) (k : Nat) (h : k < l.length), l[k].2 = false → (∀ i (hi : i < l.length), i < k → l[i].2 = true) → lf l = k
  | p :: l, 0, _, h, _ => by
    have h : p.2 = false := h
    simp [lf, h]
  | p :: l, k + 1, hk, h, ha => by
    have h0 : p.2 = true := ha 0 (by simp) (by omega)
    have := lf_eq l k (by simpa using hk) (by simpa using h) (fun i hi hik => ha (i + 1) (by simpa using hi) (by omega))
    simp [lf, h0, this]
theorem lf_top : ∀ (l : List (Int × Bool)), (∀ i (hi : i < l.length), l[i].2 = true) → lf l = l.length
  | [], _ => rfl
  | p :: l, ha => by
    have h0 : p.2 = true := ha 0 (by simp)
    have := lf_top l (fun i hi => ha (i + 1) (by simpa using hi))
    simp [lf, h0, this]
/-- The places of turns, all taken. -/
def aP (ts : List Int) : List (Int × Bool) := ts.map fun t => (t, true)
theorem aP_length (ts : List Int) : (aP ts).length = ts.length := by simp [aP]
theorem aP_set (ts : List Int) (k : Nat) (t : Int) : (aP ts).set k (t, true) = aP (ts.set k t) := by simp [aP, List.map_set]
theorem aP_get (ts : List Int) (k : Nat) (h : k < (aP ts).length) : (aP ts)[k] = (ts[k]'(by rw [aP_length] at h; exact h), true) := by simp [aP]
/-- One freed. -/
theorem lf_one (ts : List Int) (k : Nat) (t : Int) (h : k < ts.length) : lf ((aP ts).set k (t, false)) = k := by
  refine lf_eq _ k (by simp [aP_length, h]) (by simp) (fun i hi hik => ?_)
  rw [List.getElem_set_ne (by omega), aP_get]
/-- Two freed. -/
theorem lf_two (ts : List Int) (j k : Nat) (s t : Int) (hjk : j < k) (h : k < ts.length) : lf (((aP ts).set k (t, false)).set j (s, false)) = j := by
  refine lf_eq _ j (by simp [aP_length]; omega) (by simp) (fun i hi hik => ?_)
  rw [List.getElem_set_ne (by omega), List.getElem_set_ne (by omega), aP_get]
theorem lf_aP (ts : List Int) : lf (aP ts) = ts.length := by
  rw [lf_top _ (fun i hi => by rw [aP_get]), aP_length]
end Go.Proofs.YtppapffkidkonaaDoor
