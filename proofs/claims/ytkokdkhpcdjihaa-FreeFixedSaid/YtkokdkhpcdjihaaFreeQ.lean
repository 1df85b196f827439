import Derived.Test.YtkokdkhpcdjihaaFreeP
namespace Go.Proofs.Ytkokdkhpcdjihaa
open Go.Sort Go.RowKit Go.Proofs.YtkokdkhpcdjihaaW.PrintWords Go.Proofs.YtkokdkhpcdjihaaW.PrintLast Go.Proofs.YtkokdkhpcdjihaaW.PrintMore
open QFree
set_option linter.unusedVariables false
set_option linter.unusedSimpArgs false
theorem u64_id {x : Int} (h1 : 0 ≤ x) (h2 : x < 18446744073709551616) : IntKind.u64.wrap x = x := by
  simp [IntKind.wrap, IntKind.bits, IntKind.signed]; omega
theorem and_32 (n : Int) (h0 : 0 ≤ n) (h1 : n < 18446744073709551616) : Go.bits .and .u64 n 4294967295 = n % 4294967296 := by
  show IntKind.u64.wrap ((BitVec.ofInt 64 n &&& BitVec.ofInt 64 4294967295).toNat : Nat) = _
  have hm : (BitVec.ofInt 64 4294967295).toNat = 2 ^ 32 - 1 := by decide
  rw [BitVec.toNat_and, BitVec.toNat_ofInt, hm, Nat.and_two_pow_sub_one_eq_mod]
  rw [u64_id (by omega) (by omega)]
  omega
theorem mul_small (a b : Int) (ha : 0 ≤ a) (ha2 : a < 4294967296) (hb : 0 ≤ b) (hb2 : b < 4294967296) : bits_Mul64.f a b = some (0, a * b) := by
  have h1 : 0 ≤ a * b := Int.mul_nonneg ha hb
  have h2 : a * b ≤ 4294967295 * 4294967295 := Int.mul_le_mul (by omega) (by omega) hb (by omega)
  have e1 : a / 4294967296 = 0 := by omega
  have e2 : b / 4294967296 = 0 := by omega
  unfold bits_Mul64.f
  rw [and_32 a ha (by omega), and_32 b hb (by omega), e1, e2, show a % 4294967296 = a by omega, show b % 4294967296 = b by omega, u64_id h1 (by omega)]
  simp only [Int.zero_mul, Int.mul_zero, Int.zero_add, Int.add_zero]
  rw [u64_id (x := 0) (by omega) (by omega)]
  simp only [Int.zero_add, Int.add_zero]
  rw [u64_id (x := a * b / 4294967296) (by omega) (by omega)]
  rw [and_32 _ (by omega) (by omega)]
  rw [u64_id (x := a * b / 4294967296 % 4294967296) (by omega) (by omega)]
  rw [show a * b / 4294967296 / 4294967296 = 0 by omega, show a * b / 4294967296 % 4294967296 / 4294967296 = 0 by omega]
  simp only [Int.zero_add, Int.add_zero]
  rw [u64_id (x := 0) (by omega) (by omega)]
  rfl
theorem ratio_small (k : Nat) (hk : 2 ≤ k) (n p S : Int) (hn : 0 ≤ n) (hn2 : n ≤ 2147483647) (hp : 0 ≤ p) (hpS : p ≤ S) (hS : 1 ≤ S) (hS2 : S ≤ 2147483647) : unit_Ratio.f k n p S = some (n * p / S) := by
  obtain ⟨k, rfl⟩ : ∃ j, k = j + 1 := ⟨k - 1, by omega⟩
  have h1 : 0 ≤ n * p := Int.mul_nonneg hn hp
  have h2 : n * p ≤ 2147483647 * 2147483647 := Int.mul_le_mul (by omega) (by omega) hp (by omega)
  have h3 : 0 ≤ n * p / S := Int.ediv_nonneg h1 (by omega)
  have h4 : n * p / S ≤ n * p := Int.ediv_le_self _ h1
  unfold unit_Ratio.f
  rw [if_neg (by omega), if_neg (by omega), if_neg (by omega), if_neg (by omega), if_neg (by omega), decide_eq_false (by omega)]
  have hm : IntKind.u64.wrap (mx n (wrap64 (-n))) = n := by
    rw [wrap64_id (by omega) (by omega)]
    unfold mx
    rw [u64_id] <;> (try split) <;> omega
  simp only [unit_Ratio.j0]
  rw [if_neg (by decide), hm, u64_id hp (by omega), u64_id (x := S) (by omega) (by omega), mul_small n p hn (by omega) hp (by omega)]
  simp only [Option.bind_some]
  unfold bits_Div64.f
  rw [if_neg (by omega), if_neg (by omega), if_pos rfl, Int.tdiv_eq_ediv_of_nonneg h1, u64_id h3 (by omega)]
  simp only [Option.bind_some]
  rw [if_pos (by omega), wrap64_id (by omega) (by omega)]
theorem ratio_zero (k : Nat) (hk : 1 ≤ k) (n p : Int) : unit_Ratio.f k n p 0 = some 0 := by
  obtain ⟨k, rfl⟩ : ∃ j, k = j + 1 := ⟨k - 1, by omega⟩
  unfold unit_Ratio.f
  rw [if_pos (by omega)]
  simp [unit_Ratio.j0]
end Go.Proofs.Ytkokdkhpcdjihaa
