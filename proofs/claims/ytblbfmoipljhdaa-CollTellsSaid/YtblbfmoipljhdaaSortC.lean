import Derived.Test.YtblbfmoipljhdaaSortB
namespace Go.Proofs.Ytblbfmoipljhdaa
open Go.RowKit
set_option linter.unusedVariables false
set_option linter.unusedSimpArgs false

/-- Two ranges exchanged. -/
def srf (f : Nat → Int) (a b n : Nat) : Nat → Int := fun k => if a ≤ k ∧ k < a + n then f (k - a + b) else if b ≤ k ∧ k < b + n then f (k - b + a) else f k
theorem srf_zero (f : Nat → Int) (a b : Nat) : srf f a b 0 = f := by
  funext k; unfold srf; rw [if_neg (by omega), if_neg (by omega)]
theorem srf_step (f : Nat → Int) (a b i : Nat) (h : a + i < b) : sw (srf f a b i) (a + i) (b + i) = srf f a b (i + 1) := by
  funext k
  unfold sw srf
  repeat' split
  all_goals first | rfl | (exfalso; omega) | (congr 1; omega)
/-- A range turned about a place. -/
def rotf (f : Nat → Int) (a m b : Nat) : Nat → Int := fun k => if a ≤ k ∧ k < b then (if k < a + (b - m) then f (k - a + m) else f (k - (a + (b - m)) + a)) else f k
theorem rotf_left (g : Nat → Int) (m i j : Nat) (him : i ≤ m) (hji : j < i) (k : Nat) : rotf (srf g (m - i) m j) (m - (i - j)) m (m + j) k = rotf g (m - i) m (m + j) k := by
  unfold rotf srf
  repeat' split
  all_goals first | rfl | (exfalso; omega) | (congr 1; omega)
theorem rotf_right (g : Nat → Int) (m i j : Nat) (him : i ≤ m) (hij : i < j) (k : Nat) : rotf (srf g (m - i) (m + j - i) i) (m - i) m (m + (j - i)) k = rotf g (m - i) m (m + j) k := by
  unfold rotf srf
  repeat' split
  all_goals first | rfl | (exfalso; omega) | (congr 1; omega)
theorem rotf_end (g : Nat → Int) (m i : Nat) (him : i ≤ m) (k : Nat) : srf g (m - i) m i k = rotf g (m - i) m (m + i) k := by
  unfold rotf srf
  repeat' split
  all_goals first | rfl | (exfalso; omega) | (congr 1; omega)

set_option maxHeartbeats 2000000 in
set_option maxRecDepth 100000 in
theorem srange_calls {w0 W : World} {B N cap : Nat} {f : Nat → Int} (fv : Value) (h : Sr w0 W B N f) (hN : N ≤ 1000) (a b n : Nat) (ai bi : Int) (ha : ai = (a : Int)) (hb : bi = (b : Int)) (hab : a + n ≤ b) (hbn : b + n ≤ N) :
    Calls Try.prog 19 #[.slice (some ⟨B, 0, none⟩) N cap, .int .i64 ai, .int .i64 bi, .int .i64 n, fv] W fun e w' => e = .returned (.tuple #[]) ∧ Sr w0 w' B N (srf f a b n) ∧ ∀ lo hi, lo ≤ a → b + n ≤ hi → Pm lo hi f (srf f a b n) := by
  subst ha
  subst hb
  have HS := Lib.hid h
  clear h
  go_enter Try.func19, Try.ntmps19
  go_wp2_with fail
  go_loopg [10] n (fun kq v10 wr => ∃ (i : Nat), v10 = .int .i64 i ∧ i ≤ n ∧ n - i ≤ kq ∧ Hid (Sr w0 wr B N (srf f a b i)) ∧ Hid (∀ lo hi, lo ≤ a → b + n ≤ hi → Pm lo hi f (srf f a b i)))
  case atStart => exact ⟨0, by go_num, by omega, by omega, by rw [srf_zero]; exact HS.out, by rw [srf_zero]; exact fun _ _ _ _ => .refl _⟩
  case round =>
    obtain ⟨i, rfl, hi, hiq, HS, HP⟩ := hrel
    by_cases hin : i < n
    · have hz1 : (i : Int) < (n : Int) := by omega
      have hz2 : (a : Int) + (i : Int) < (N : Int) := by omega
      have hz3 : (b : Int) + (i : Int) < (N : Int) := by omega
      obtain ⟨w1, w2, e1, e2, ⟨y0, y1, y2, y3⟩, ⟨v, y4⟩, y5, HS6⟩ := HS.out.swap (a + i) (b + i) (by omega) (by omega)
      rw [srf_step f a b i (by omega)] at HS6
      generalize hx1 : srf f a b i (a + i) = x1 at *
      generalize hx2 : srf f a b i (b + i) = x2 at *
      have HX := Lib.hid (And.intro hx1 hx2)
      clear hx1 hx2
      go_wp2_with fail
      go_region
      clear e1 e2 y0 y1 y2 y3 y4 y5
      go_wp2_with fail
      go_roundg (n - (i + 1))
      case measure => omega
      case rel => exact ⟨i + 1, by go_num, by omega, Nat.le_refl _, Lib.hid (HS6.out.below ⟨rfl, rfl, rfl, Nat.le_refl _, fun _ _ => rfl⟩), Lib.hid (fun lo hi h1 h2 => by
        have := (HP.out lo hi h1 h2).step (a + i) (b + i) (by omega) (by omega)
        rw [srf_step f a b i (by omega)] at this
        exact this)⟩
    · have hz1 : ¬ (i : Int) < (n : Int) := by omega
      have e : i = n := by omega
      rw [e] at HS HP
      go_wp2_with fail
      go_end0
      exact ⟨rfl, HS.out, HP.out⟩

set_option maxHeartbeats 2000000 in
set_option maxRecDepth 100000 in
theorem rotate_calls {w0 W : World} {B N cap : Nat} {f : Nat → Int} (fv : Value) (h : Sr w0 W B N f) (hN : N ≤ 1000) (a m b : Nat) (ai mi bi : Int) (ha : ai = (a : Int)) (hm : mi = (m : Int)) (hb : bi = (b : Int)) (ham : a < m) (hmb : m < b) (hbN : b ≤ N) :
    Calls Try.prog 18 #[.slice (some ⟨B, 0, none⟩) N cap, .int .i64 ai, .int .i64 mi, .int .i64 bi, fv] W fun e w' => e = .returned (.tuple #[]) ∧ ∃ g, Sr w0 w' B N g ∧ Pm a b f g ∧ ∀ k, g k = rotf f a m b k := by
  subst ha
  subst hm
  subst hb
  have HS := Lib.hid h
  clear h
  go_enter Try.func18, Try.ntmps18
  go_wp2_with fail
  go_loopg [10, 11] (b - a) (fun kq v10 v11 wr => ∃ (i j : Nat) (g : Nat → Int), v10 = .int .i64 i ∧ v11 = .int .i64 j ∧ 0 < i ∧ 0 < j ∧ i ≤ m - a ∧ j ≤ b - m ∧ i + j ≤ kq ∧ Hid (Sr w0 wr B N g) ∧ Hid (Pm a b f g) ∧ Hid (∀ k, rotf g (m - i) m (m + j) k = rotf f a m b k))
  case atStart => exact ⟨m - a, b - m, f, by congr 1; omega, by congr 1; omega, by omega, by omega, by omega, by omega, by omega, HS.out, .refl _, Lib.hid (fun k => by rw [show m - (m - a) = a by omega, show m + (b - m) = b by omega])⟩
  case round =>
    obtain ⟨i, j, g, rfl, rfl, hi, hj, him, hjm, hijq, HS, HP, HR⟩ := hrel
    by_cases hij : i = j
    · subst hij
      have hz : (i : Int) = (i : Int) := rfl
      have HF := Lib.hid (srange_calls fv HS.out hN (m - i) m i ((m : Int) - (i : Int)) (m : Int) (by omega) rfl (by omega) (by omega) (cap := cap))
      go_wp2_with fail
      refine HF.out.mono ?_
      rintro e w1 ⟨rfl, hS, hP⟩
      go_wp2_with fail
      go_end0
      exact ⟨rfl, _, hS, HP.out.trans (hP a b (by omega) (by omega)), fun k => by rw [rotf_end g m i (by omega), HR.out]⟩
    · have hz : ¬ ((i : Int) = (j : Int)) := by omega
      by_cases hlt : j < i
      · have hz1 : (j : Int) < (i : Int) := by omega
        have HF := Lib.hid (srange_calls fv HS.out hN (m - i) m j ((m : Int) - (i : Int)) (m : Int) (by omega) rfl (by omega) (by omega) (cap := cap))
        go_wp2_with fail
        refine HF.out.mono ?_
        rintro e w1 ⟨rfl, hS, hP⟩
        have HS2 := Lib.hid hS
        have HP2 := Lib.hid (HP.out.trans (hP a b (by omega) (by omega)))
        clear hS hP HF
        go_wp2_with fail
        go_roundg (i - j + j)
        case measure => omega
        case rel => exact ⟨i - j, j, _, by congr 1; omega, rfl, by omega, by omega, by omega, by omega, Nat.le_refl _, HS2.out, HP2.out, Lib.hid (fun k => by rw [rotf_left g m i j (by omega) hlt, HR.out])⟩
      · have hz1 : ¬ (j : Int) < (i : Int) := by omega
        have HF := Lib.hid (srange_calls fv HS.out hN (m - i) (m + j - i) i ((m : Int) - (i : Int)) ((m : Int) + (j : Int) - (i : Int)) (by omega) (by omega) (by omega) (by omega) (cap := cap))
        go_wp2_with fail
        refine HF.out.mono ?_
        rintro e w1 ⟨rfl, hS, hP⟩
        have HS2 := Lib.hid hS
        have HP2 := Lib.hid (HP.out.trans (hP a b (by omega) (by omega)))
        clear hS hP HF
        go_wp2_with fail
        go_roundg (i + (j - i))
        case measure => omega
        case rel => exact ⟨i, j - i, _, rfl, by congr 1; omega, by omega, by omega, by omega, by omega, Nat.le_refl _, HS2.out, HP2.out, Lib.hid (fun k => by rw [rotf_right g m i j (by omega) (by omega), HR.out])⟩
end Go.Proofs.Ytblbfmoipljhdaa
