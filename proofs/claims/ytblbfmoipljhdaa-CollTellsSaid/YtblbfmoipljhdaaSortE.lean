import Derived.Test.YtblbfmoipljhdaaSortD
namespace Go.Proofs.Ytblbfmoipljhdaa
open Go.RowKit
set_option linter.unusedVariables false
set_option linter.unusedSimpArgs false

/-- What a merge does. -/
def SymDoes (w0 : World) (B N cap : Nat) (c : Value) (m : Int) (K : Int → Int) (a mm b : Nat) (W : World) (f : Nat → Int) : Prop :=
  Sr w0 W B N f → (∀ i, i < N → 0 ≤ f i ∧ f i < m) → Sy K f a mm b N → ∀ ai mi bi : Int, ai = (a : Int) → mi = (mm : Int) → bi = (b : Int) →
    Calls Try.prog 17 #[.slice (some ⟨B, 0, none⟩) N cap, .int .i64 ai, .int .i64 mi, .int .i64 bi, .func (.func 12) #[] #[c]] W fun e w' => e = .returned (.tuple #[]) ∧ ∃ g, Sr w0 w' B N g ∧ Pm a b f g ∧ So K g a b

set_option maxHeartbeats 4000000 in
set_option maxRecDepth 100000 in
theorem sym_one {w0 W : World} {B N cap : Nat} {f : Nat → Int} (c : Value) (m : Int) (K : Int → Int) (hC : CmpOk w0 B c m K) (hN : N ≤ 1000) (a mm b : Nat) (h1 : mm = a + 1) : SymDoes w0 B N cap c m K a mm b W f := by
  intro h hV hY ai mi bi ha hm hb
  subst ha
  subst hm
  subst hb
  have HC := Lib.hid hC
  have HS := Lib.hid h
  have HV := Lib.hid hV
  have HY := Lib.hid hY
  have hmb := hY.mb
  have hbN := hY.bN
  clear hC h hV hY
  have h1z : (mm : Int) - (a : Int) = 1 := by omega
  have H1 := Lib.hid h1
  have ham : a < mm := by omega
  have hma : mm ≤ a + 1 := by omega
  clear h1
  go_enter Try.func17, Try.ntmps17
  go_wp2_with fail
  go_loopg [10, 11] (b - mm) (fun kq v10 v11 wr => ∃ (i j : Nat), v10 = .int .i64 i ∧ v11 = .int .i64 j ∧ mm ≤ i ∧ i ≤ j ∧ j ≤ b ∧ j - i ≤ kq ∧ Hid (Sr w0 wr B N f) ∧ Hid (∀ q, mm ≤ q → q < i → lex K (f q) (f a)) ∧ Hid (∀ q, j ≤ q → q < b → lex K (f a) (f q)))
  case atStart => exact ⟨mm, b, rfl, rfl, by omega, by omega, by omega, by omega, HS.out, Lib.hid (fun q h1 h2 => by omega), Lib.hid (fun q h1 h2 => by omega)⟩
  case round =>
    obtain ⟨i, j, rfl, rfl, hi, hij, hj, hq, HS, HL, HH⟩ := hrel
    by_cases hlt : i < j
    · have hz1 : (i : Int) < (j : Int) := by omega
      obtain ⟨hh, hhe⟩ : ∃ hh : Nat, ((i : Int) + (j : Int)) / 2 = (hh : Int) := ⟨(i + j) / 2, by omega⟩
      have hb1 : i ≤ hh ∧ hh < j := by omega
      have y0 := HS.out.cell hh (by omega)
      have y1 := HS.out.cell a (by omega)
      have cC := fun d => HC.out.at' HS.out (f hh) (f a) (HV.out _ (by omega)) (HV.out _ (by omega)) d
      have hz2 : (hh : Int) < (N : Int) := by omega
      have hz3 : (a : Int) < (N : Int) := by omega
      by_cases hk : K (f hh) < K (f a)
      · have hv := cmpv_neg hk
        have HL2 : Hid (∀ q, mm ≤ q → q < hh + 1 → lex K (f q) (f a)) := Lib.hid (fun q h2 h3 => by
          have h4 := HY.out.yes (p := a) (q := hh) (by omega) (by omega) hk
          by_cases e : q = hh
          · rw [e]; exact h4
          · exact (HY.out.r q hh h2 (by omega) (by omega)).trans h4)
        clear hk
        generalize cmpv (K (f hh)) (K (f a)) = cv at *
        go_wp2_with fail
        go_quiet (exact Calls.quiet_of (cC _))
        have HS5 := Lib.hid (HS.out.drewN nq)
        clear HS y0 y1 cC
        generalize wr.drewN nq = wd at *
        go_wp2_with fail
        go_roundg (j - (hh + 1))
        case measure => omega
        case rel => exact ⟨hh + 1, j, by go_num, rfl, by omega, by omega, by omega, Nat.le_refl _, HS5.out, HL2.out, HH.out⟩
      · have hv := cmpv_not hk
        have HH2 : Hid (∀ q, hh ≤ q → q < b → lex K (f a) (f q)) := Lib.hid (fun q h2 h3 => by
          have h4 := HY.out.no (p := a) (q := hh) (by omega) (by omega) hk
          by_cases e : q = hh
          · rw [e]; exact h4
          · exact h4.trans (HY.out.r hh q (by omega) (by omega) h3))
        clear hk
        generalize cmpv (K (f hh)) (K (f a)) = cv at *
        go_wp2_with fail
        go_quiet (exact Calls.quiet_of (cC _))
        have HS5 := Lib.hid (HS.out.drewN nq)
        clear HS y0 y1 cC
        generalize wr.drewN nq = wd at *
        go_wp2_with fail
        go_roundg (hh - i)
        case measure => omega
        case rel => exact ⟨i, hh, rfl, rfl, by omega, by omega, by omega, Nat.le_refl _, HS5.out, HL.out, HH2.out⟩
    · have hz1 : ¬ (i : Int) < (j : Int) := by omega
      have hije : j = i := by omega
      rw [hije] at HH
      have hib : i ≤ b := by omega
      clear hij hije
      go_wp2_with fail
      go_loopg [13] (i - 1 - a) (fun kq v13 wr => ∃ (k : Nat) (g : Nat → Int), v13 = .int .i64 k ∧ a ≤ k ∧ k ≤ i - 1 ∧ i - 1 - k ≤ kq ∧ Hid (Sr w0 wr B N g) ∧ Hid (Pm a b f g) ∧ Hid (∀ p, a ≤ p → p < k → g p = f (p + 1)) ∧ Hid (g k = f a) ∧ Hid (∀ p, k < p → p < b → g p = f p))
      case atStart => exact ⟨a, f, rfl, Nat.le_refl _, by omega, Nat.le_refl _, HS.out, .refl _, Lib.hid (fun p h1 h2 => by omega), Lib.hid rfl, Lib.hid (fun p _ _ => rfl)⟩
      case round =>
        obtain ⟨k, g, rfl, hk1, hk2, hkq, HS, HP, G1, G2, G3⟩ := hrel
        by_cases hlt2 : k < i - 1
        · have hz2 : (k : Int) < (i : Int) - 1 := by omega
          have hz3 : (k : Int) + 1 < (N : Int) := by omega
          obtain ⟨w1, w2, e1, e2, ⟨y0, y1, y2, y3⟩, ⟨v, y4⟩, y5, HS6⟩ := HS.out.swap k (k + 1) (by omega) (by omega)
          have HP2 := Lib.hid (HP.out.step k (k + 1) (by omega) (by omega))
          have G1' : Hid (∀ p, a ≤ p → p < k + 1 → sw g k (k + 1) p = f (p + 1)) := Lib.hid (fun p h2 h3 => by
            by_cases e : p = k
            · rw [e, sw_l, G3.out (k + 1) (by omega) (by omega)]
            · rw [sw_o _ _ _ p e (by omega)]; exact G1.out p h2 (by omega))
          have G2' : Hid (sw g k (k + 1) (k + 1) = f a) := Lib.hid (by rw [sw_r]; exact G2.out)
          have G3' : Hid (∀ p, k + 1 < p → p < b → sw g k (k + 1) p = f p) := Lib.hid (fun p h2 h3 => by rw [sw_o _ _ _ p (by omega) (by omega)]; exact G3.out p (by omega) h3)
          go_wp2_with fail
          go_region
          clear e1 e2 y0 y1 y2 y3 y4 y5
          go_wp2_with fail
          go_roundg (i - 1 - (k + 1))
          case measure => omega
          case rel => exact ⟨k + 1, _, by go_num, by omega, by omega, Nat.le_refl _, Lib.hid (HS6.out.below ⟨rfl, rfl, rfl, Nat.le_refl _, fun _ _ => rfl⟩), HP2.out, G1'.out, G2'.out, G3'.out⟩
        · have hz2 : ¬ (k : Int) < (i : Int) - 1 := by omega
          have hke : k = i - 1 := by omega
          rw [hke] at G1 G2 G3
          go_wp2_with fail
          (try simp only [Exit.inBlock, Exit.then])
          refine bodyPost_ret (results_none rfl _ _ _) rfl ?_
          exact ⟨rfl, g, HS.out, HP.out, HY.out.one H1.out ⟨hi, hib⟩ HL.out HH.out G1.out G2.out G3.out⟩

set_option maxHeartbeats 4000000 in
set_option maxRecDepth 100000 in
theorem sym_last {w0 W : World} {B N cap : Nat} {f : Nat → Int} (c : Value) (m : Int) (K : Int → Int) (hC : CmpOk w0 B c m K) (hN : N ≤ 1000) (a mm b : Nat) (h0 : mm ≠ a + 1) (h1 : b = mm + 1) : SymDoes w0 B N cap c m K a mm b W f := by
  intro h hV hY ai mi bi ha hm hb
  subst ha
  subst hm
  subst hb
  have HC := Lib.hid hC
  have HS := Lib.hid h
  have HV := Lib.hid hV
  have HY := Lib.hid hY
  have ham := hY.am
  have hbN := hY.bN
  clear hC h hV hY
  have h0z : ((mm : Int) - (a : Int) == 1) = false := beq_eq_false_iff_ne.2 (by omega)
  have h1z : (b : Int) - (mm : Int) = 1 := by omega
  have H1 := Lib.hid h1
  have hmb : mm < b := by omega
  have hbm : b ≤ mm + 1 := by omega
  clear h1 h0
  go_enter Try.func17, Try.ntmps17
  go_wp2_with fail
  go_loopg [14, 15] (mm - a) (fun kq v10 v11 wr => ∃ (i j : Nat), v10 = .int .i64 i ∧ v11 = .int .i64 j ∧ a ≤ i ∧ i ≤ j ∧ j ≤ mm ∧ j - i ≤ kq ∧ Hid (Sr w0 wr B N f) ∧ Hid (∀ q, a ≤ q → q < i → lex K (f q) (f mm)) ∧ Hid (∀ q, j ≤ q → q < mm → lex K (f mm) (f q)))
  case atStart => exact ⟨a, mm, rfl, rfl, by omega, by omega, by omega, by omega, HS.out, Lib.hid (fun q h1 h2 => by omega), Lib.hid (fun q h1 h2 => by omega)⟩
  case round =>
    obtain ⟨i, j, rfl, rfl, hi, hij, hj, hq, HS, HL, HH⟩ := hrel
    by_cases hlt : i < j
    · have hz1 : (i : Int) < (j : Int) := by omega
      obtain ⟨hh, hhe⟩ : ∃ hh : Nat, ((i : Int) + (j : Int)) / 2 = (hh : Int) := ⟨(i + j) / 2, by omega⟩
      have hb1 : i ≤ hh ∧ hh < j := by omega
      have y0 := HS.out.cell hh (by omega)
      have y1 := HS.out.cell mm (by omega)
      have cC := fun d => HC.out.at' HS.out (f mm) (f hh) (HV.out _ (by omega)) (HV.out _ (by omega)) d
      have hz2 : (hh : Int) < (N : Int) := by omega
      have hz3 : (mm : Int) < (N : Int) := by omega
      by_cases hk : K (f mm) < K (f hh)
      · have hv := cmpv_neg hk
        have HH2 : Hid (∀ q, hh ≤ q → q < mm → lex K (f mm) (f q)) := Lib.hid (fun q h2 h3 => by
          have h4 := HY.out.yes (p := hh) (q := mm) (by omega) (by omega) hk
          by_cases e : q = hh
          · rw [e]; exact h4
          · exact h4.trans (HY.out.l hh q (by omega) (by omega) h3))
        clear hk
        generalize cmpv (K (f mm)) (K (f hh)) = cv at *
        have hvb : decide (cv < 0) = true := decide_eq_true hv
        go_wp2_with fail
        go_quiet (exact Calls.quiet_of (cC _))
        have HS5 := Lib.hid (HS.out.drewN nq)
        clear HS y0 y1 cC
        generalize wr.drewN nq = wd at *
        go_wp2_with fail
        go_roundg (hh - i)
        case measure => omega
        case rel => exact ⟨i, hh, rfl, rfl, by omega, by omega, by omega, Nat.le_refl _, HS5.out, HL.out, HH2.out⟩
      · have hv := cmpv_not hk
        have HL2 : Hid (∀ q, a ≤ q → q < hh + 1 → lex K (f q) (f mm)) := Lib.hid (fun q h2 h3 => by
          have h4 := HY.out.no (p := hh) (q := mm) (by omega) (by omega) hk
          by_cases e : q = hh
          · rw [e]; exact h4
          · exact (HY.out.l q hh h2 (by omega) (by omega)).trans h4)
        clear hk
        generalize cmpv (K (f mm)) (K (f hh)) = cv at *
        have hvb : decide (cv < 0) = false := decide_eq_false hv
        go_wp2_with fail
        go_quiet (exact Calls.quiet_of (cC _))
        have HS5 := Lib.hid (HS.out.drewN nq)
        clear HS y0 y1 cC
        generalize wr.drewN nq = wd at *
        go_wp2_with fail
        go_roundg (j - (hh + 1))
        case measure => omega
        case rel => exact ⟨hh + 1, j, by go_num, rfl, by omega, by omega, by omega, Nat.le_refl _, HS5.out, HL2.out, HH.out⟩
    · have hz1 : ¬ (i : Int) < (j : Int) := by omega
      have hije : j = i := by omega
      rw [hije] at HH
      have him : i ≤ mm := by omega
      clear hij hije
      go_wp2_with fail
      go_loopg [17] (mm - i) (fun kq v13 wr => ∃ (k : Nat) (g : Nat → Int), v13 = .int .i64 k ∧ i ≤ k ∧ k ≤ mm ∧ k - i ≤ kq ∧ Hid (Sr w0 wr B N g) ∧ Hid (Pm a b f g) ∧ Hid (∀ p, k < p → p ≤ mm → g p = f (p - 1)) ∧ Hid (g k = f mm) ∧ Hid (∀ p, a ≤ p → p < k → g p = f p))
      case atStart => exact ⟨mm, f, rfl, by omega, Nat.le_refl _, Nat.le_refl _, HS.out, .refl _, Lib.hid (fun p h1 h2 => by omega), Lib.hid rfl, Lib.hid (fun p _ _ => rfl)⟩
      case round =>
        obtain ⟨k, g, rfl, hk1, hk2, hkq, HS, HP, G1, G2, G3⟩ := hrel
        by_cases hlt2 : i < k
        · obtain ⟨kp, hkp⟩ : ∃ kp, k = kp + 1 := ⟨k - 1, by omega⟩
          subst hkp
          have hcast : ((kp + 1 : Nat) : Int) = (kp : Int) + 1 := by omega
          rw [hcast]
          clear hcast
          have hz2 : (i : Int) < (kp : Int) + 1 := by omega
          have hz3 : (kp : Int) + 1 < (N : Int) := by omega
          obtain ⟨w1, w2, e1, e2, ⟨y0, y1, y2, y3⟩, ⟨v, y4⟩, y5, HS6⟩ := HS.out.swap (kp + 1) kp (by omega) (by omega)
          have HP2 := Lib.hid (HP.out.step (kp + 1) kp (by omega) (by omega))
          have G1' : Hid (∀ p, kp < p → p ≤ mm → sw g (kp + 1) kp p = f (p - 1)) := Lib.hid (fun p h2 h3 => by
            by_cases e : p = kp + 1
            · rw [e, sw_l, G3.out kp (by omega) (by omega)]; rfl
            · rw [sw_o _ _ _ p e (by omega)]; exact G1.out p (by omega) h3)
          have G2' : Hid (sw g (kp + 1) kp kp = f mm) := Lib.hid (by rw [sw_r]; exact G2.out)
          have G3' : Hid (∀ p, a ≤ p → p < kp → sw g (kp + 1) kp p = f p) := Lib.hid (fun p h2 h3 => by rw [sw_o _ _ _ p (by omega) (by omega)]; exact G3.out p h2 (by omega))
          go_wp2_with fail
          go_region
          clear e1 e2 y0 y1 y2 y3 y4 y5
          go_wp2_with fail
          go_roundg (kp - i)
          case measure => omega
          case rel => exact ⟨kp, _, by go_num, by omega, by omega, Nat.le_refl _, Lib.hid (HS6.out.below ⟨rfl, rfl, rfl, Nat.le_refl _, fun _ _ => rfl⟩), HP2.out, G1'.out, G2'.out, G3'.out⟩
        · have hz2 : ¬ (i : Int) < (k : Int) := by omega
          have hke : k = i := by omega
          rw [hke] at G1 G2 G3
          go_wp2_with fail
          (try simp only [Exit.inBlock, Exit.then])
          refine bodyPost_ret (results_none rfl _ _ _) rfl ?_
          exact ⟨rfl, g, HS.out, HP.out, HY.out.last H1.out ⟨hi, him⟩ HL.out HH.out G1.out G2.out G3.out⟩
end Go.Proofs.Ytblbfmoipljhdaa
