import Derived.Test.YtblbfmoipljhdaaSortF
namespace Go.Proofs.Ytblbfmoipljhdaa
open Go.RowKit
set_option linter.unusedVariables false
set_option linter.unusedSimpArgs false

theorem no_mult {s a x : Nat} (ha : s ∣ a) (hx : s ∣ x) (h1 : a < x) (h2 : x < a + s) : False := by
  obtain ⟨k, rfl⟩ := ha
  obtain ⟨l, rfl⟩ := hx
  have h3 : k < l := Nat.lt_of_mul_lt_mul_left h1
  have h4 : s * (k + 1) ≤ s * l := Nat.mul_le_mul_left s h3
  rw [Nat.mul_succ] at h4
  omega
/-- In order within blocks of s. -/
def BI (K : Int → Int) (s : Nat) (g : Nat → Int) (lo hi : Nat) : Prop := ∀ p q, lo ≤ p → p < q → q < hi → (∀ x, s ∣ x → p < x → x ≤ q → False) → lex K (g p) (g q)
/-- By place across blocks of s. -/
def BX (s : Nat) (g : Nat → Int) (lo N : Nat) : Prop := ∀ p q x, lo ≤ p → p < q → q < N → s ∣ x → p < x → x ≤ q → g p < g q
section
variable {K : Int → Int} {s t a b N : Nat} {g g' : Nat → Int}
theorem BI.step (h : BI K t g 0 a) (ha : t ∣ a) (hp : Pm a b g g') (hs : So K g' a b) : BI K t g' 0 b := by
  intro p q h1 h2 h3 h4
  by_cases e1 : q < a
  · rw [hp.out p (by omega), hp.out q (by omega)]
    exact h p q h1 h2 e1 h4
  · by_cases e2 : a ≤ p
    · exact hs p q e2 h2 h3
    · exact (h4 a ha (by omega) (by omega)).elim
theorem BX.step (h : BX t g 0 N) (ht : ∀ x, t ∣ x → ¬ (a < x ∧ x < b)) (hp : Pm a b g g') (hb : b ≤ N) : BX t g' 0 N := by
  intro p q x h1 h2 h3 h4 h5 h6
  have hx := ht x h4
  have key1 : ∃ l, l < x ∧ g' p = g l ∧ 0 ≤ l := by
    by_cases e : a ≤ p ∧ p < b
    · obtain ⟨l, k1, k2, k3⟩ := hp.from p e.1 e.2
      exact ⟨l, by omega, k3, by omega⟩
    · exact ⟨p, h5, hp.out p e, by omega⟩
  have key2 : ∃ l, x ≤ l ∧ l < N ∧ g' q = g l := by
    by_cases e : a ≤ q ∧ q < b
    · obtain ⟨l, k1, k2, k3⟩ := hp.from q e.1 e.2
      exact ⟨l, by omega, by omega, k3⟩
    · exact ⟨q, h6, h3, hp.out q e⟩
  obtain ⟨l, k1, k2, k3⟩ := key1
  obtain ⟨l', k4, k5, k6⟩ := key2
  rw [k2, k6]
  exact h l l' x k3 (by omega) k5 h4 k1 k4
theorem BI.part (h : BI K s g a N) (ha : s ∣ a) (hN : b ≤ N) (hb : b ≤ a + s) : So K g a b := by
  intro p q h1 h2 h3
  exact h p q h1 h2 (by omega) (fun x h4 h5 h6 => no_mult ha h4 (by omega) (by omega))
theorem BI.late (h : BI K s g a N) (hp : Pm a b g g') (hab : a ≤ b) : BI K s g' b N := by
  intro p q h1 h2 h3 h4
  rw [hp.out p (by omega), hp.out q (by omega)]
  exact h p q (by omega) h2 h3 h4
theorem BX.late (h : BX s g a N) (hp : Pm a b g g') (hab : a ≤ b) : BX s g' b N := by
  intro p q x h1 h2 h3 h4 h5 h6
  rw [hp.out p (by omega), hp.out q (by omega)]
  exact h p q x (by omega) h2 h3 h4 h5 h6
/-- What the merge of two blocks asks. -/
theorem BI.sy (h : BI K s g a N) (hx : BX s g a N) (ha : s ∣ a) (h1 : 0 < s) (h2 : a + s < b) (h3 : b ≤ N) (h4 : b ≤ a + 2 * s) : Sy K g a (a + s) b N := by
  have hs : s ∣ a + s := Nat.dvd_add ha (Nat.dvd_refl s)
  refine ⟨by omega, h2, h3, h.part ha (by omega) (Nat.le_refl _), ?_, fun p q k1 k2 k3 k4 => hx p q (a + s) k1 (by omega) (by omega) hs (by omega) k3⟩
  intro p q k1 k2 k3
  exact h p q (by omega) k2 (by omega) (fun x k4 k5 k6 => no_mult hs k4 (by omega) (by omega))
theorem dvd_two (h : 2 * s ∣ a) : s ∣ a := Nat.dvd_trans ⟨2, by omega⟩ h
theorem BX.two (h : BX s g 0 N) : BX (2 * s) g 0 N := fun p q x h1 h2 h3 h4 h5 h6 => h p q x h1 h2 h3 (dvd_two h4) h5 h6
theorem BI.all (h : BI K s g 0 N) (hs : N ≤ s) : So K g 0 N := by
  intro p q h1 h2 h3
  exact h p q h1 h2 h3 (fun x h4 h5 h6 => no_mult (Nat.dvd_zero s) h4 (by omega) (by omega))
end

set_option maxHeartbeats 4000000 in
set_option maxRecDepth 100000 in
theorem stable_calls {w0 W : World} {B N cap : Nat} {f : Nat → Int} (c : Value) (m : Int) (K : Int → Int) (hC : CmpOk w0 B c m K) (h : Sr w0 W B N f) (hN : N ≤ 1000) (hcap : N ≤ cap) (hV : ∀ i, i < N → 0 ≤ f i ∧ f i < m) (hI : ∀ p q, p < q → q < N → f p < f q) :
    Calls Try.prog 14 #[.slice (some ⟨B, 0, none⟩) N cap, .int .i64 N, .func (.func 12) #[] #[c]] W fun e w' => e = .returned (.tuple #[]) ∧ ∃ g, Sr w0 w' B N g ∧ Pm 0 N f g ∧ So K g 0 N := by
  have HC := Lib.hid hC
  have HS := Lib.hid h
  have HV : Hid (∀ g, Pm 0 N f g → ∀ i, i < N → 0 ≤ g i ∧ g i < m) := Lib.hid (fun g hp i hi => by
    obtain ⟨l, h1, h2, e⟩ := hp.from i (by omega) hi
    rw [e]; exact hV l h2)
  have HI := Lib.hid hI
  clear hC h hV hI
  go_enter Try.func14, Try.ntmps14
  go_wp2_with fail
  go_loopg [7, 8] (N + 20) (fun kq v7 v8 wr => ∃ (a : Nat) (g : Nat → Int), v7 = .int .i64 a ∧ v8 = .int .i64 ((a + 20 : Nat) : Int) ∧ a ≤ N ∧ N + 20 - a ≤ kq ∧ Hid (20 ∣ a) ∧ Hid (Sr w0 wr B N g) ∧ Hid (Pm 0 N f g) ∧ Hid (BI K 20 g 0 a) ∧ Hid (BX 20 g 0 N) ∧ Hid (∀ p q, a ≤ p → p < q → q < N → g p < g q))
  case atStart => exact ⟨0, f, rfl, rfl, by omega, by omega, Lib.hid (Nat.dvd_zero 20), HS.out, .refl _, Lib.hid (fun p q h1 h2 h3 => by omega), Lib.hid (fun p q x h1 h2 h3 h4 h5 h6 => HI.out p q h2 h3), Lib.hid (fun p q h1 h2 h3 => HI.out p q h2 h3)⟩
  case round =>
    obtain ⟨a, g, rfl, rfl, ha, haq, HD, HS, HP, HBI, HBX, HUP⟩ := hrel
    have hcast : ((a + 20 : Nat) : Int) = (a : Int) + 20 := by omega
    rw [hcast]
    clear hcast
    by_cases hle : a + 20 ≤ N
    · have hz : (a : Int) + 20 ≤ (N : Int) := by omega
      have HF := Lib.hid (ins_calls c m K HC.out HS.out hN hcap a (a + 20) (by omega) hle (HV.out g HP.out) (fun p q h1 h2 h3 => HUP.out p q h1 h2 (by omega)))
      rw [show ((a + 20 : Nat) : Int) = (a : Int) + 20 by omega] at HF
      go_wp2_with fail
      refine HF.out.mono ?_
      rintro e w1 ⟨rfl, g1, hS, hP, hO⟩
      have HS1 := Lib.hid hS
      have HP1 := Lib.hid (HP.out.trans (hP.mono (by omega) hle))
      have HBI1 := Lib.hid (HBI.out.step HD.out hP hO)
      have HBX1 := Lib.hid (HBX.out.step (fun x h1 h2 => no_mult HD.out h1 h2.1 h2.2) hP hle)
      have HUP1 : Hid (∀ p q, a + 20 ≤ p → p < q → q < N → g1 p < g1 q) := Lib.hid (fun p q h1 h2 h3 => by
        rw [hP.out p (by omega), hP.out q (by omega)]; exact HUP.out p q (by omega) h2 h3)
      clear hS hP hO HF HS HP HBI HBX HUP
      go_wp2_with fail
      go_roundg (N + 20 - (a + 20))
      case measure => omega
      case rel => exact ⟨a + 20, g1, by congr 1 <;> omega, by congr 1 <;> omega, hle, Nat.le_refl _, Lib.hid (Nat.dvd_add HD.out (Nat.dvd_refl 20)), HS1.out, HP1.out, HBI1.out, HBX1.out, HUP1.out⟩
    · have hz : ¬ ((a : Int) + 20 ≤ (N : Int)) := by omega
      have HF := Lib.hid (ins_calls c m K HC.out HS.out hN hcap a N ha (Nat.le_refl _) (HV.out g HP.out) (fun p q h1 h2 h3 => HUP.out p q h1 h2 h3))
      go_wp2_with fail
      refine HF.out.mono ?_
      rintro e w1 ⟨rfl, g1, hS, hP, hO⟩
      have HS1 := Lib.hid hS
      have HP1 := Lib.hid (HP.out.trans (hP.mono (by omega) (Nat.le_refl _)))
      have HBI1 := Lib.hid (HBI.out.step HD.out hP hO)
      have HBX1 := Lib.hid (HBX.out.step (fun x h1 h2 => no_mult HD.out h1 h2.1 (by omega)) hP (Nat.le_refl _))
      clear hS hP hO HF HS HP HBI HBX HUP HD
      go_wp2_with fail
      go_loopg [6] (N + 1) (fun kq v6 wr => ∃ (s : Nat) (g : Nat → Int), v6 = .int .i64 s ∧ 20 ≤ s ∧ s ≤ 2000 ∧ N + 1 - s ≤ kq ∧ Hid (Sr w0 wr B N g) ∧ Hid (Pm 0 N f g) ∧ Hid (BI K s g 0 N) ∧ Hid (BX s g 0 N))
      case atStart => exact ⟨20, g1, rfl, by omega, by omega, by omega, HS1.out, HP1.out, HBI1.out, HBX1.out⟩
      case round =>
        obtain ⟨s, g, rfl, hs20, hs2, hsq, HS, HP, HBI, HBX⟩ := hrel
        by_cases hsN : s < N
        · have hz1 : (s : Int) < (N : Int) := by omega
          have hz2 : (s : Int) ≤ 2000 := by omega
          go_wp2_with fail
          go_loopg [7, 8] (N + 2 * s) (fun kq v7 v8 wr => ∃ (a : Nat) (g : Nat → Int), v7 = .int .i64 a ∧ v8 = .int .i64 ((a : Int) + 2 * (s : Int)) ∧ a ≤ N ∧ N + 2 * s - a ≤ kq ∧ Hid (2 * s ∣ a) ∧ Hid (Sr w0 wr B N g) ∧ Hid (Pm 0 N f g) ∧ Hid (BI K (2 * s) g 0 a) ∧ Hid (BX (2 * s) g 0 N) ∧ Hid (BI K s g a N) ∧ Hid (BX s g a N))
          case atStart => exact ⟨0, g, rfl, by congr 1 <;> omega, by omega, by omega, Lib.hid (Nat.dvd_zero _), HS.out, HP.out, Lib.hid (fun p q h1 h2 h3 => by omega), HBX.out.two, HBI.out, HBX.out⟩
          case round =>
            obtain ⟨a, g, rfl, rfl, ha, haq, HD, HS, HP, HBI2, HBX2, HBI, HBX⟩ := hrel
            by_cases hle : a + 2 * s ≤ N
            · have hz3 : (a : Int) + 2 * (s : Int) ≤ (N : Int) := by omega
              have HF := Lib.hid (sym_calls (cap := cap) c m K HC.out hN (2 * s) a (a + s) (a + 2 * s) wr g (by omega) HS.out (HV.out g HP.out) (HBI.out.sy HBX.out (dvd_two HD.out) (by omega) (by omega) hle (by omega)) (a : Int) ((a : Int) + (s : Int)) ((a : Int) + 2 * (s : Int)) rfl (by omega) (by omega))
              go_wp2_with fail
              refine HF.out.mono ?_
              rintro e w1 ⟨rfl, g1, hS, hP, hO⟩
              have HS1 := Lib.hid hS
              have HP1 := Lib.hid (HP.out.trans (hP.mono (by omega) hle))
              have HBI1 := Lib.hid (HBI2.out.step HD.out hP hO)
              have HBX1 := Lib.hid (HBX2.out.step (fun x h1 h2 => no_mult HD.out h1 h2.1 h2.2) hP hle)
              have HBI3 := Lib.hid (HBI.out.late hP (by omega))
              have HBX3 := Lib.hid (HBX.out.late hP (by omega))
              clear hS hP hO HF HS HP HBI HBX HBI2 HBX2
              go_wp2_with fail
              go_roundg (N + 2 * s - (a + 2 * s))
              case measure => omega
              case rel => exact ⟨a + 2 * s, g1, by congr 1 <;> omega, by congr 1 <;> omega, hle, Nat.le_refl _, Lib.hid (Nat.dvd_add HD.out (Nat.dvd_refl _)), HS1.out, HP1.out, HBI1.out, HBX1.out, HBI3.out, HBX3.out⟩
            · have hz3 : ¬ ((a : Int) + 2 * (s : Int) ≤ (N : Int)) := by omega
              by_cases hm : a + s < N
              · have hz4 : (a : Int) + (s : Int) < (N : Int) := by omega
                have HF := Lib.hid (sym_calls (cap := cap) c m K HC.out hN (2 * s) a (a + s) N wr g (by omega) HS.out (HV.out g HP.out) (HBI.out.sy HBX.out (dvd_two HD.out) (by omega) hm (Nat.le_refl _) (by omega)) (a : Int) ((a : Int) + (s : Int)) (N : Int) rfl (by omega) rfl)
                go_wp2_with fail
                refine HF.out.mono ?_
                rintro e w1 ⟨rfl, g1, hS, hP, hO⟩
                have HS1 := Lib.hid hS
                have HP1 := Lib.hid (HP.out.trans (hP.mono (by omega) (Nat.le_refl _)))
                have HBI1 := Lib.hid (HBI2.out.step HD.out hP hO)
                have HBX1 := Lib.hid (HBX2.out.step (fun x h1 h2 => no_mult HD.out h1 h2.1 (by omega)) hP (Nat.le_refl _))
                clear hS hP hO HF HS HP HBI HBX HBI2 HBX2
                go_wp2_with fail
                go_roundg (N + 1 - 2 * s)
                case measure => omega
                case rel => exact ⟨2 * s, g1, by congr 1 <;> omega, by omega, by omega, Nat.le_refl _, HS1.out, HP1.out, HBI1.out, HBX1.out⟩
              · have hz4 : ¬ ((a : Int) + (s : Int) < (N : Int)) := by omega
                have HBI1 := Lib.hid (HBI2.out.step HD.out (.refl g) (HBI.out.part (dvd_two HD.out) (Nat.le_refl _) (by omega)))
                go_wp2_with fail
                go_roundg (N + 1 - 2 * s)
                case measure => omega
                case rel => exact ⟨2 * s, g, by congr 1 <;> omega, by omega, by omega, Nat.le_refl _, HS.out, HP.out, HBI1.out, HBX2.out⟩
        · have hz1 : ¬ (s : Int) < (N : Int) := by omega
          go_wp2_with fail
          go_end0
          exact ⟨rfl, g, HS.out, HP.out, HBI.out.all (by omega)⟩
end Go.Proofs.Ytblbfmoipljhdaa
