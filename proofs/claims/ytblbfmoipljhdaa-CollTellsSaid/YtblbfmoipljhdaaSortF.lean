import Derived.Test.YtblbfmoipljhdaaSortE
namespace Go.Proofs.Ytblbfmoipljhdaa
open Go.RowKit
set_option linter.unusedVariables false
set_option linter.unusedSimpArgs false

theorem Sy.lo_step {K : Int → Int} {f : Nat → Int} {a m b N mid s0 r0 cc : Nat} (h : Sy K f a m b N) (hb : Be a m b mid s0 r0) (h1 : s0 ≤ cc) (h2 : cc < r0) (hk : ¬ K (f (mid + m - 1 - cc)) < K (f cc)) : ∀ x, s0 ≤ x → x < cc + 1 → lex K (f x) (f (mid + m - 1 - x)) := by
  obtain ⟨k1, k2, k3, k4, k5, k6, k7⟩ := hb.facts h.am h.mb
  intro x h3 h4
  have q1 := k7 cc h1 h2
  have q2 := k7 x h3 (by omega)
  have h5 := h.no (p := cc) (q := mid + m - 1 - cc) (by omega) (by omega) hk
  by_cases e : x = cc
  · rw [e]; exact h5
  · exact ((h.l x cc (by omega) (by omega) (by omega)).trans h5).trans (h.r _ _ (by omega) (by omega) (by omega))
theorem Sy.hi_step {K : Int → Int} {f : Nat → Int} {a m b N mid s0 r0 cc : Nat} (h : Sy K f a m b N) (hb : Be a m b mid s0 r0) (h1 : s0 ≤ cc) (h2 : cc < r0) (hk : K (f (mid + m - 1 - cc)) < K (f cc)) : ∀ x, cc ≤ x → x < r0 → lex K (f (mid + m - 1 - x)) (f x) := by
  obtain ⟨k1, k2, k3, k4, k5, k6, k7⟩ := hb.facts h.am h.mb
  intro x h3 h4
  have q1 := k7 cc h1 h2
  have q2 := k7 x (by omega) h4
  have h5 := h.yes (p := cc) (q := mid + m - 1 - cc) (by omega) (by omega) hk
  by_cases e : x = cc
  · rw [e]; exact h5
  · exact ((h.r _ _ (by omega) (by omega) (by omega)).trans h5).trans (h.l cc x (by omega) (by omega) (by omega))

set_option maxHeartbeats 4000000 in
set_option maxRecDepth 100000 in
theorem sym_calls {w0 : World} {B N cap : Nat} (c : Value) (m : Int) (K : Int → Int) (hC : CmpOk w0 B c m K) (hN : N ≤ 1000) : ∀ (L a mm b : Nat) (W : World) (f : Nat → Int), b - a ≤ L → SymDoes w0 B N cap c m K a mm b W f := by
  intro L
  induction L with
  | zero =>
    intro a mm b W f hL h hV hY
    have := hY.am
    have := hY.mb
    omega
  | succ L ih =>
  intro a mm b W f hL
  by_cases h0 : mm = a + 1
  · exact sym_one c m K hC hN a mm b h0
  by_cases h1 : b = mm + 1
  · exact sym_last c m K hC hN a mm b h0 h1
  intro h hV hY ai mi bi ha hm hb
  subst ha
  subst hm
  subst hb
  have HC := Lib.hid hC
  have HIH := Lib.hid ih
  have HS := Lib.hid h
  have HV := Lib.hid hV
  have HY := Lib.hid hY
  have ham := hY.am
  have hmb := hY.mb
  have hbN := hY.bN
  clear hC h hV hY ih
  have h0z : ((mm : Int) - (a : Int) == 1) = false := beq_eq_false_iff_ne.2 (by omega)
  have h1z : ((b : Int) - (mm : Int) == 1) = false := beq_eq_false_iff_ne.2 (by omega)
  clear h0 h1
  obtain ⟨mid, hmid⟩ : ∃ mid : Nat, ((a : Int) + (b : Int)) / 2 = (mid : Int) := ⟨(a + b) / 2, by omega⟩
  have hmidn : mid = (a + b) / 2 := by omega
  have HMN := Lib.hid hmidn
  have hmb2 : mid < b := by omega
  have hma2 : a < mid := by omega
  clear hmidn
  go_enter Try.func17, Try.ntmps17
  go_upto_if 140 with (fail)
  go_cut [20, 21] from 138 to 146 (fun v20 v21 wc => ∃ s0 r0 : Nat, v20 = .int .i64 s0 ∧ v21 = .int .i64 r0 ∧ wc = W ∧ Hid (Be a mm b mid s0 r0))
  case first =>
    by_cases hmm : mid < mm
    · have hz : (mid : Int) < (mm : Int) := by omega
      go_wp2_with fail
      go_meet
      case rel => exact ⟨mid + mm - b, mid, by congr 1; have := HMN.out; omega, rfl, rfl, Lib.hid ⟨HMN.out, .inl ⟨hmm, by have := HMN.out; omega, rfl⟩⟩⟩
    · have hz : ¬ (mid : Int) < (mm : Int) := by omega
      go_wp2_with fail
      go_meet
      case rel => exact ⟨a, mm, rfl, rfl, rfl, Lib.hid ⟨HMN.out, .inr ⟨by omega, rfl, rfl⟩⟩⟩
  case rest =>
    obtain ⟨s0, r0, rfl, rfl, rfl, HBE⟩ := hcut
    obtain ⟨k1, k2, k3, k4, -, -, k7⟩ := HBE.out.facts ham hmb
    have HK7 := Lib.hid k7
    clear k7
    go_wp2_with fail
    go_loopg [20, 21] (r0 - s0) (fun kq v20 v21 wr => ∃ s r : Nat, v20 = .int .i64 s ∧ v21 = .int .i64 r ∧ s0 ≤ s ∧ s ≤ r ∧ r ≤ r0 ∧ r - s ≤ kq ∧ Hid (Sr w0 wr B N f) ∧ Hid (∀ x, s0 ≤ x → x < s → lex K (f x) (f (mid + mm - 1 - x))) ∧ Hid (∀ x, r ≤ x → x < r0 → lex K (f (mid + mm - 1 - x)) (f x)))
    case atStart => exact ⟨s0, r0, rfl, rfl, by omega, by omega, by omega, by omega, HS.out, Lib.hid (fun x h1 h2 => by omega), Lib.hid (fun x h1 h2 => by omega)⟩
    case round =>
      obtain ⟨s, r, rfl, rfl, hs, hsr, hr, hq, HS, HL, HH⟩ := hrel
      by_cases hlt : s < r
      · have hz1 : (s : Int) < (r : Int) := by omega
        obtain ⟨cc, hce⟩ : ∃ cc : Nat, ((s : Int) + (r : Int)) / 2 = (cc : Int) := ⟨(s + r) / 2, by omega⟩
        have hb1 : s ≤ cc ∧ cc < r := by omega
        obtain ⟨j1, j2, j3, j4⟩ := HK7.out cc (by omega) (by omega)
        obtain ⟨xx, hxx⟩ : ∃ xx, xx = mid + mm - 1 - cc := ⟨_, rfl⟩
        have hxz : (mid : Int) + (mm : Int) - 1 - (cc : Int) = (xx : Int) := by omega
        have HXX := Lib.hid hxx
        rw [← hxx] at j1 j2
        clear hxx
        have y0 := HS.out.cell xx (by omega)
        have y1 := HS.out.cell cc (by omega)
        have cC := fun d => HC.out.at' HS.out (f xx) (f cc) (HV.out _ (by omega)) (HV.out _ (by omega)) d
        have hz2 : (cc : Int) < (N : Int) := by omega
        have hz3 : (xx : Int) < (N : Int) := by omega
        by_cases hk : K (f xx) < K (f cc)
        · have hv := cmpv_neg hk
          have HH2 := Lib.hid (HY.out.hi_step (cc := cc) HBE.out (by omega) (by omega) (by rw [← HXX.out]; exact hk))
          clear hk
          generalize cmpv (K (f xx)) (K (f cc)) = cv at *
          have hvb : decide (cv < 0) = true := decide_eq_true hv
          go_wp2_with fail
          go_quiet (exact Calls.quiet_of (cC _))
          have HS5 := Lib.hid (HS.out.drewN nq)
          clear HS y0 y1 cC
          generalize wr.drewN nq = wd at *
          go_wp2_with fail
          go_roundg (cc - s)
          case measure => omega
          case rel => exact ⟨s, cc, rfl, rfl, by omega, by omega, by omega, Nat.le_refl _, HS5.out, HL.out, HH2.out⟩
        · have hv := cmpv_not hk
          have HL2 := Lib.hid (HY.out.lo_step (cc := cc) HBE.out (by omega) (by omega) (by rw [← HXX.out]; exact hk))
          clear hk
          generalize cmpv (K (f xx)) (K (f cc)) = cv at *
          have hvb : decide (cv < 0) = false := decide_eq_false hv
          go_wp2_with fail
          go_quiet (exact Calls.quiet_of (cC _))
          have HS5 := Lib.hid (HS.out.drewN nq)
          clear HS y0 y1 cC
          generalize wr.drewN nq = wd at *
          go_wp2_with fail
          go_roundg (r - (cc + 1))
          case measure => omega
          case rel => exact ⟨cc + 1, r, by go_num, rfl, by omega, by omega, by omega, Nat.le_refl _, HS5.out, HL2.out, HH.out⟩
      · have hz1 : ¬ (s : Int) < (r : Int) := by omega
        have hsre : r = s := by omega
        rw [hsre] at HH hr
        clear hsr hsre hlt hq
        obtain ⟨e, he⟩ : ∃ e, e = mid + mm - s := ⟨_, rfl⟩
        have hez : (mid : Int) + (mm : Int) - (s : Int) = (e : Int) := by omega
        have HE := Lib.hid he
        have heb : e ≤ b := by
          rcases HBE.out.ends with ⟨e1, e2, e3⟩ | ⟨e1, e2, e3⟩
          · omega
          · have := HMN.out; omega
        have hem : mm ≤ e := by omega
        have hemid : mid ≤ e := by omega
        clear he
        go_upto_region 39 with (fail)
        go_cut [185] from 178 to 185 (fun v185 wc => ∃ q : Bool, v185 = .bool q ∧ (q = true ↔ (s < mm ∧ mm < e)) ∧ wc = wr)
        case first =>
          by_cases c1 : s < mm
          · have hz2 : (s : Int) < (mm : Int) := by omega
            by_cases c2 : mm < e
            · have hz3 : (mm : Int) < (e : Int) := by omega
              go_wp2_with fail
              go_meet
              case rel => exact ⟨true, rfl, by simp [c1, c2], rfl⟩
            · have hz3 : ¬ (mm : Int) < (e : Int) := by omega
              go_wp2_with fail
              go_meet
              case rel => exact ⟨false, rfl, by simp [c1, c2], rfl⟩
          · have hz2 : ¬ (s : Int) < (mm : Int) := by omega
            go_wp2_with fail
            go_meet
            case rel => exact ⟨false, rfl, by simp [c1], rfl⟩
        case rest =>
          obtain ⟨q, rfl, hqq, rfl⟩ := hcut
          go_upto_if 185 with (fail)
          go_cut [20] from 178 to 191 (fun v20 wc2 => v20 = .int .i64 s ∧ ∃ g, Hid (Sr w0 wc2 B N g) ∧ Hid (Pm a b f g) ∧ Hid (∀ k, g k = rotf f s mm (mid + mm - s) k))
          case first =>
            cases q with
            | true =>
              obtain ⟨c1, c2⟩ := hqq.1 rfl
              have HF := Lib.hid (rotate_calls (cap := cap) (.func (.func 12) #[] #[c]) HS.out hN s mm e (s : Int) (mm : Int) (e : Int) rfl rfl rfl c1 c2 (by omega))
              go_wp2_with fail
              refine HF.out.mono ?_
              rintro e1 w1 ⟨rfl, g, hS, hP, hg⟩
              have HS2 := Lib.hid hS
              have HP2 := Lib.hid (hP.mono (show a ≤ s by omega) heb)
              have HG2 : Hid (∀ k, g k = rotf f s mm (mid + mm - s) k) := Lib.hid (by rw [← HE.out]; exact hg)
              clear hS hP hg HF
              go_wp2_with fail
              go_meet
              case rel => exact ⟨rfl, g, HS2.out, HP2.out, HG2.out⟩
            | false =>
              have HG2 : Hid (∀ k, f k = rotf f s mm (mid + mm - s) k) := Lib.hid (by
                rw [← HE.out]
                intro k
                have hn : ¬ (s < mm ∧ mm < e) := fun h => by cases hqq.2 h
                unfold rotf
                split
                · split <;> (congr 1; omega)
                · rfl)
              go_wp2_with fail
              go_meet
              case rel => exact ⟨rfl, f, HS.out, .refl _, HG2.out⟩
          case rest =>
            clear HS hqq
            obtain ⟨rfl, g, HS, HP, HG⟩ := hcut
            have HT := Lib.hid (HY.out.turned HBE.out ⟨hs, hr⟩ HL.out HH.out HG.out)
            rw [← HE.out] at HT
            have HV2 : Hid (∀ i, i < N → 0 ≤ g i ∧ g i < m) := Lib.hid (fun p hp => by
              by_cases hpa : a ≤ p ∧ p < b
              · obtain ⟨l, h1, h2, e⟩ := HP.out.from p hpa.1 hpa.2
                rw [e]; exact HV.out l (by omega)
              · rw [HP.out.out p hpa]; exact HV.out p hp)
            clear HG HL HH
            go_upto_region 41 with (fail)
            go_cut [199] from 192 to 199 (fun v199 wc2 => ∃ q : Bool, v199 = .bool q ∧ (q = true ↔ (a < s ∧ s < mid)) ∧ wc2 = wc)
            case first =>
              by_cases c1 : a < s
              · have hz2 : (a : Int) < (s : Int) := by omega
                by_cases c2 : s < mid
                · have hz3 : (s : Int) < (mid : Int) := by omega
                  go_wp2_with fail
                  go_meet
                  case rel => exact ⟨true, rfl, by simp [c1, c2], rfl⟩
                · have hz3 : ¬ (s : Int) < (mid : Int) := by omega
                  go_wp2_with fail
                  go_meet
                  case rel => exact ⟨false, rfl, by simp [c1, c2], rfl⟩
              · have hz2 : ¬ (a : Int) < (s : Int) := by omega
                go_wp2_with fail
                go_meet
                case rel => exact ⟨false, rfl, by simp [c1], rfl⟩
            case rest =>
              obtain ⟨q, rfl, hqq, rfl⟩ := hcut
              go_upto_if 199 with (fail)
              go_cut [20] from 192 to 205 (fun v20 wc2 => v20 = .int .i64 s ∧ ∃ g1, Hid (Sr w0 wc2 B N g1) ∧ Hid (Pm a mid g g1) ∧ Hid (So K g1 a mid))
              case first =>
                cases q with
                | true =>
                  obtain ⟨c1, c2⟩ := hqq.1 rfl
                  have HF := Lib.hid (HIH.out a s mid wc g (by omega) HS.out HV2.out ⟨c1, c2, by omega, HT.out.l1, HT.out.r1, HT.out.x1⟩ (a : Int) (s : Int) (mid : Int) rfl rfl rfl)
                  go_wp2_with fail
                  refine HF.out.mono ?_
                  rintro e1 w1 ⟨rfl, g1, hS, hP, hO⟩
                  have HS2 := Lib.hid hS
                  have HP2 := Lib.hid hP
                  have HO2 := Lib.hid hO
                  clear hS hP hO HF
                  go_wp2_with fail
                  go_meet
                  case rel => exact ⟨rfl, g1, HS2.out, HP2.out, HO2.out⟩
                | false =>
                  have HO2 : Hid (So K g a mid) := Lib.hid (by
                    by_cases c1 : a < s
                    · have e3 : mid ≤ s := by
                        by_cases c2 : s < mid
                        · have := hqq.2 ⟨c1, c2⟩; cases this
                        · omega
                      exact fun p q h1 h2 h3 => HT.out.l1 p q h1 h2 (by omega)
                    · exact fun p q h1 h2 h3 => HT.out.r1 p q (by omega) h2 h3)
                  go_wp2_with fail
                  go_meet
                  case rel => exact ⟨rfl, g, HS.out, .refl _, HO2.out⟩
              case rest =>
                clear HS hqq
                obtain ⟨rfl, g1, HS, HP1, HO1⟩ := hcut
                have HV3 : Hid (∀ i, i < N → 0 ≤ g1 i ∧ g1 i < m) := Lib.hid (fun p hp => by
                  by_cases hpa : a ≤ p ∧ p < mid
                  · obtain ⟨l, h1, h2, e⟩ := HP1.out.from p hpa.1 hpa.2
                    rw [e]; exact HV2.out l (by omega)
                  · rw [HP1.out.out p hpa]; exact HV2.out p hp)
                have T2 : Hid (So K g1 mid e ∧ So K g1 e b ∧ ∀ p q, mid ≤ p → p < e → e ≤ q → q < b → g1 p < g1 q) := Lib.hid (by
                  have hsame : ∀ p, mid ≤ p → g1 p = g p := fun p hp => HP1.out.out p (by omega)
                  refine ⟨fun p q h1 h2 h3 => ?_, fun p q h1 h2 h3 => ?_, fun p q h1 h2 h3 h4 => ?_⟩
                  · rw [hsame p h1, hsame q (by omega)]; exact HT.out.l2 p q h1 h2 h3
                  · rw [hsame p (by omega), hsame q (by omega)]; exact HT.out.r2 p q h1 h2 h3
                  · rw [hsame p h1, hsame q (by omega)]; exact HT.out.x2 p q h1 h2 h3 h4)
                by_cases c1 : mid < e
                · have hz2 : (mid : Int) < (e : Int) := by omega
                  by_cases c2 : e < b
                  · have hz3 : (e : Int) < (b : Int) := by omega
                    have HF := Lib.hid (HIH.out mid e b wc g1 (by omega) HS.out HV3.out ⟨c1, c2, hbN, T2.out.1, T2.out.2.1, T2.out.2.2⟩ (mid : Int) (e : Int) (b : Int) rfl rfl rfl)
                    go_wp2_with fail
                    refine HF.out.mono ?_
                    rintro e1 w1 ⟨rfl, g2, hS, hP, hO⟩
                    go_wp2_with fail
                    go_end0
                    exact ⟨rfl, g2, hS, (HP.out.trans (HP1.out.mono (Nat.le_refl _) (by omega))).trans (hP.mono (by omega) (Nat.le_refl _)), HT.out.done (by omega) (by omega) HP1.out HO1.out hP hO⟩
                  · have hz3 : ¬ (e : Int) < (b : Int) := by omega
                    go_wp2_with fail
                    go_end0
                    exact ⟨rfl, g1, HS.out, HP.out.trans (HP1.out.mono (Nat.le_refl _) (by omega)), HT.out.done (by omega) (by omega) HP1.out HO1.out (.refl _) (fun p q h1 h2 h3 => T2.out.1 p q h1 h2 (by omega))⟩
                · have hz2 : ¬ (mid : Int) < (e : Int) := by omega
                  go_wp2_with fail
                  go_end0
                  exact ⟨rfl, g1, HS.out, HP.out.trans (HP1.out.mono (Nat.le_refl _) (by omega)), HT.out.done (by omega) (by omega) HP1.out HO1.out (.refl _) (fun p q h1 h2 h3 => T2.out.2.1 p q (by omega) h2 h3)⟩
end Go.Proofs.Ytblbfmoipljhdaa
