import Derived.Test.YtblbfmoipljhdaaSortA
import Derived.BigRegion
namespace Go.Proofs.Ytblbfmoipljhdaa
open Go.RowKit
set_option linter.unusedVariables false
set_option linter.unusedSimpArgs false

/-- The comparison, in whatever world of the sort. -/
def CmpOk (w0 : World) (B : Nat) (c : Value) (m : Int) (K : Int → Int) : Prop :=
  ∀ (W : World), (∀ k, k < w0.heap.size → k ≠ B → W.heap[k]? = w0.heap[k]?) → ∀ x y, 0 ≤ x ∧ x < m → 0 ≤ y ∧ y < m →
    Calls Try.prog 12 #[.int .i64 x, .int .i64 y, c] W fun e w' => e = .returned (.int .i64 (cmpv (K x) (K y))) ∧ ∃ q, w' = W.drewN q
theorem CmpOk.at' {w0 W : World} {B n : Nat} {f : Nat → Int} {c : Value} {m : Int} {K : Int → Int} (h : CmpOk w0 B c m K) (hs : Sr w0 W B n f) (x y : Int) (hx : 0 ≤ x ∧ x < m) (hy : 0 ≤ y ∧ y < m) (d : Nat) :
    Calls Try.prog 12 #[.int .i64 x, .int .i64 y, c] (W.drewN d) fun e w' => e = .returned (.int .i64 (cmpv (K x) (K y))) ∧ ∃ q, w' = (W.drewN d).drewN q :=
  h (W.drewN d) hs.far x y hx hy
theorem Sr.drewN {w0 W : World} {B n : Nat} {f : Nat → Int} (h : Sr w0 W B n f) (d : Nat) : Sr w0 (W.drewN d) B n f :=
  h.below ⟨rfl, rfl, rfl, Nat.le_refl _, fun _ _ => rfl⟩
theorem cmpv_neg {x y : Int} (h : x < y) : cmpv x y < 0 := by unfold cmpv; rw [if_pos h]; omega
theorem cmpv_not {x y : Int} (h : ¬ x < y) : ¬ cmpv x y < 0 := by
  unfold cmpv; rw [if_neg h]; split <;> omega
/-- What the inner loop of the insertion holds. -/
structure In (K : Int → Int) (f g : Nat → Int) (a i j : Nat) : Prop where
  pm : Pm a (i + 1) f g
  one : ∀ p q, a ≤ p → p < q → q ≤ i → p ≠ j → q ≠ j → lex K (g p) (g q)
  two : ∀ q, j < q → q ≤ i → lex K (g j) (g q)
  thr : ∀ p, a ≤ p → p ≤ i → p ≠ j → g p < g j
theorem In.start {K : Int → Int} {f g : Nat → Int} {a i b : Nat} (hai : a ≤ i) (hib : i < b) (hI : ∀ p q, a ≤ p → p < q → q < b → f p < f q) (hp : Pm a i f g) (hs : So K g a i) : In K f g a i i := by
  refine ⟨hp.mono (Nat.le_refl _) (by omega), fun p q h1 h2 h3 h4 h5 => hs p q h1 h2 (by omega), fun q h1 h2 => by omega, fun p h1 h2 h3 => ?_⟩
  obtain ⟨l, h4, h5, e⟩ := hp.from p h1 (by omega)
  rw [e, hp.out i (by omega)]
  exact hI l i h4 h5 hib
theorem In.step {K : Int → Int} {f g : Nat → Int} {a i j : Nat} (h : In K f g a i (j + 1)) (haj : a ≤ j) (hji : j + 1 ≤ i) (hk : K (g (j + 1)) < K (g j)) : In K f (sw g (j + 1) j) a i j := by
  refine ⟨h.pm.step (j + 1) j (by omega) (by omega), fun p q h1 h2 h3 h4 h5 => ?_, fun q h1 h2 => ?_, fun p h1 h2 h3 => ?_⟩
  · by_cases e1 : p = j + 1
    · subst e1
      rw [sw_l, sw_o _ _ _ q (by omega) h5]
      exact h.one j q haj (by omega) h3 (by omega) (by omega)
    · by_cases e2 : q = j + 1
      · subst e2
        rw [sw_l, sw_o _ _ _ p e1 h4]
        exact h.one p j h1 (by omega) (by omega) e1 (by omega)
      · rw [sw_o _ _ _ p e1 h4, sw_o _ _ _ q e2 h5]
        exact h.one p q h1 h2 h3 e1 e2
  · rw [sw_r]
    by_cases e1 : q = j + 1
    · subst e1; rw [sw_l]; exact .inl hk
    · rw [sw_o _ _ _ q e1 (by omega)]; exact h.two q (by omega) h2
  · rw [sw_r]
    by_cases e1 : p = j + 1
    · subst e1; rw [sw_l]; exact h.thr j haj (by omega) (by omega)
    · rw [sw_o _ _ _ p e1 h3]; exact h.thr p h1 h2 e1
theorem In.done {K : Int → Int} {f g : Nat → Int} {a i j : Nat} (h : In K f g a i j) (hai : a ≤ i) (haj : a ≤ j) (hji : j ≤ i) (hk : j = a ∨ ¬ K (g j) < K (g (j - 1))) : So K g a (i + 1) := by
  have key : ∀ p, a ≤ p → p < j → lex K (g p) (g j) := by
    intro p h1 h2
    rcases hk with e | e
    · omega
    · have h3 := h.thr (j - 1) (by omega) (by omega) (by omega)
      have l1 : lex K (g (j - 1)) (g j) := by unfold lex; omega
      by_cases e2 : p = j - 1
      · subst e2; exact l1
      · exact (h.one p (j - 1) h1 (by omega) (by omega) (by omega) (by omega)).trans l1
  intro p q h1 h2 h3
  by_cases e1 : q = j
  · subst e1; exact key p h1 h2
  · by_cases e2 : p = j
    · subst e2; exact h.two q h2 (by omega)
    · exact h.one p q h1 h2 (by omega) e2 e1

set_option maxHeartbeats 2000000 in
set_option maxRecDepth 100000 in
theorem ins_calls {w0 W : World} {B N cap : Nat} {f : Nat → Int} (c : Value) (m : Int) (K : Int → Int) (hC : CmpOk w0 B c m K) (h : Sr w0 W B N f) (hN : N ≤ 1000) (hcap : N ≤ cap) (a b : Nat) (hab : a ≤ b) (hb : b ≤ N) (hV : ∀ i, i < N → 0 ≤ f i ∧ f i < m) (hI : ∀ p q, a ≤ p → p < q → q < b → f p < f q) :
    Calls Try.prog 16 #[.slice (some ⟨B, 0, none⟩) N cap, .int .i64 a, .int .i64 b, .func (.func 12) #[] #[c]] W fun e w' => e = .returned (.tuple #[]) ∧ ∃ f', Sr w0 w' B N f' ∧ Pm a b f f' ∧ So K f' a b := by
  have HC := Lib.hid hC
  have HS := Lib.hid h
  have HV := Lib.hid hV
  have HI := Lib.hid hI
  clear hC h hV hI
  go_enter Try.func16, Try.ntmps16
  go_wp2_with fail
  go_loopg [8] (b + 1) (fun kq v8 wr => ∃ (i : Nat) (g : Nat → Int), v8 = .int .i64 i ∧ a + 1 ≤ i ∧ (i ≤ b ∨ i = a + 1) ∧ b + 1 - i ≤ kq ∧ Hid (Sr w0 wr B N g) ∧ Hid (Pm a i f g) ∧ Hid (So K g a i))
  case atStart => exact ⟨a + 1, f, by go_num, Nat.le_refl _, .inr rfl, by omega, HS.out, .refl _, Lib.hid (fun p q h1 h2 h3 => by omega)⟩
  case round =>
    obtain ⟨i, g, rfl, hai, hib, hiq, HS, HP, HO⟩ := hrel
    by_cases hin : i < b
    · have hz1 : (i : Int) < (b : Int) := by omega
      have HI0 := Lib.hid (In.start (by omega) hin HI.out HP.out HO.out)
      clear HP HO
      go_wp2_with fail
      go_loopg [9] (i + 1) (fun kq v9 wr => ∃ (j : Nat) (g : Nat → Int), v9 = .int .i64 j ∧ a ≤ j ∧ j ≤ i ∧ j + 1 ≤ kq ∧ Hid (Sr w0 wr B N g) ∧ Hid (In K f g a i j))
      case atStart => exact ⟨i, g, rfl, by omega, by omega, by omega, HS.out, HI0.out⟩
      case round =>
        obtain ⟨j, g, rfl, haj, hji, hjq, HS, HN⟩ := hrel
        by_cases hja : a < j
        · obtain ⟨jp, rfl⟩ : ∃ jp, j = jp + 1 := ⟨j - 1, by omega⟩
          have hg : decide ((a : Int) < (jp : Int) + 1) = true := decide_eq_true (by omega)
          have hcast : ((jp + 1 : Nat) : Int) = (jp : Int) + 1 := by omega
          rw [hcast]
          clear hcast
          have y0 := HS.out.cell (jp + 1) (by omega)
          have y1 := HS.out.cell jp (by omega)
          have hV' : ∀ p, p < N → 0 ≤ g p ∧ g p < m := by
            intro p hp
            by_cases hpa : a ≤ p ∧ p < i + 1
            · obtain ⟨l, h1, h2, e⟩ := HN.out.pm.from p hpa.1 hpa.2
              rw [e]; exact HV.out l (by omega)
            · rw [HN.out.pm.out p hpa]; exact HV.out p hp
          have cC := fun d => HC.out.at' HS.out (g (jp + 1)) (g jp) (hV' _ (by omega)) (hV' _ (by omega)) d
          have hj0 : (0 : Int) ≤ (jp : Int) := by omega
          have hj1 : (jp : Int) < (N : Int) := by omega
          have hj2 : (jp : Int) + 1 < (N : Int) := by omega
          clear hV'
          by_cases hk : K (g (jp + 1)) < K (g jp)
          · have hv := cmpv_neg hk
            have HK := Lib.hid hk
            clear hk
            generalize cmpv (K (g (jp + 1))) (K (g jp)) = cv at *
            go_wp2_with fail
            go_quiet (exact Calls.quiet_of (cC _))
            have HS5 := Lib.hid (HS.out.drewN nq)
            clear HS y0 y1 cC
            generalize wr.drewN nq = wd at *
            obtain ⟨w1, w2, e1, e2, ⟨y0, y1, y2, y3⟩, ⟨v, y4⟩, y5, HS6⟩ := HS5.out.swap (jp + 1) jp (by omega) (by omega)
            go_wp2_with fail
            go_region
            clear e1 e2 y0 y1 y2 y3 y4 y5 HS5
            go_wp2_with fail
            go_roundg (jp + 1)
            case measure => omega
            case rel => exact ⟨jp, _, by go_num, by omega, by omega, Nat.le_refl _, Lib.hid (HS6.out.below ⟨rfl, rfl, rfl, Nat.le_refl _, fun _ _ => rfl⟩), HN.out.step (by omega) (by omega) HK.out⟩
          · have hv := cmpv_not hk
            have HO5 := Lib.hid (HN.out.done (by omega) (by omega) hji (.inr hk))
            clear hk
            generalize cmpv (K (g (jp + 1))) (K (g jp)) = cv at *
            go_wp2_with fail
            go_quiet (exact Calls.quiet_of (cC _))
            have HS5 := Lib.hid (HS.out.drewN nq)
            clear HS y0 y1 cC
            generalize wr.drewN nq = wd at *
            go_wp2_with fail
            go_roundg (b + 1 - (i + 1))
            case measure => omega
            case rel => exact ⟨i + 1, g, by go_num, by omega, .inl (by omega), Nat.le_refl _, HS5.out, HN.out.pm, HO5.out⟩
        · have hja' : j = a := by omega
          have hg : decide ((a : Int) < (j : Int)) = false := decide_eq_false (by omega)
          have HO5 := Lib.hid (HN.out.done (by omega) (by omega) hji (.inl hja'))
          go_wp2_with fail
          go_quiet (fail)
          have HS5 := Lib.hid (HS.out.drewN nq)
          clear HS
          generalize wr.drewN nq = wd at *
          go_wp2_with fail
          go_roundg (b + 1 - (i + 1))
          case measure => omega
          case rel => exact ⟨i + 1, g, by go_num, by omega, .inl (by omega), Nat.le_refl _, HS5.out, HN.out.pm, HO5.out⟩
    · have hz1 : ¬ (i : Int) < (b : Int) := by omega
      go_wp2_with fail
      go_end0
      refine ⟨rfl, g, HS.out, ?_, ?_⟩
      · rcases hib with hib | hib
        · have e : i = b := by omega
          rw [← e]; exact HP.out
        · by_cases e : i = b
          · rw [← e]; exact HP.out
          · have e2 : b = a := by omega
            have hP : Pm a (a + 1) f g := by rw [← hib]; exact HP.out
            have hg : g = f := by
              funext k
              by_cases hk : k = a
              · subst hk
                obtain ⟨l, h1, h2, e⟩ := hP.from k (by omega) (by omega)
                rw [e, show l = k by omega]
              · exact hP.out k (by omega)
            rw [hg]; exact .refl _
      · intro p q h1 h2 h3
        exact HO.out p q h1 h2 (by omega)
end Go.Proofs.Ytblbfmoipljhdaa
