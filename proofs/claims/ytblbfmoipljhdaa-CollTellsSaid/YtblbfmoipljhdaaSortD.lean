import Derived.Test.YtblbfmoipljhdaaSortC
namespace Go.Proofs.Ytblbfmoipljhdaa
open Go.RowKit
set_option linter.unusedVariables false
set_option linter.unusedSimpArgs false

/-- Two rows to be merged: each in order; the left one's items stood ahead. -/
structure Sy (K : Int → Int) (f : Nat → Int) (a m b N : Nat) : Prop where
  am : a < m
  mb : m < b
  bN : b ≤ N
  l : So K f a m
  r : So K f m b
  x : ∀ p q, a ≤ p → p < m → m ≤ q → q < b → f p < f q
section
variable {K : Int → Int} {f g : Nat → Int} {a m b N : Nat}
theorem Sy.yes (h : Sy K f a m b N) {p q : Nat} (hp : a ≤ p ∧ p < m) (hq : m ≤ q ∧ q < b) (hk : K (f q) < K (f p)) : lex K (f q) (f p) := .inl hk
theorem Sy.no (h : Sy K f a m b N) {p q : Nat} (hp : a ≤ p ∧ p < m) (hq : m ≤ q ∧ q < b) (hk : ¬ K (f q) < K (f p)) : lex K (f p) (f q) := by
  have := h.x p q hp.1 hp.2 hq.1 hq.2
  unfold lex; omega
/-- One item on the left. -/
theorem Sy.one (h : Sy K f a m b N) (h1 : m = a + 1) {i : Nat} (hi : m ≤ i ∧ i ≤ b) (lo : ∀ q, m ≤ q → q < i → lex K (f q) (f a)) (hi2 : ∀ q, i ≤ q → q < b → lex K (f a) (f q))
    (g1 : ∀ p, a ≤ p → p < i - 1 → g p = f (p + 1)) (g2 : g (i - 1) = f a) (g3 : ∀ p, i - 1 < p → p < b → g p = f p) : So K g a b := by
  intro p q hp hpq hq
  by_cases e1 : q < i - 1
  · rw [g1 p hp (by omega), g1 q (by omega) e1]
    exact h.r _ _ (by omega) (by omega) (by omega)
  · by_cases e2 : q = i - 1
    · subst e2
      rw [g1 p hp hpq, g2]
      exact lo _ (by omega) (by omega)
    · rw [g3 q (by omega) hq]
      by_cases e3 : p < i - 1
      · rw [g1 p hp e3]
        exact h.r _ _ (by omega) (by omega) hq
      · by_cases e4 : p = i - 1
        · subst e4
          rw [g2]
          exact hi2 q (by omega) hq
        · rw [g3 p (by omega) (by omega)]
          exact h.r p q (by omega) hpq hq
/-- One item on the right. -/
theorem Sy.last (h : Sy K f a m b N) (h1 : b = m + 1) {i : Nat} (hi : a ≤ i ∧ i ≤ m) (lo : ∀ p, a ≤ p → p < i → lex K (f p) (f m)) (hi2 : ∀ p, i ≤ p → p < m → lex K (f m) (f p))
    (g1 : ∀ p, i < p → p ≤ m → g p = f (p - 1)) (g2 : g i = f m) (g3 : ∀ p, a ≤ p → p < i → g p = f p) : So K g a b := by
  intro p q hp hpq hq
  by_cases e1 : i < p
  · rw [g1 p e1 (by omega), g1 q (by omega) (by omega)]
    exact h.l _ _ (by omega) (by omega) (by omega)
  · by_cases e2 : p = i
    · subst e2
      rw [g2, g1 q hpq (by omega)]
      exact hi2 _ (by omega) (by omega)
    · rw [g3 p hp (by omega)]
      by_cases e3 : i < q
      · rw [g1 q e3 (by omega)]
        by_cases e5 : q - 1 = p
        · omega
        · exact h.l _ _ (by omega) (by omega) (by omega)
      · by_cases e4 : q = i
        · subst e4
          rw [g2]
          exact lo p hp (by omega)
        · rw [g3 q (by omega) (by omega)]
          exact h.l p q hp hpq (by omega)
/-- Where the search begins and ends. -/
structure Be (a m b mid s0 r0 : Nat) : Prop where
  half : mid = (a + b) / 2
  ends : (mid < m ∧ s0 + b = mid + m ∧ r0 = mid) ∨ (m ≤ mid ∧ s0 = a ∧ r0 = m)
theorem Be.facts {a m b mid s0 r0 : Nat} (h : Be a m b mid s0 r0) (ham : a < m) (hmb : m < b) : a ≤ s0 ∧ s0 ≤ r0 ∧ r0 ≤ m ∧ r0 ≤ mid ∧ a < mid ∧ mid < b ∧ (∀ c, s0 ≤ c → c < r0 → m ≤ mid + m - 1 - c ∧ mid + m - 1 - c < b ∧ a ≤ c ∧ c < m) := by
  have h1 := h.half
  rcases h.ends with ⟨e1, e2, e3⟩ | ⟨e1, e2, e3⟩
  · refine ⟨by omega, by omega, by omega, by omega, by omega, by omega, fun c h2 h3 => ⟨by omega, by omega, by omega, by omega⟩⟩
  · refine ⟨by omega, by omega, by omega, by omega, by omega, by omega, fun c h2 h3 => ⟨by omega, by omega, by omega, by omega⟩⟩
/-- Behind the search and the turning. -/
structure Tu (K : Int → Int) (g : Nat → Int) (a s mid e b : Nat) : Prop where
  l1 : So K g a s
  r1 : So K g s mid
  x1 : ∀ p q, a ≤ p → p < s → s ≤ q → q < mid → g p < g q
  l2 : So K g mid e
  r2 : So K g e b
  x2 : ∀ p q, mid ≤ p → p < e → e ≤ q → q < b → g p < g q
  c : ∀ p q, a ≤ p → p < mid → mid ≤ q → q < b → lex K (g p) (g q)
theorem Sy.turned (h : Sy K f a m b N) {mid s0 r0 s : Nat} (hb : Be a m b mid s0 r0) (hs : s0 ≤ s ∧ s ≤ r0) (lo : ∀ x, s0 ≤ x → x < s → lex K (f x) (f (mid + m - 1 - x))) (hi : ∀ x, s ≤ x → x < r0 → lex K (f (mid + m - 1 - x)) (f x))
    (hg : ∀ k, g k = rotf f s m (mid + m - s) k) : Tu K g a s mid (mid + m - s) b := by
  obtain ⟨k1, k2, k3, k4, k5, k6, k7⟩ := hb.facts h.am h.mb
  have ham := h.am
  have hmb := h.mb
  have hee : mid + m - s ≤ b ∧ m ≤ mid + m - s ∧ mid ≤ mid + m - s := by
    rcases hb.ends with ⟨e1, e2, e3⟩ | ⟨e1, e2, e3⟩
    · omega
    · have := hb.half; omega
  -- where the items come from
  have q1 : ∀ p, p < s → g p = f p := fun p hp => by rw [hg, rotf, if_neg (by omega)]
  have q2 : ∀ p, s ≤ p → p < mid → g p = f (p - s + m) := fun p h1 h2 => by rw [hg, rotf, if_pos (by omega), if_pos (by omega)]
  have q3 : ∀ p, mid ≤ p → p < mid + m - s → g p = f (p - mid + s) := fun p h1 h2 => by rw [hg, rotf, if_pos (by omega), if_neg (by omega)]; congr 1; omega
  have q4 : ∀ p, mid + m - s ≤ p → g p = f p := fun p hp => by rw [hg, rotf, if_neg (by omega)]
  -- left-low against right-high, right-low against left-high
  have lr : ∀ i j, a ≤ i → i < s → mid + m - s ≤ j → j < b → lex K (f i) (f j) := by
    intro i j h1 h2 h3 h4
    by_cases e : s0 < s
    · have h5 := lo (s - 1) (by omega) (by omega)
      have e1 : mid + m - 1 - (s - 1) = mid + m - s := by omega
      rw [e1] at h5
      have h6 : lex K (f i) (f (mid + m - s)) := by
        by_cases e2 : i = s - 1
        · rw [e2]; exact h5
        · exact (h.l i (s - 1) h1 (by omega) (by omega)).trans h5
      by_cases e3 : j = mid + m - s
      · rw [e3]; exact h6
      · exact h6.trans (h.r _ j (by omega) (by omega) h4)
    · exfalso
      rcases hb.ends with ⟨e1, e2, e3⟩ | ⟨e1, e2, e3⟩ <;> omega
  have rl : ∀ j i, m ≤ j → j < mid + m - s → s ≤ i → i < m → lex K (f j) (f i) := by
    intro j i h1 h2 h3 h4
    by_cases e : s < r0
    · have h5 := hi s (Nat.le_refl _) e
      have h6 : lex K (f j) (f s) := by
        by_cases e2 : j = mid + m - 1 - s
        · rw [e2]; exact h5
        · exact (h.r j _ h1 (by omega) (by omega)).trans h5
      by_cases e3 : i = s
      · rw [e3]; exact h6
      · exact h6.trans (h.l s i (by omega) (by omega) h4)
    · exfalso
      rcases hb.ends with ⟨e1, e2, e3⟩ | ⟨e1, e2, e3⟩ <;> omega
  refine ⟨fun p q h1 h2 h3 => ?_, fun p q h1 h2 h3 => ?_, fun p q h1 h2 h3 h4 => ?_, fun p q h1 h2 h3 => ?_, fun p q h1 h2 h3 => ?_, fun p q h1 h2 h3 h4 => ?_, fun p q h1 h2 h3 h4 => ?_⟩
  · rw [q1 p (by omega), q1 q h3]; exact h.l p q h1 h2 (by omega)
  · rw [q2 p h1 (by omega), q2 q (by omega) h3]; exact h.r _ _ (by omega) (by omega) (by omega)
  · rw [q1 p h2, q2 q h3 h4]; exact h.x _ _ h1 (by omega) (by omega) (by omega)
  · rw [q3 p h1 (by omega), q3 q (by omega) h3]; exact h.l _ _ (by omega) (by omega) (by omega)
  · rw [q4 p h1, q4 q (by omega)]; exact h.r p q (by omega) h2 h3
  · rw [q3 p h1 h2, q4 q h3]; exact h.x _ _ (by omega) (by omega) (by omega) h4
  · by_cases e1 : p < s
    · rw [q1 p e1]
      by_cases e2 : q < mid + m - s
      · rw [q3 q h3 e2]; exact h.l _ _ h1 (by omega) (by omega)
      · rw [q4 q (by omega)]; exact lr p q h1 e1 (by omega) h4
    · rw [q2 p (by omega) h2]
      by_cases e2 : q < mid + m - s
      · rw [q3 q h3 e2]; exact rl _ _ (by omega) (by omega) (by omega) (by omega)
      · rw [q4 q (by omega)]; exact h.r _ _ (by omega) (by omega) h4
/-- Both halves in order. -/
theorem Tu.done {s mid e : Nat} {g1 g2 : Nat → Int} (h : Tu K g a s mid e b) (ham : a ≤ mid) (hmb : mid ≤ b) (p1 : Pm a mid g g1) (s1 : So K g1 a mid) (p2 : Pm mid b g1 g2) (s2 : So K g2 mid b) : So K g2 a b := by
  intro p q h1 h2 h3
  by_cases e1 : q < mid
  · rw [p2.out p (by omega), p2.out q (by omega)]; exact s1 p q h1 h2 e1
  · by_cases e2 : mid ≤ p
    · exact s2 p q e2 h2 h3
    · rw [p2.out p (by omega)]
      obtain ⟨l, h4, h5, e3⟩ := p1.from p h1 (by omega)
      obtain ⟨l', h6, h7, e4⟩ := p2.from q (by omega) h3
      rw [e3, e4, p1.out l' (by omega)]
      exact h.c l l' h4 h5 h6 h7
end
end Go.Proofs.Ytblbfmoipljhdaa
