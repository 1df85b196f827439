import Derived.Test.YtkokdkhpcdjihaaFreeD
import Derived.Test.YtkokdkhpcdjihaaFreeS
namespace Go.Proofs.Ytkokdkhpcdjihaa
open Go.RowKit Go.Proofs.YtkokdkhpcdjihaaW.PrintWords Go.Proofs.YtkokdkhpcdjihaaW.PrintLast Go.Proofs.YtkokdkhpcdjihaaW.PrintMore
open QFree
set_option linter.unusedVariables false
set_option linter.unusedSimpArgs false

theorem shareL_length (R : Int → Int) : ∀ (ws : List Int) (a l : Int), (shareL R a l ws).length = ws.length
  | [], _, _ => rfl
  | w :: ws, a, l => by simp [shareL, shareL_length R ws]
/-- A part of no weight is none; parts lie between 0 and all, where the ratio does not fall. -/
theorem shareL_parts (R : Int → Int) (S : Int) (hR : ∀ p q, 0 ≤ p → p ≤ q → q ≤ S → R p ≤ R q) : ∀ (ws : List Int) (a : Int), 0 ≤ a → (∀ w, w ∈ ws → 0 ≤ w) → a + ws.sum ≤ S →
    ∀ j, j < ws.length → (ws.getD j 0 = 0 → (shareL R a (R a) ws).getD j 0 = 0) ∧ 0 ≤ (shareL R a (R a) ws).getD j 0 ∧ (shareL R a (R a) ws).getD j 0 ≤ R S - R a
  | [], _, _, _, _, j, hj => by simp at hj
  | w :: ws, a, ha, hw, hs, j, hj => by
    have h0 : 0 ≤ w := hw w (by simp)
    have hws : 0 ≤ ws.sum := sum_nonneg ws (fun x hx => hw x (by simp [hx]))
    rw [List.sum_cons] at hs
    have m1 := hR a (a + w) ha (by omega) (by omega)
    have m2 := hR (a + w) S (by omega) (by omega) (by omega)
    cases j with
    | zero =>
      refine ⟨fun h => ?_, ?_, ?_⟩
      · have hw0 : w = 0 := by simpa using h
        subst hw0
        simp [shareL]
      · simp [shareL]; omega
      · simp [shareL]; omega
    | succ j =>
      have ih := shareL_parts R S hR ws (a + w) (by omega) (fun x hx => hw x (by simp [hx])) (by omega) j (by simpa using hj)
      simp only [shareL, List.getD_cons_succ]
      exact ⟨ih.1, ih.2.1, by omega⟩

/-- An item of the law: without bounds, or just so great. -/
def small (x : S26) : Prop := (0 ≤ x.f0 ∧ x.f0 ≤ 255) ∧ x.f5 = 0 ∧ x.f4 = 0 ∧ (0 ≤ x.f3 ∧ x.f3 ≤ 3) ∧ ((x.f1 = 0 ∧ x.f2 = -1) ∨ (x.f3 = 0 ∧ x.f1 = x.f0 ∧ x.f2 = x.f0))
theorem small_ok {x : S26} (h : small x) : itOk x := by unfold small at h; unfold itOk; omega
theorem small_hyp {x : S26} (h : small x) : hyp0 x = x.f0 := by
  unfold small at h
  unfold hyp0 clamp0 free_clamp.f mx mn
  (repeat' split) <;> simp <;> omega
theorem small_clamp {x : S26} (h : small x) (n : Int) (h3 : x.f3 ≠ 0) (hn : x.f0 ≤ n) : clamp0 x n = n := by
  unfold small at h
  unfold clamp0 free_clamp.f mx mn
  (repeat' split) <;> simp <;> omega
theorem small_fx {x : S26} (h : small x) : fx0 true x = (x.f3 == 0) := by
  unfold fx0
  rw [small_hyp h]
  simp

theorem getD_snoc_lt {α : Type} (l : List α) (x d : α) (j : Nat) (h : j < l.length) : (l ++ [x]).getD j d = l.getD j d := by simp [List.getElem?_append, h]
theorem getD_snoc_eq {α : Type} (l : List α) (x d : α) : (l ++ [x]).getD l.length d = x := by simp
theorem hyT_get (xs : List S26) (k j : Nat) (hj : j < k) : (hyT xs k).getD j 0 = hyp0 (xs.getD j z26) := by
  induction k with
  | zero => omega
  | succ k ih =>
    simp only [hyT]
    by_cases e : j < k
    · rw [getD_snoc_lt _ _ _ _ (by rw [hyT_length]; exact e)]; exact ih e
    · have e2 : j = k := by omega
      subst e2
      have := getD_snoc_eq (hyT xs j) (hyp0 (xs.getD j z26)) 0
      rw [hyT_length] at this
      exact this
theorem fxT_get (gr : Bool) (xs : List S26) (k j : Nat) (hk : k ≤ xs.length) (hj : j < k) : (fxT gr xs k).getD j false = fx0 gr (xs.getD j z26) := by
  induction k with
  | zero => omega
  | succ k ih =>
    simp only [fxT]
    rw [getD_set, fxT_length]
    by_cases e : k = j
    · subst e; rw [if_pos ⟨rfl, by omega⟩]
    · rw [if_neg (fun h => e h.1)]; exact ih (by omega) (by omega)
theorem take_sum_succ (f : S26 → Int) (xs : List S26) (k : Nat) (h : k < xs.length) : ((xs.take (k + 1)).map f).sum = ((xs.take k).map f).sum + f (xs.getD k z26) := by
  rw [List.take_succ_eq_append_getElem h, List.map_append, List.sum_append]
  simp [h]
theorem take_sum_bound (f : S26 → Int) (b : Int) (hb : 0 ≤ b) (xs : List S26) (hx : ∀ x, x ∈ xs → 0 ≤ f x ∧ f x ≤ b) (k : Nat) (hk : k ≤ xs.length) : 0 ≤ ((xs.take k).map f).sum ∧ ((xs.take k).map f).sum ≤ b * k := by
  induction k with
  | zero => simp
  | succ k ih =>
    have ih := ih (by omega)
    rw [take_sum_succ f xs k (by omega)]
    have h1 := hx (xs.getD k z26) (by simp [show k < xs.length by omega])
    have : b * ((k + 1 : Nat) : Int) = b * k + b := by rw [Int.natCast_add, Int.mul_add]; simp
    omega
theorem small_at {xs : List S26} (hx : ∀ x, x ∈ xs → small x) (j : Nat) (hj : j < xs.length) : small (xs.getD j z26) := hx _ (by simp [hj])
theorem smH_small (xs : List S26) (hx : ∀ x, x ∈ xs → small x) (hn : xs.length ≤ 9) (k : Nat) (hk : k ≤ xs.length) : smH xs k = ((xs.take k).map (·.f0)).sum := by
  induction k with
  | zero => rfl
  | succ k ih =>
    have hs := small_at hx k (by omega)
    have hb := take_sum_bound (·.f0) 255 (by omega) xs (fun x h => (hx x h).1) k (by omega)
    simp only [smH]
    rw [ih (by omega), take_sum_succ _ _ _ (by omega), small_hyp hs]
    unfold small at hs
    rw [wrap64_id (x := (xs.getD k z26).f0 + (xs.getD k z26).f5) (by omega) (by omega), wrap64_id (by omega) (by omega)]
    omega
/-- The room that is left, where each item costs c. -/
theorem accP_cost (xs : List S26) (sz : List Int) (fz : List Bool) (inner : Int) (c : Nat → Int) (hi : -1000000000 ≤ inner ∧ inner ≤ 1000000000) (k : Nat) (hk : k ≤ 9)
    (h5 : ∀ j, j < k → (xs.getD j z26).f5 = 0) (hc : ∀ j, j < k → (if fz.getD j false then sz.getD j 0 else (xs.getD j z26).f0) = c j) (hb : ∀ j, j < k → 0 ≤ c j ∧ c j ≤ 100000) :
    ∃ s : Int, accP xs sz fz inner k = inner - s ∧ 0 ≤ s ∧ s ≤ 100000 * k ∧ s = ((List.range k).map c).sum := by
  induction k with
  | zero => exact ⟨0, by simp [accP]⟩
  | succ k ih =>
    obtain ⟨s, e, h1, h2, h3⟩ := ih (by omega) (fun j hj => h5 j (by omega)) (fun j hj => hc j (by omega)) (fun j hj => hb j (by omega))
    have b := hb k (by omega)
    have e5 := h5 k (by omega)
    have ec := hc k (by omega)
    refine ⟨s + c k, ?_, by omega, by omega, ?_⟩
    · by_cases hf : fz.getD k false = true
      · rw [if_pos hf] at ec
        rw [accP_t hf, e, e5, ec, wrap64_id (x := inner - s - 0) (by omega) (by omega), wrap64_id (by omega) (by omega)]; omega
      · rw [if_neg hf] at ec
        rw [accP_f (by simpa using hf), e, e5, ec, wrap64_id (x := inner - s - 0) (by omega) (by omega), wrap64_id (by omega) (by omega)]; omega
    · rw [List.range_succ, List.map_append, List.sum_append, ← h3]; simp
theorem range_sum (xs : List S26) (k : Nat) (hk : k ≤ xs.length) : ((List.range k).map (fun j => (xs.getD j z26).f0)).sum = ((xs.take k).map (·.f0)).sum := by
  induction k with
  | zero => rfl
  | succ k ih => rw [List.range_succ, List.map_append, List.sum_append, take_sum_succ _ _ _ (by omega), ih (by omega)]; simp
theorem wts_eq (gr : Bool) (xs : List S26) (fz : List Bool) (g : S26 → Int) (k : Nat) (hk : k ≤ xs.length) (h : ∀ j, j < k → (if fz.getD j false then 0 else wt0 gr (xs.getD j z26)) = g (xs.getD j z26)) : wts gr xs fz k = (xs.take k).map g := by
  induction k with
  | zero => rfl
  | succ k ih =>
    have e := h k (by omega)
    rw [List.take_succ_eq_append_getElem (by omega), List.map_append, ← ih (by omega) (fun j hj => h j (by omega))]
    have hg : xs.getD k z26 = xs[k] := by simp [show k < xs.length by omega]
    by_cases hf : fz.getD k false = true
    · rw [wts_t hf]; rw [if_pos hf, hg] at e; simp [e]
    · rw [wts_f (by simpa using hf)]; rw [if_neg hf, hg] at e; rw [hg, e]; rfl

/-- The ratio at small numbers. -/
def ratS (m S p : Int) : Int := if S = 0 then 0 else m * p / S
theorem ratS_mono (m S : Int) (hm : 0 ≤ m) (hS : 0 ≤ S) (p q : Int) (hp : 0 ≤ p) (hq : p ≤ q) : ratS m S p ≤ ratS m S q := by
  unfold ratS
  split
  · exact Int.le_refl _
  · exact Int.ediv_le_ediv (by omega) (Int.mul_le_mul_of_nonneg_left hq hm)
theorem ratS_top (m S : Int) (hm : 0 ≤ m) (hS : 0 ≤ S) : 0 ≤ ratS m S S ∧ ratS m S S ≤ m := by
  unfold ratS
  split
  · omega
  · rw [Int.mul_ediv_cancel _ (by omega)]; omega
theorem ratS_zero (m S : Int) : ratS m S 0 = 0 := by unfold ratS; split <;> simp
theorem share_small (m : Int) (ws : List Int) (hm : 0 ≤ m) (hm2 : m ≤ 1000000) (hw : ∀ w, w ∈ ws → 0 ≤ w ∧ w ≤ 100) (hl : ws.length ≤ 9) (k : Nat) (hk : 100 ≤ k) :
    unit_Share.f k m ws = some (shareL (ratS m ws.sum) 0 (ratS m ws.sum 0) ws) := by
  have hs0 := sum_nonneg ws (fun w h => (hw w h).1)
  have hs1 : ws.sum ≤ 100 * ws.length := by
    clear hl hk hs0
    induction ws with
    | nil => simp
    | cons w ws ih =>
      have h1 := hw w (by simp)
      have h2 := ih (fun x hx => hw x (by simp [hx]))
      rw [List.sum_cons, List.length_cons]; omega
  rw [ratS_zero]
  refine share_eq (ratS m ws.sum) m 2 ws (by omega) (by omega) ?_ ?_ (by omega) (fun w h => ⟨(hw w h).1, by have := (hw w h).2; omega⟩) (by omega) k (by omega)
  · intro k hk p hp hp2
    unfold ratS
    by_cases e : ws.sum = 0
    · rw [if_pos e, e]; exact ratio_zero k (by omega) m p
    · rw [if_neg e]; exact ratio_small k hk m p ws.sum hm (by omega) hp hp2 (by omega) (by omega)
  · intro p hp hp2
    have h1 := ratS_mono m ws.sum hm hs0 0 p (by omega) hp
    have h2 := ratS_mono m ws.sum hm hs0 p ws.sum hp hp2
    have h3 := ratS_top m ws.sum hm hs0
    rw [ratS_zero] at h1
    omega
end Go.Proofs.Ytkokdkhpcdjihaa
