import Derived.Test.YtkokdkhpcdjihaaFreeU
namespace Go.Proofs.Ytkokdkhpcdjihaa
open Go.RowKit Go.Proofs.YtkokdkhpcdjihaaW.PrintWords Go.Proofs.YtkokdkhpcdjihaaW.PrintLast Go.Proofs.YtkokdkhpcdjihaaW.PrintMore
open QFree
set_option linter.unusedVariables false
set_option linter.unusedSimpArgs false

theorem ext_getD {α : Type} (d : α) (l m : List α) (hl : l.length = m.length) (h : ∀ j, j < l.length → l.getD j d = m.getD j d) : l = m := by
  apply List.ext_getElem hl
  intro j h1 h2
  have := h j h1
  simpa [h1, h2] using this
/-- The parts of items that grow. -/
def partsL (m : Int) (xs : List S26) : List Int := shareL (ratS m (xs.map (·.f3)).sum) 0 (ratS m (xs.map (·.f3)).sum 0) (xs.map (·.f3))
theorem partsL_length (m : Int) (xs : List S26) : (partsL m xs).length = xs.length := by unfold partsL; rw [shareL_length, List.length_map]
theorem map_sum_take (xs : List S26) (f : S26 → Int) : ((xs.take xs.length).map f).sum = (xs.map f).sum := by rw [List.take_length]
theorem partsL_at (m : Int) (hm : 0 ≤ m) (xs : List S26) (hx : ∀ x, x ∈ xs → small x) (j : Nat) (hj : j < xs.length) :
    ((xs.getD j z26).f3 = 0 → (partsL m xs).getD j 0 = 0) ∧ 0 ≤ (partsL m xs).getD j 0 ∧ (partsL m xs).getD j 0 ≤ m := by
  have hw : ∀ w, w ∈ xs.map (·.f3) → 0 ≤ w := by
    intro w hw
    obtain ⟨x, h1, rfl⟩ := List.mem_map.1 hw
    exact (hx x h1).2.2.2.1.1
  have hs := sum_nonneg _ hw
  have h := shareL_parts (ratS m (xs.map (·.f3)).sum) (xs.map (·.f3)).sum (fun p q h1 h2 _ => ratS_mono m _ hm hs p q h1 h2) (xs.map (·.f3)) 0 (by omega) hw (by omega) j (by simpa using hj)
  have ht := ratS_top m _ hm hs
  rw [ratS_zero] at h
  unfold partsL
  rw [ratS_zero]
  refine ⟨fun h3 => h.1 ?_, h.2.1, by omega⟩
  have : xs.getD j z26 = xs[j] := by simp [hj]
  rw [this] at h3
  simp [hj, h3]
theorem resolve_small (xs : List S26) (hx : ∀ x, x ∈ xs → small x) (hn : xs.length ≤ 9) (m : Int) (h1 : 1 ≤ m) (h2 : m ≤ 4096) (k : Nat) (hk : 200 ≤ k) :
    free_Resolve.f k xs ((xs.map (·.f0)).sum + m) = some (List.zipWith (fun x s => x.f0 + s) xs (partsL m xs)) := by
  have hB := take_sum_bound (·.f0) 255 (by omega) xs (fun x h => (hx x h).1) xs.length (Nat.le_refl _)
  rw [map_sum_take] at hB
  have hok : okB xs = true := by
    unfold okB
    rw [Bool.and_eq_true, List.all_eq_true]
    exact ⟨fun x h => decide_eq_true (small_ok (hx x h)), decide_eq_true (by omega)⟩
  unfold free_Resolve.f
  rw [ok_eq xs (by omega) k (by omega), hok]
  simp only [Option.bind_some]
  rw [if_neg (by simp), if_neg (by omega), if_neg (by omega)]
  by_cases h0 : xs.length = 0
  · rw [if_pos h0]
    have : xs = [] := List.length_eq_zero_iff.1 h0
    subst this
    rfl
  rw [if_neg h0]
  have hsm := smH_small xs hx hn xs.length (Nat.le_refl _)
  rw [map_sum_take] at hsm
  rw [hsm, decide_eq_true (show (xs.map (·.f0)).sum < (xs.map (·.f0)).sum + m by omega)]
  generalize hinner : (xs.map (·.f0)).sum + m = inner
  have hfx : ∀ j, j < xs.length → (fxT true xs xs.length).getD j false = ((xs.getD j z26).f3 == 0) := fun j hj => by rw [fxT_get true xs _ _ (Nat.le_refl _) hj, small_fx (small_at hx j hj)]
  have hhy : ∀ j, j < xs.length → (hyT xs xs.length).getD j 0 = (xs.getD j z26).f0 := fun j hj => by rw [hyT_get _ _ _ hj, small_hyp (small_at hx j hj)]
  have hws : ∀ w, w ∈ xs.map (·.f3) → 0 ≤ w ∧ w ≤ 100 := by
    intro w hw
    obtain ⟨x, h1, rfl⟩ := List.mem_map.1 hw
    have := (hx x h1).2.2.2.1
    omega
  -- the first turn
  have hacc : accP xs (hyT xs xs.length) (fxT true xs xs.length) inner xs.length = m := by
    obtain ⟨s, e, _, _, hs⟩ := accP_cost xs (hyT xs xs.length) (fxT true xs xs.length) inner (fun j => (xs.getD j z26).f0) (by omega) xs.length hn (fun j hj => (small_at hx j hj).2.1)
      (fun j hj => by rw [hhy j hj]; split <;> rfl) (fun j hj => by have := (small_at hx j hj).1; omega)
    rw [range_sum xs _ (Nat.le_refl _), map_sum_take] at hs
    rw [e, hs, ← hinner]; omega
  have hwt : wts true xs (fxT true xs xs.length) xs.length = xs.map (·.f3) := by
    rw [wts_eq true xs _ (·.f3) xs.length (Nat.le_refl _) ?_, List.take_length]
    intro j hj
    rw [hfx j hj]
    by_cases e : (xs.getD j z26).f3 = 0
    · rw [if_pos (by rw [e]; rfl), e]
    · rw [if_neg (by simpa using e)]; rfl
  have hsh : unit_Share.f k (if true != decide (0 < accP xs (hyT xs xs.length) (fxT true xs xs.length) inner xs.length) then 0 else accP xs (hyT xs xs.length) (fxT true xs xs.length) inner xs.length) (wts true xs (fxT true xs xs.length) xs.length) = some (partsL m xs) := by
    rw [hacc, hwt, decide_eq_true (show 0 < m by omega), if_neg (by simp)]
    exact share_small m _ (by omega) (by omega) hws (by rw [List.length_map]; exact hn) k (by omega)
  have hP : ∀ j, j < xs.length → ((xs.getD j z26).f3 = 0 → (partsL m xs).getD j 0 = 0) ∧ 0 ≤ (partsL m xs).getD j 0 ∧ (partsL m xs).getD j 0 ≤ m := fun j hj => partsL_at m (by omega) xs hx j hj
  have htN : ∀ j, j < xs.length → tN (xs.getD j z26) ((partsL m xs).getD j 0) = (xs.getD j z26).f0 + (partsL m xs).getD j 0 := fun j hj => by
    have := hP j hj
    have := (small_at hx j hj).1
    unfold tN
    exact wrap64_id (by omega) (by omega)
  have hcl : ∀ j, j < xs.length → (fxT true xs xs.length).getD j false = false → clamp0 (xs.getD j z26) (tN (xs.getD j z26) ((partsL m xs).getD j 0)) = tN (xs.getD j z26) ((partsL m xs).getD j 0) := fun j hj hf => by
    rw [hfx j hj] at hf
    rw [htN j hj]
    exact small_clamp (small_at hx j hj) _ (by simpa using hf) (by have := (hP j hj).2.1; omega)
  generalize hz : szT xs (fxT true xs xs.length) (partsL m xs) (hyT xs xs.length) xs.length = sz2
  have hz2 : ∀ j, j < xs.length → sz2.getD j 0 = (xs.getD j z26).f0 + (partsL m xs).getD j 0 := fun j hj => by
    rw [← hz, szT_get xs _ _ _ (hyT_length _ _) _ _ (Nat.le_refl _) hj]
    by_cases e : (fxT true xs xs.length).getD j false = false
    · rw [if_pos ⟨hj, e⟩, hcl j hj e, htN j hj]
    · rw [if_neg (fun h => e h.2), hhy j hj]
      have e2 : (xs.getD j z26).f3 = 0 := by rw [hfx j hj] at e; simpa using e
      rw [(hP j hj).1 e2]; omega
  have hzl : sz2.length = xs.length := by rw [← hz, szT_length, hyT_length]
  have hres : sz2 = List.zipWith (fun x s => x.f0 + s) xs (partsL m xs) := by
    apply ext_getD 0
    · rw [hzl, List.length_zipWith, partsL_length]; omega
    · intro j hj
      rw [hzl] at hj
      rw [hz2 j hj]
      have : j < (partsL m xs).length := by rw [partsL_length]; exact hj
      simp [hj, this, List.getElem?_zipWith]
  rw [← hres]
  obtain ⟨k', rfl⟩ : ∃ j, k = j + 2 := ⟨k - 2, by omega⟩
  rw [runT, hsh]
  simp only [partsL_length, if_true]
  rw [hz]
  by_cases hm : mrT (fxT true xs xs.length) xs.length = true
  · rw [if_pos hm]
    have hsum : smT xs (fxT true xs xs.length) (partsL m xs) xs.length = 0 := smT_zero _ _ _ _ hcl
    rw [hsum]
    generalize hf2 : fzT 0 (wrT xs (fxT true xs xs.length) (partsL m xs) xs.length) (fxT true xs xs.length) xs.length = fz2
    have hfz : ∀ j, j < xs.length → fz2.getD j false = true := fun j hj => by
      rw [← hf2, fzT_get _ _ _ _ _ (by rw [fxT_length]; exact Nat.le_refl _) (by rw [fxT_length]; exact hj), if_pos hj]
      simp [fzN]
    obtain ⟨s, e, hs0, hs1, _⟩ := accP_cost xs sz2 fz2 inner (fun j => (xs.getD j z26).f0 + (partsL m xs).getD j 0) (by omega) xs.length hn (fun j hj => (small_at hx j hj).2.1)
      (fun j hj => by rw [if_pos (hfz j hj), hz2 j hj]) (fun j hj => by have := (small_at hx j hj).1; have := hP j hj; omega)
    have hwt2 : wts true xs fz2 xs.length = xs.map (fun _ => 0) := by
      rw [wts_eq true xs _ (fun _ => 0) xs.length (Nat.le_refl _) ?_, List.take_length]
      intro j hj
      rw [if_pos (hfz j hj)]
    have hN : ∃ N : Int, 0 ≤ N ∧ N ≤ 1000000 ∧ (if true != decide (0 < accP xs sz2 fz2 inner xs.length) then 0 else accP xs sz2 fz2 inner xs.length) = N := by
      by_cases hp : 0 < accP xs sz2 fz2 inner xs.length
      · refine ⟨accP xs sz2 fz2 inner xs.length, by omega, by omega, ?_⟩
        rw [decide_eq_true hp, if_neg (by simp)]
      · refine ⟨0, by omega, by omega, ?_⟩
        rw [decide_eq_false hp, if_pos (by simp)]
    obtain ⟨N, hN0, hN1, hN⟩ := hN
    have hsh2 := share_small N (xs.map (fun _ => (0 : Int))) hN0 hN1 (by intro w hw; obtain ⟨x, _, rfl⟩ := List.mem_map.1 hw; omega) (by rw [List.length_map]; exact hn) (k' + 2) (by omega)
    rw [runT, hN, hwt2, hsh2]
    have hl : (shareL (ratS N (xs.map (fun _ => (0 : Int))).sum) 0 (ratS N (xs.map (fun _ => (0 : Int))).sum 0) (xs.map (fun _ => (0 : Int)))).length = xs.length := by rw [shareL_length, List.length_map]
    generalize shareL (ratS N (xs.map (fun _ => (0 : Int))).sum) 0 (ratS N (xs.map (fun _ => (0 : Int))).sum 0) (xs.map (fun _ => (0 : Int))) = P2 at hl
    simp only [hl, if_true]
    have hm2 : ¬ mrT fz2 xs.length = true := by
      rw [mrT_iff]
      rintro ⟨j, hj, h⟩
      rw [hfz j hj] at h; cases h
    rw [if_neg hm2]
    congr 1
    apply ext_getD 0
    · rw [szT_length]
    · intro j hj
      rw [szT_length, hzl] at hj
      rw [szT_get xs _ _ _ hzl _ _ (Nat.le_refl _) hj, if_neg]
      rintro ⟨_, h⟩
      rw [hfz j hj] at h; cases h
  · rw [if_neg hm]
end Go.Proofs.Ytkokdkhpcdjihaa
