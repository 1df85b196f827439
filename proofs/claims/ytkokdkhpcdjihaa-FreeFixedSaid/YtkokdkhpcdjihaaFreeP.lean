import Derived.Test.YtkokdkhpcdjihaaFreeA
namespace Go.Proofs.Ytkokdkhpcdjihaa
open Go.Sort Go.RowKit Go.Proofs.YtkokdkhpcdjihaaW.PrintWords Go.Proofs.YtkokdkhpcdjihaaW.PrintLast Go.Proofs.YtkokdkhpcdjihaaW.PrintMore
open QFree

/-- The parts, by a ratio. -/
def shareL (R : Int → Int) : Int → Int → List Int → List Int
  | _, _, [] => []
  | a, l, w :: ws => (R (a + w) - l) :: shareL R (a + w) (R (a + w)) ws
theorem wrap64_id {x : Int} (h1 : -9223372036854775808 ≤ x) (h2 : x ≤ 9223372036854775807) : wrap64 x = x := by
  unfold wrap64; omega
theorem rd_at (l : List Int) (i : Nat) (h : i < l.length) : rd l (i : Int) = l[i] := by simp [rd, h]
theorem share_l1 (R : Int → Int) (n S : Int) (K0 : Nat) (hR : ∀ k, K0 ≤ k → ∀ p, 0 ≤ p → p ≤ S → unit_Ratio.f k n p S = some (R p)) (hB : ∀ p, 0 ≤ p → p ≤ S → -1152921504606846976 ≤ R p ∧ R p ≤ 1152921504606846976)
    (ws : List Int) (hlen : ws.length ≤ 1000) (hw : ∀ w, w ∈ ws → 0 ≤ w) (hS : S = ws.sum) (hS2 : S ≤ 1152921504606846976) :
    ∀ (d k i : Nat) (a l : Int) (out : List Int), ws.length - i = d → i ≤ ws.length → K0 + d < k → 0 ≤ a → a + (ws.drop i).sum = S → out.length = i → -1152921504606846976 ≤ l → l ≤ 1152921504606846976 →
      unit_Share.l1 k n S a l out ws (ws.length : Int) (i : Int) = some (out ++ shareL R a l (ws.drop i)) := by
  intro d
  induction d with
  | zero =>
    intro k i a l out hd hi hk ha hs ho h1 h2
    obtain ⟨k, rfl⟩ : ∃ j, k = j + 1 := ⟨k - 1, by omega⟩
    unfold unit_Share.l1
    have hi2 : i = ws.length := by omega
    subst hi2
    rw [if_neg (by omega)]
    simp [shareL]
  | succ d ih =>
    intro k i a l out hd hi hk ha hs ho h1 h2
    obtain ⟨k, rfl⟩ : ∃ j, k = j + 1 := ⟨k - 1, by omega⟩
    have hil : i < ws.length := by omega
    have hdrop : ws.drop i = ws[i] :: ws.drop (i + 1) := by rw [List.drop_eq_getElem_cons hil]
    have hwi : 0 ≤ ws[i] := hw _ (List.getElem_mem hil)
    have hrest : 0 ≤ (ws.drop (i + 1)).sum := by
      have : ∀ l : List Int, (∀ w, w ∈ l → 0 ≤ w) → 0 ≤ l.sum := by
        intro l
        induction l with
        | nil => intro _; simp
        | cons x l ih2 => intro h; have h1 := h x (by simp); have h2 := ih2 (fun w hw => h w (by simp [hw])); simp; omega
      exact this _ (fun w hw' => hw w (List.mem_of_mem_drop hw'))
    rw [hdrop, List.sum_cons] at hs
    have hb := hB (a + ws[i]) (by omega) (by omega)
    unfold unit_Share.l1
    rw [if_pos (by omega), if_pos (by omega), if_pos (by omega), rd_at ws i hil, wrap64_id (by omega) (by omega), hR k (by omega) _ (by omega) (by omega)]
    simp only [Option.bind_some]
    rw [if_pos (by omega), wrap64_id (x := R (a + ws[i]) - l) (by omega) (by omega), wrap64_id (x := (i : Int) + 1) (by omega) (by omega)]
    have := ih k (i + 1) (a + ws[i]) (R (a + ws[i])) (out ++ [R (a + ws[i]) - l]) (by omega) (by omega) (by omega) (by omega) (by omega) (by simp [ho]) hb.1 hb.2
    rw [show ((i : Int) + 1) = ((i + 1 : Nat) : Int) by omega, this, hdrop]
    simp [shareL]

theorem sum_nonneg : ∀ l : List Int, (∀ w, w ∈ l → 0 ≤ w) → 0 ≤ l.sum := by
  intro l
  induction l with
  | nil => intro _; simp
  | cons x l ih2 => intro h; have h1 := h x (by simp); have h2 := ih2 (fun w hw => h w (by simp [hw])); simp; omega

theorem share_l0 (n : Int) (ws : List Int) (hlen : ws.length ≤ 1000) (hw : ∀ w, w ∈ ws → 0 ≤ w ∧ w ≤ 1125899906842624) :
    ∀ (d k i : Nat) (s : Int), ws.length - i = d → i ≤ ws.length → d < k → -1125899906842624 * 0 ≤ s → s ≤ 1125899906842624 * i →
      unit_Share.l0 k n ws s 0 0 ws (ws.length : Int) (i : Int) = unit_Share.l1 (k - d - 1) n (s + (ws.drop i).sum) 0 0 [] ws (ws.length : Int) 0 := by
  intro d
  induction d with
  | zero =>
    intro k i s hd hi hk h1 h2
    obtain ⟨k, rfl⟩ : ∃ j, k = j + 1 := ⟨k - 1, by omega⟩
    have hi2 : i = ws.length := by omega
    subst hi2
    unfold unit_Share.l0
    rw [if_neg (by omega)]
    simp
  | succ d ih =>
    intro k i s hd hi hk h1 h2
    obtain ⟨k, rfl⟩ : ∃ j, k = j + 1 := ⟨k - 1, by omega⟩
    have hil : i < ws.length := by omega
    have hdrop : ws.drop i = ws[i] :: ws.drop (i + 1) := by rw [List.drop_eq_getElem_cons hil]
    have hwi := hw _ (List.getElem_mem hil)
    unfold unit_Share.l0
    rw [if_pos (by omega), if_pos (by omega), if_pos (by omega), rd_at ws i hil, if_neg (by omega), if_neg (by omega), wrap64_id (x := s + ws[i]) (by omega) (by omega), wrap64_id (x := (i : Int) + 1) (by omega) (by omega),
      show ((i : Int) + 1) = ((i + 1 : Nat) : Int) by omega, ih k (i + 1) (s + ws[i]) (by omega) (by omega) (by omega) (by omega) (by omega), hdrop, List.sum_cons]
    rw [show k - d - 1 = k + 1 - (d + 1) - 1 by omega, show s + ws[i] + (ws.drop (i + 1)).sum = s + (ws[i] + (ws.drop (i + 1)).sum) by omega]

theorem share_eq (R : Int → Int) (n : Int) (K0 : Nat) (ws : List Int) (hn1 : -1152921504606846976 ≤ n) (hn2 : n ≤ 1152921504606846976) (hR : ∀ k, K0 ≤ k → ∀ p, 0 ≤ p → p ≤ ws.sum → unit_Ratio.f k n p ws.sum = some (R p)) (hB : ∀ p, 0 ≤ p → p ≤ ws.sum → -1152921504606846976 ≤ R p ∧ R p ≤ 1152921504606846976)
    (hlen : ws.length ≤ 1000) (hw : ∀ w, w ∈ ws → 0 ≤ w ∧ w ≤ 1125899906842624) (hS2 : ws.sum ≤ 1152921504606846976) (k : Nat) (hk : K0 + 2 * ws.length + 3 < k) :
    unit_Share.f k n ws = some (shareL R 0 0 ws) := by
  obtain ⟨k, rfl⟩ : ∃ j, k = j + 1 := ⟨k - 1, by omega⟩
  unfold unit_Share.f
  rw [if_neg (by omega), if_neg (by omega), decide_eq_false (by omega)]
  rw [show unit_Share.j0 (k + 1) n ws false = unit_Share.l0 k n ws 0 0 0 ws (ws.length : Int) 0 by simp [unit_Share.j0]]
  have h0 := share_l0 n ws hlen hw ws.length k 0 0 (by omega) (by omega) (by omega) (by omega) (by omega)
  simp only [List.drop_zero, Int.zero_add] at h0
  rw [show (0 : Int) = ((0 : Nat) : Int) from rfl] at h0 ⊢
  rw [h0]
  have h1 := share_l1 R n ws.sum K0 hR hB ws hlen (fun w h => (hw w h).1) rfl hS2 ws.length (k - ws.length - 1) 0 0 0 [] (by omega) (by omega) (by omega) (by omega) (by simp) rfl (by omega) (by omega)
  simpa using h1
end Go.Proofs.Ytkokdkhpcdjihaa
