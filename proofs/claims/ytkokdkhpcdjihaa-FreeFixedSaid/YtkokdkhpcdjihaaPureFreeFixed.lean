/-
FreeFixed: an item without a factor is as great as it was, whatever there is of room; the others share what is left as if there were so much less room. For every input, no condition.
-/
import Derived.Test.YtkokdkhpcdjihaaQFreex5
import Derived.Test.YtkokdkhpcdjihaaFreeV
namespace Go.Proofs.Ytkokdkhpcdjihaa.Pure
open Go.RowKit Go.Proofs.Ytkokdkhpcdjihaa.QFree Go.Proofs.YtkokdkhpcdjihaaW.PrintWords Go.Proofs.YtkokdkhpcdjihaaW.PrintLast Go.Proofs.YtkokdkhpcdjihaaW.PrintMore
open Go.Proofs.Ytkokdkhpcdjihaa

theorem and_mask (n : Int) (k : Nat) (hk : k < 63) : Go.bits .and .i64 n ((2 ^ k - 1 : Nat) : Int) = n % ((2 ^ k : Nat) : Int) := by
  have hp : (2 ^ k : Nat) ≤ 2 ^ 62 := Nat.pow_le_pow_right (by omega) (by omega)
  have hp0 : 0 < (2 ^ k : Nat) := Nat.two_pow_pos k
  have hd : ((2 ^ k : Nat) : Int) ∣ ((2 ^ 64 : Nat) : Int) := Int.natCast_dvd_natCast.2 (Nat.pow_dvd_pow 2 (by omega))
  have hm : (BitVec.ofInt 64 ((2 ^ k - 1 : Nat) : Int)).toNat = 2 ^ k - 1 := by
    rw [BitVec.toNat_ofInt]
    generalize (2 ^ k : Nat) = q at *
    omega
  have key : (BitVec.ofInt 64 n &&& BitVec.ofInt 64 ((2 ^ k - 1 : Nat) : Int)).toNat = (n % ((2 ^ 64 : Nat) : Int)).toNat % 2 ^ k := by
    rw [BitVec.toNat_and, BitVec.toNat_ofInt, hm, Nat.and_two_pow_sub_one_eq_mod]
  show IntKind.i64.wrap ((BitVec.ofInt 64 n &&& BitVec.ofInt 64 ((2 ^ k - 1 : Nat) : Int)).toNat : Nat) = _
  rw [key, IntKind.wrap_i64]
  have h1 : (((n % ((2 ^ 64 : Nat) : Int)).toNat % 2 ^ k : Nat) : Int) = n % ((2 ^ k : Nat) : Int) := by
    rw [Int.natCast_emod, Int.toNat_of_nonneg (Int.emod_nonneg _ (by decide)), Int.emod_emod_of_dvd _ hd]
  rw [h1]
  have h2 := Int.emod_nonneg n (b := ((2 ^ k : Nat) : Int)) (by omega)
  have h3 := Int.emod_lt_of_pos n (b := ((2 ^ k : Nat) : Int)) (by omega)
  generalize n % ((2 ^ k : Nat) : Int) = r at *
  generalize (2 ^ k : Nat) = q at *
  omega
theorem and_3 (n : Int) : Go.bits .and .i64 n 3 = n % 4 := and_mask n 2 (by decide)
theorem and_255 (n : Int) : Go.bits .and .i64 n 255 = n % 256 := and_mask n 8 (by decide)
theorem and_4095 (n : Int) : Go.bits .and .i64 n 4095 = n % 4096 := and_mask n 12 (by decide)

def itm (z : Int) : S26 := ⟨z % 256, 0, -1, z / 256 % 4, 0, 0⟩
def itF (l : List Int) : List S26 := (l.take 8).map itm
theorem itF_length (l : List Int) : (itF l).length = min l.length 8 := by unfold itF; rw [List.length_map, List.length_take]; exact Nat.min_comm _ _
theorem itm_small (z : Int) : small (itm z) := ⟨⟨by show 0 ≤ z % 256; omega, by show z % 256 ≤ 255; omega⟩, rfl, rfl, ⟨by show 0 ≤ z / 256 % 4; omega, by show z / 256 % 4 ≤ 3; omega⟩, .inl ⟨rfl, rfl⟩⟩
theorem loop (l : List Int) (a1 a2 a3 : Int) : ∀ (d i k : Nat), min l.length 8 - i = d → i ≤ min l.length 8 → d < k →
    quoinlaw18_FreeFixed.l0 k l a1 a2 a3 ((itF l).take i) (((itF l).take i).map (·.f0)).sum (i : Int) = quoinlaw18_FreeFixed.j1 (k - d - 1) a1 a2 a3 (itF l) ((itF l).map (·.f0)).sum := by
  intro d
  induction d with
  | zero =>
    intro i k hd hi hk
    obtain ⟨k, rfl⟩ : ∃ j, k = j + 1 := ⟨k - 1, by omega⟩
    have e : i = (itF l).length := by rw [itF_length]; omega
    have et : (itF l).take i = itF l := by rw [e, List.take_length]
    rw [et]
    unfold quoinlaw18_FreeFixed.l0
    by_cases h : (i : Int) < l.length
    · rw [if_pos h, if_neg (by omega)]; rfl
    · rw [if_neg h]; rfl
  | succ d ih =>
    intro i k hd hi hk
    obtain ⟨k, rfl⟩ : ∃ j, k = j + 1 := ⟨k - 1, by omega⟩
    have hb := take_sum_bound (·.f0) 255 (by omega) (itF l) (fun x h => by
      obtain ⟨z, _, rfl⟩ := List.mem_map.1 h
      exact (itm_small z).1) i (by rw [itF_length]; omega)
    have hrd : rd l (i : Int) = l[i]'(by omega) := by simp [rd, show i < l.length by omega]
    have hit : (itF l)[i]'(by rw [itF_length]; omega) = itm (l[i]'(by omega)) := by simp [itF]
    have hgd : (itF l).getD i z26 = itm (l[i]'(by omega)) := by rw [← hit]; simp [show i < (itF l).length by rw [itF_length]; omega]
    unfold quoinlaw18_FreeFixed.l0
    rw [if_pos (by omega), if_pos (by omega), if_pos (by omega)]
    simp only [Option.bind_some]
    rw [if_pos (by rw [List.length_take, itF_length]; simp; omega), hrd, and_255, and_3]
    have e1 : (itF l).take i ++ [⟨l[i]'(by omega) % 256, 0, -1, l[i]'(by omega) / 256 % 4, 0, 0⟩] = (itF l).take (i + 1) := by
      rw [List.take_succ_eq_append_getElem (by rw [itF_length]; omega), hit]; rfl
    have e2 : wrap64 ((((itF l).take i).map (·.f0)).sum + l[i]'(by omega) % 256) = (((itF l).take (i + 1)).map (·.f0)).sum := by
      rw [take_sum_succ _ _ _ (by rw [itF_length]; omega), hgd, wrap64_id (by omega) (by omega)]; rfl
    rw [e1, e2, wrap64_id (x := (i : Int) + 1) (by omega) (by omega), show ((i : Int) + 1) = ((i + 1 : Nat) : Int) by omega, ih (i + 1) k (by omega) (by omega) (by omega)]
    rw [show k - d - 1 = k + 1 - (d + 1) - 1 by omega]
theorem same_from (l : List Int) (hn : l.length ≤ 1000) : ∀ (d i k : Nat), l.length - i = d → i ≤ l.length → d < k → quoinlaw16_Same.l0 k l l (i : Int) = some true := by
  intro d
  induction d with
  | zero =>
    intro i k hd hi hk
    obtain ⟨k, rfl⟩ : ∃ j, k = j + 1 := ⟨k - 1, by omega⟩
    unfold quoinlaw16_Same.l0
    rw [if_neg (by omega)]
  | succ d ih =>
    intro i k hd hi hk
    obtain ⟨k, rfl⟩ : ∃ j, k = j + 1 := ⟨k - 1, by omega⟩
    unfold quoinlaw16_Same.l0
    rw [if_pos (by omega), if_pos (by omega), if_pos (by omega), if_pos rfl, wrap64_id (by omega) (by omega)]
    exact ih (i + 1) k (by omega) (by omega) (by omega)
theorem same_refl (l : List Int) (hn : l.length ≤ 1000) (k : Nat) (hk : l.length < k) : quoinlaw16_Same.f k l l = some true := by
  unfold quoinlaw16_Same.f
  rw [if_pos rfl]
  exact same_from l hn l.length 0 k (by omega) (by omega) hk
theorem shareL_append (R : Int → Int) : ∀ (u v : List Int) (a : Int), shareL R a (R a) (u ++ v) = shareL R a (R a) u ++ shareL R (a + u.sum) (R (a + u.sum)) v
  | [], v, a => by simp [shareL]
  | w :: u, v, a => by
    simp only [List.cons_append, shareL, List.sum_cons]
    rw [shareL_append R u v (a + w), show a + w + u.sum = a + (w + u.sum) by omega]

theorem insert_parts (m : Int) (F : List S26) (t : Nat) (fx : Int) (htl : t ≤ F.length) : partsL m (F.take t ++ [(⟨fx, fx, fx, 0, 0, 0⟩ : S26)] ++ F.drop t) = (partsL m F).take t ++ 0 :: (partsL m F).drop t := by
  have hG3 : ((F.take t ++ [(⟨fx, fx, fx, 0, 0, 0⟩ : S26)] ++ F.drop t).map (·.f3)).sum = (F.map (·.f3)).sum := by
    have hsplit : (F.map (·.f3)).sum = ((F.take t).map (·.f3)).sum + ((F.drop t).map (·.f3)).sum := by
      rw [← List.sum_append, ← List.map_append, List.take_append_drop]
    rw [hsplit]; simp
  unfold partsL
  rw [hG3]
  generalize ratS m (F.map (·.f3)).sum = R
  have e1 : (F.take t ++ [(⟨fx, fx, fx, 0, 0, 0⟩ : S26)] ++ F.drop t).map (·.f3) = (F.take t).map (·.f3) ++ (0 :: (F.drop t).map (·.f3)) := by simp
  have e2 : F.map (·.f3) = (F.take t).map (·.f3) ++ (F.drop t).map (·.f3) := by rw [← List.map_append, List.take_append_drop]
  have e3 : (shareL R 0 (R 0) ((F.take t).map (·.f3))).length = t := by rw [shareL_length, List.length_map, List.length_take]; omega
  rw [e1, e2, shareL_append, shareL_append, List.take_left' e3, List.drop_left' e3]
  simp only [shareL, Int.add_zero, Int.sub_self]
/-- Sizes with the item between them. -/
theorem insert_sizes (F : List S26) (P : List Int) (t : Nat) (fx : Int) (htl : t ≤ F.length) (hPl : P.length = F.length) :
    ∃ A B : List Int, A.length = t ∧ B.length = F.length - t ∧ List.zipWith (fun (x : S26) s => x.f0 + s) F P = A ++ B ∧
      List.zipWith (fun (x : S26) s => x.f0 + s) (F.take t ++ [(⟨fx, fx, fx, 0, 0, 0⟩ : S26)] ++ F.drop t) (P.take t ++ 0 :: P.drop t) = A ++ fx :: B := by
  have ez : ∀ (x y : List S26) (u v : List Int), x.length = u.length → List.zipWith (fun x s => x.f0 + s) (x ++ y) (u ++ v) = List.zipWith (fun x s => x.f0 + s) x u ++ List.zipWith (fun (x : S26) s => x.f0 + s) y v := fun x y u v h => List.zipWith_append h
  refine ⟨List.zipWith (fun (x : S26) s => x.f0 + s) (F.take t) (P.take t), List.zipWith (fun (x : S26) s => x.f0 + s) (F.drop t) (P.drop t), ?_, ?_, ?_, ?_⟩
  · simp; omega
  · simp; omega
  · rw [← ez _ _ _ _ (by simp; omega), List.take_append_drop, List.take_append_drop]
  · rw [List.append_assoc, ez _ _ _ _ (by simp; omega)]
    simp
theorem wt (t : Nat) (h : t ≤ 8) : wrap64 ((t : Int) + 1) = ((t + 1 : Nat) : Int) := by unfold wrap64; omega
theorem ends (k : Nat) (hk : 900 ≤ k) (fx : Int) (t n : Nat) (A B : List Int) (hA : A.length = t) (hB : B.length = n - t) (htn : t ≤ n) (hn : n ≤ 8) :
    quoinlaw18_FreeFixed.j2 k fx (t : Int) (A ++ B) (A ++ fx :: B) false = some true := by
  have hl1 : (A ++ B).length = n := by rw [List.length_append]; omega
  have hl2 : (A ++ fx :: B).length = n + 1 := by rw [List.length_append, List.length_cons]; omega
  obtain ⟨k', rfl⟩ : ∃ j, k = j + 1 := ⟨k - 1, by omega⟩
  rw [quoinlaw18_FreeFixed.j2]
  have hrd : rd (A ++ fx :: B) (t : Int) = fx := by
    unfold rd
    rw [Int.toNat_natCast, List.getD_eq_getElem?_getD, List.getElem?_append_right (by omega), hA]
    simp
  have e4 : (A ++ fx :: B).take t = A := List.take_left' hA
  have e5 : (A ++ fx :: B).drop (t + 1) = B := by
    rw [List.drop_append, List.drop_of_length_le (by omega), hA, show t + 1 - t = 1 by omega]
    rfl
  have h1 : (t : Int) < ((A ++ fx :: B).length : Int) := by omega
  have h2 : (t : Int) ≤ ((A ++ fx :: B).length : Int) := by omega
  have h3 : ((t + 1 : Nat) : Int) ≤ ((A ++ fx :: B).length : Int) := by omega
  have h4 : (0 : Int) ≤ (t : Int) := by omega
  have h5 : (0 : Int) ≤ ((t + 1 : Nat) : Int) := by omega
  have h6 : t ≤ 8 := by omega
  rw [if_neg (by simp), if_pos h4, if_pos h1, hrd, if_pos rfl]
  rw [Option.bind_some, if_pos h2, Option.bind_some, Int.toNat_natCast, e4, if_pos (by rw [List.length_nil]; omega), Option.bind_some, List.nil_append, wt t h6, if_pos h5, if_pos h3, Option.bind_some, Int.toNat_natCast, e5, if_pos (by omega), same_refl (A ++ B) (by omega) k' (by omega), Option.bind_some, if_pos rfl]
  rfl

theorem mid (k : Nat) (hk : 901 ≤ k) (a1 a2 a3 : Int) (F : List S26) (hF : ∀ x, x ∈ F → small x) (hFl : F.length ≤ 8) :
    quoinlaw18_FreeFixed.j1 k a1 a2 a3 F (F.map (·.f0)).sum = some true := by
  have hFB := take_sum_bound (·.f0) 255 (by omega) F (fun x h => (hF x h).1) F.length (Nat.le_refl _)
  rw [List.take_length] at hFB
  obtain ⟨k, rfl⟩ : ∃ j, k = j + 1 := ⟨k - 1, by omega⟩
  rw [quoinlaw18_FreeFixed.j1]
  obtain ⟨n, hn⟩ : ∃ n, n = F.length := ⟨_, rfl⟩
  have hn8 : n ≤ 8 := by omega
  have ht0 := Int.emod_nonneg (a2 % 256) (b := ((n + 1 : Nat) : Int)) (by omega)
  have ht1 := Int.emod_lt_of_pos (a2 % 256) (b := ((n + 1 : Nat) : Int)) (by omega)
  have htm : Int.tmod (a2 % 256) ((n + 1 : Nat) : Int) = a2 % 256 % ((n + 1 : Nat) : Int) := Int.tmod_eq_emod_of_nonneg (by omega)
  obtain ⟨t, ht⟩ : ∃ t : Nat, a2 % 256 % ((n + 1 : Nat) : Int) = t := ⟨(a2 % 256 % ((n + 1 : Nat) : Int)).toNat, by omega⟩
  rw [ht] at ht0 ht1
  obtain ⟨m, hm⟩ : ∃ m, m = a3 % 4096 + 1 := ⟨_, rfl⟩
  obtain ⟨fx, hfx⟩ : ∃ f, f = a1 % 256 := ⟨_, rfl⟩
  have hm1 : 1 ≤ m ∧ m ≤ 4096 := by omega
  have hf1 : 0 ≤ fx ∧ fx ≤ 255 := by omega
  rw [and_255, and_255, and_4095, show wrap64 ((F.length : Int) + 1) = ((n + 1 : Nat) : Int) from by rw [← hn]; exact wt n hn8, htm, ht, ← hm, ← hfx, if_neg (by omega)]
  clear hm hfx ht htm
  have htl : t ≤ F.length := by omega
  have ht2 : (t : Int) ≤ (F.length : Int) := by omega
  have hl1 : (F.take t).length = t := by rw [List.length_take]; omega
  simp only [Option.bind_some, List.nil_append, Int.toNat_natCast]
  rw [if_pos (by omega), if_pos ht2, if_pos (by rw [hl1, List.length_nil]; omega), if_pos (by rw [hl1]; simp; omega), if_pos (by rw [List.length_append, hl1, List.length_drop]; simp; omega), wrap64_id (x := m) (by omega) (by omega), wrap64_id (x := (F.map (·.f0)).sum + m) (by omega) (by omega), wrap64_id (x := (F.map (·.f0)).sum + m + fx) (by omega) (by omega)]
  have hX : small (⟨fx, fx, fx, 0, 0, 0⟩ : S26) := ⟨⟨hf1.1, hf1.2⟩, rfl, rfl, ⟨Int.le_refl 0, by show (0 : Int) ≤ 3; decide⟩, .inr ⟨rfl, rfl, rfl⟩⟩
  obtain ⟨G, hG⟩ : ∃ G, G = F.take t ++ [(⟨fx, fx, fx, 0, 0, 0⟩ : S26)] ++ F.drop t := ⟨_, rfl⟩
  have hGs : ∀ x, x ∈ G → small x := fun x h => by
    rw [hG] at h
    rcases List.mem_append.1 h with h | h
    · rcases List.mem_append.1 h with h | h
      · exact hF x (List.mem_of_mem_take h)
      · rw [List.mem_singleton.1 h]; exact hX
    · exact hF x (List.mem_of_mem_drop h)
  have hGl : G.length = F.length + 1 := by rw [hG]; simp; omega
  have hG0 : (G.map (·.f0)).sum = (F.map (·.f0)).sum + fx := by
    have hsplit : (F.map (·.f0)).sum = ((F.take t).map (·.f0)).sum + ((F.drop t).map (·.f0)).sum := by
      rw [← List.sum_append, ← List.map_append, List.take_append_drop]
    rw [hG, hsplit]; simp; omega
  have hr1 := resolve_small F hF (by omega) m hm1.1 hm1.2 k (by omega)
  have hr2 := resolve_small G hGs (by omega) m hm1.1 hm1.2 k (by omega)
  rw [hG0, show (F.map (·.f0)).sum + fx + m = (F.map (·.f0)).sum + m + fx by omega] at hr2
  rw [← hG, hr1, hr2]
  simp only [Option.bind_some]
  have hP : partsL m G = (partsL m F).take t ++ 0 :: (partsL m F).drop t := by rw [hG]; exact insert_parts m F t fx htl
  obtain ⟨A, B, hA, hB, hz1, hz2⟩ := insert_sizes F (partsL m F) t fx htl (partsL_length m F)
  rw [hP, hz1]
  have hz3 : List.zipWith (fun (x : S26) s => x.f0 + s) G ((partsL m F).take t ++ 0 :: (partsL m F).drop t) = A ++ fx :: B := by rw [hG]; exact hz2
  rw [hz3]
  have hlAB : (A ++ B).length = F.length := by rw [List.length_append]; omega
  have hlG : (A ++ fx :: B).length = G.length := by rw [List.length_append, List.length_cons]; omega
  rw [if_pos (by rw [hlAB])]
  have hne : (((A ++ fx :: B).length : Int) != (G.length : Int)) = false := by rw [hlG]; simp
  rw [hne]
  exact ends k (by omega) fx t F.length A B hA hB htl hFl

theorem FreeFixed : quoinlaw18_FreeFixed.Pure := by
  intro l0 a1 a2 a3 _ _ _ _ _ _
  have hl := loop l0 a1 a2 a3 (min l0.length 8) 0 1000 (by omega) (by omega) (by omega)
  have hF : ∀ x, x ∈ itF l0 → small x := fun x h => by
    obtain ⟨z, _, rfl⟩ := List.mem_map.1 h
    exact itm_small z
  have hFl := itF_length l0
  have := mid (1000 - min l0.length 8 - 1) (by omega) a1 a2 a3 (itF l0) hF (by omega)
  rw [this] at hl
  exact ⟨1000, hl⟩
end Go.Proofs.Ytkokdkhpcdjihaa.Pure
