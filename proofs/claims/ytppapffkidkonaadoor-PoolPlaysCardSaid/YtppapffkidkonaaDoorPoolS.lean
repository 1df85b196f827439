import Derived.Test.YtppapffkidkonaaDoorPoolP
namespace Go.Proofs.YtppapffkidkonaaDoor
open Go.RowKit
set_option linter.unusedVariables false
set_option linter.unusedSimpArgs false

/-- How many are taken. -/
def cn : List (Int × Bool) → Nat
  | [] => 0
  | p :: l => (if p.2 then 1 else 0) + cn l
theorem cn_le : ∀ l, cn l ≤ l.length
  | [] => Nat.le_refl _
  | p :: l => by
    have := cn_le l
    simp only [cn, List.length_cons]
    split <;> omega
theorem cn_lf : ∀ l, lf l = l.length ↔ cn l = l.length
  | [] => Iff.rfl
  | p :: l => by
    have h1 := cn_le l
    have h2 := cn_lf l
    simp only [lf, cn, List.length_cons]
    split
    · constructor <;> intro h
      · have := h2.1 (by omega); omega
      · have := h2.2 (by omega); omega
    · constructor <;> intro h <;> omega
theorem cn_append : ∀ (l : List (Int × Bool)) (p : Int × Bool), cn (l ++ [p]) = cn l + (if p.2 then 1 else 0)
  | [], p => by simp [cn]
  | q :: l, p => by simp only [List.cons_append, cn, cn_append l p]; omega
theorem cn_set : ∀ (l : List (Int × Bool)) (i : Nat) (h : i < l.length) (p : Int × Bool), cn (l.set i p) + (if l[i].2 then 1 else 0) = cn l + (if p.2 then 1 else 0)
  | q :: l, 0, _, p => by simp only [List.set_cons_zero, List.getElem_cons_zero, cn]; omega
  | q :: l, i + 1, h, p => by
    have := cn_set l i (by simpa using h) p
    simp only [List.set_cons_succ, List.getElem_cons_succ, cn]; omega
theorem hasB_iff (ps : List (Int × Bool)) (i : Nat) (t : Int) : hasB ps (i : Int) t = true ↔ ps[i]? = some (t, true) := by
  unfold hasB
  rw [Int.toNat_natCast, List.getD_eq_getElem?_getD]
  cases hp : ps[i]? with
  | none => simp
  | some p =>
    have hl := (List.getElem?_eq_some_iff.1 hp).1
    obtain ⟨p1, p2⟩ := p
    have h1 : decide ((0 : Int) ≤ (i : Int)) = true := decide_eq_true (by omega)
    have h2 : decide ((i : Int) < (ps.length : Int)) = true := decide_eq_true (by omega)
    rw [h1, h2]
    simp [and_comm]
theorem hasB_get (ps qs : List (Int × Bool)) (i : Nat) (t : Int) (h : ps[i]? = qs[i]?) : hasB ps (i : Int) t = hasB qs (i : Int) t := by
  have h1 := hasB_iff ps i t
  have h2 := hasB_iff qs i t
  rw [h] at h1
  rw [Bool.eq_iff_iff, h1, h2]
theorem tk_get (ps : List (Int × Bool)) (i : Nat) : (tk ps)[i]? = if i = lf ps then some (tkT ps, true) else ps[i]? := by
  have hle := lf_le ps
  unfold tk tkT
  split
  · rename_i h
    rw [List.getElem?_set]
    by_cases e : lf ps = i
    · rw [if_pos e, if_pos e.symm, if_pos (by omega)]
    · rw [if_neg e, if_neg (fun e' => e e'.symm)]
  · rename_i h
    have hl : lf ps = ps.length := by omega
    by_cases e : i = lf ps
    · rw [if_pos e, e, hl]; simp
    · rw [if_neg e, List.getElem?_append]
      split
      · rfl
      · rename_i h2
        rw [List.getElem?_eq_none (by simp; omega), List.getElem?_eq_none (by omega)]
theorem tk_old (ps : List (Int × Bool)) : (ps[lf ps]? = none ∧ tkT ps = 1) ∨ ps[lf ps]? = some (tkT ps - 1, false) := by
  unfold tkT
  split
  · rename_i h
    right
    have := lf_free ps h
    rw [List.getElem?_eq_getElem h, ← this]
    congr 1
    ext
    · show _ = _ + 1 - 1; omega
    · rfl
  · rename_i h
    left
    exact ⟨List.getElem?_eq_none (by omega), rfl⟩
theorem tk_len (ps : List (Int × Bool)) (M : Nat) (h : ps.length ≤ M) (hM : lf ps ≠ M) : (tk ps).length ≤ M ∧ ps.length ≤ (tk ps).length := by
  have hle := lf_le ps
  unfold tk
  split
  · simp; omega
  · simp; omega
theorem cn_tk (ps : List (Int × Bool)) : cn (tk ps) = cn ps + 1 := by
  unfold tk
  split
  · rename_i h
    have h1 := cn_set ps (lf ps) h (ps[lf ps].1 + 1, true)
    rw [lf_free ps h] at h1
    simpa using h1
  · rw [cn_append]; rfl
/-- Full. -/
theorem full_iff (ps : List (Int × Bool)) (M : Nat) (h : ps.length ≤ M) : lf ps = M ↔ ¬ cn ps < M := by
  have h1 := cn_lf ps
  have h2 := cn_le ps
  have h3 := lf_le ps
  constructor
  · intro e
    have := h1.1 (by omega)
    omega
  · intro e
    have := h1.2 (by omega)
    omega

/-- The handles that were told, and which are there. -/
structure Un (M : Nat) (ps : List (Int × Bool)) (all : List (Int × Int)) (there : List Bool) (s : Nat) : Prop where
  len : ps.length ≤ M
  tb : ∀ p ∈ ps, 1 ≤ p.1 ∧ p.1 ≤ (s : Int)
  at' : there = all.map (fun h => hasB ps h.1 h.2)
  le : ∀ h ∈ all, ∃ (i : Nat) (t : Int) (b : Bool), h.1 = (i : Int) ∧ ps[i]? = some (t, b) ∧ 1 ≤ h.2 ∧ h.2 ≤ t
  nd : all.Nodup
  al : all.length ≤ s
theorem Un.start (M : Nat) : Un M [] [] [] 0 := ⟨by simp, by simp, rfl, by simp, List.nodup_nil, Nat.le_refl _⟩
theorem Un.tkT {M s : Nat} {ps : List (Int × Bool)} {all : List (Int × Int)} {there : List Bool} (h : Un M ps all there s) : 1 ≤ tkT ps ∧ tkT ps ≤ (s : Int) + 1 := by
  rcases tk_old ps with ⟨_, e⟩ | e
  · rw [e]; omega
  · have := h.tb _ (List.mem_of_getElem? e)
    simp only at this
    omega
theorem Un.mono {M s s' : Nat} {ps : List (Int × Bool)} {all : List (Int × Int)} {there : List Bool} (h : Un M ps all there s) (hs : s ≤ s') : Un M ps all there s' :=
  ⟨h.len, fun p hp => by have := h.tb p hp; omega, h.at', h.le, h.nd, by have := h.al; omega⟩
theorem Un.fresh {M s : Nat} {ps : List (Int × Bool)} {all : List (Int × Int)} {there : List Bool} (h : Un M ps all there s) : ((lf ps : Int), Proofs.YtppapffkidkonaaDoor.tkT ps) ∉ all := by
  intro hm
  obtain ⟨i, t, b, e1, e2, e3, e4⟩ := h.le _ hm
  have e1 : lf ps = i := Int.ofNat.inj e1
  subst e1
  rcases tk_old ps with ⟨e, _⟩ | e
  · rw [e] at e2; cases e2
  · rw [e] at e2
    injection e2 with e2
    injection e2 with e2 _
    simp only at e4
    omega
theorem Un.take {M s : Nat} {ps : List (Int × Bool)} {all : List (Int × Int)} {there : List Bool} (h : Un M ps all there s) (hM : lf ps ≠ M) :
    Un M (tk ps) (all ++ [((lf ps : Int), Proofs.YtppapffkidkonaaDoor.tkT ps)]) (there ++ [true]) (s + 1) := by
  have hT := h.tkT
  refine ⟨(tk_len ps M h.len hM).1, fun p hp => ?_, ?_, ?_, ?_, by have := h.al; simp; omega⟩
  · obtain ⟨i, hi, rfl⟩ := List.mem_iff_getElem.1 hp
    have hg := tk_get ps i
    rw [List.getElem?_eq_getElem hi] at hg
    split at hg
    · injection hg with hg
      rw [hg]
      simp only
      omega
    · have := h.tb _ (List.mem_of_getElem? hg.symm)
      omega
  · rw [List.map_append, h.at']
    congr 1
    · apply List.map_congr_left
      intro x hx
      obtain ⟨i, t, b, e1, e2, e3, e4⟩ := h.le _ hx
      rw [e1]
      by_cases hi : i = lf ps
      · subst hi
        rcases tk_old ps with ⟨e, _⟩ | e
        · rw [e] at e2; cases e2
        · rw [e] at e2
          injection e2 with e2
          injection e2 with e2 _
          have n1 : ¬ hasB ps (lf ps : Int) x.2 = true := by rw [hasB_iff, e]; simp
          have n2 : ¬ hasB (tk ps) (lf ps : Int) x.2 = true := by
            rw [hasB_iff, tk_get, if_pos rfl]
            intro e'
            injection e' with e'
            injection e' with e' _
            omega
          rw [Bool.not_eq_true] at n1 n2
          rw [n1, n2]
      · exact hasB_get _ _ _ _ (by rw [tk_get, if_neg hi])
    · have : hasB (tk ps) (lf ps : Int) (Proofs.YtppapffkidkonaaDoor.tkT ps) = true := by rw [hasB_iff, tk_get, if_pos rfl]
      simp [this]
  · intro x hx
    rcases List.mem_append.1 hx with hx | hx
    · obtain ⟨i, t, b, e1, e2, e3, e4⟩ := h.le _ hx
      by_cases hi : i = lf ps
      · subst hi
        refine ⟨lf ps, Proofs.YtppapffkidkonaaDoor.tkT ps, true, e1, by rw [tk_get, if_pos rfl], e3, ?_⟩
        rcases tk_old ps with ⟨e, _⟩ | e
        · rw [e] at e2; cases e2
        · rw [e] at e2
          injection e2 with e2
          injection e2 with e2 _
          omega
      · exact ⟨i, t, b, e1, by rw [tk_get, if_neg hi]; exact e2, e3, e4⟩
    · obtain rfl := List.mem_singleton.1 hx
      exact ⟨lf ps, Proofs.YtppapffkidkonaaDoor.tkT ps, true, rfl, by rw [tk_get, if_pos rfl], hT.1, Int.le_refl _⟩
  · rw [List.nodup_append]
    refine ⟨h.nd, by simp, fun a ha b hb e => ?_⟩
    obtain rfl := List.mem_singleton.1 hb
    subst e
    exact h.fresh ha
theorem Un.free {M s k : Nat} {ps : List (Int × Bool)} {all : List (Int × Int)} {there : List Bool} (h : Un M ps all there s) (i : Nat) (t : Int) (hk : all[k]? = some ((i : Int), t)) (hp : ps[i]? = some (t, true)) :
    Un M (ps.set i (t, false)) all (there.set k false) s := by
  have hi := (List.getElem?_eq_some_iff.1 hp).1
  refine ⟨by rw [List.length_set]; exact h.len, fun p hp' => ?_, ?_, ?_, h.nd, h.al⟩
  · rcases List.mem_or_eq_of_mem_set hp' with hp' | hp'
    · exact h.tb _ hp'
    · have := h.tb _ (List.mem_of_getElem? hp)
      rw [hp']; exact this
  · apply List.ext_getElem?
    intro j
    rw [List.getElem?_set, h.at', List.getElem?_map, List.length_map, List.getElem?_map]
    by_cases hj : k = j
    · subst hj
      rw [if_pos rfl, hk, if_pos (List.getElem?_eq_some_iff.1 hk).1, Option.map_some]
      congr 1
      have n2 : ¬ hasB (ps.set i (t, false)) (i : Int) t = true := by rw [hasB_iff, List.getElem?_set_self hi]; simp
      rw [Bool.not_eq_true] at n2
      exact n2.symm
    · rw [if_neg hj]
      cases hx : all[j]? with
      | none => rfl
      | some x =>
        rw [Option.map_some, Option.map_some]
        congr 1
        obtain ⟨i', t', b, e1, e2, e3, e4⟩ := h.le _ (List.mem_of_getElem? hx)
        rw [e1]
        by_cases hii : i' = i
        · subst hii
          have hne : x.2 ≠ t := by
            intro e
            apply hj
            have hx' : all[j]? = all[k]? := by rw [hx, hk, ← e, ← e1]
            have hjl := (List.getElem?_eq_some_iff.1 hx).1
            exact ((List.getElem?_inj hjl h.nd).1 hx').symm
          have n1 : ¬ hasB ps (i' : Int) x.2 = true := by
            rw [hasB_iff, hp]; intro e; injection e with e; injection e with e _; exact hne e.symm
          have n2 : ¬ hasB (ps.set i' (t, false)) (i' : Int) x.2 = true := by rw [hasB_iff, List.getElem?_set_self hi]; simp
          rw [Bool.not_eq_true] at n1 n2
          rw [n1, n2]
        · exact hasB_get _ _ _ _ (by rw [List.getElem?_set_ne (fun e => hii e.symm)])
  · intro x hx
    obtain ⟨i', t', b, e1, e2, e3, e4⟩ := h.le _ hx
    by_cases hii : i' = i
    · subst hii
      rw [hp] at e2
      injection e2 with e2
      injection e2 with e2 _
      exact ⟨i', t, false, e1, by rw [List.getElem?_set_self hi], e3, by omega⟩
    · exact ⟨i', t', b, e1, by rw [List.getElem?_set_ne (fun e => hii e.symm)]; exact e2, e3, e4⟩
theorem Un.same {M s k : Nat} {ps : List (Int × Bool)} {all : List (Int × Int)} {there : List Bool} (h : Un M ps all there s) (hk : there[k]? = some false) : Un M ps all (there.set k false) s := by
  have e : there.set k false = there := by
    apply List.ext_getElem?
    intro j
    rw [List.getElem?_set]
    split
    · rename_i e; subst e
      rw [hk, if_pos (List.getElem?_eq_some_iff.1 hk).1]
    · rfl
  rw [e]; exact h
end Go.Proofs.YtppapffkidkonaaDoor
