import Derived.Test.YtppapffkidkonaaDoorPoolE
import Derived.LoopTactic
namespace Go.Proofs.YtppapffkidkonaaDoor
open Go.RowKit
set_option linter.unusedVariables false
set_option linter.unusedSimpArgs false

/-- The least free place. -/
def lf : List (Int × Bool) → Nat
  | [] => 0
  | p :: l => if p.2 then lf l + 1 else 0
theorem lf_le : ∀ l, lf l ≤ l.length
  | [] => Nat.le_refl _
  | p :: l => by
    have := lf_le l
    simp only [lf, List.length_cons]
    split <;> omega
theorem lf_taken : ∀ (l : List (Int × Bool)) (i : Nat) (h : i < l.length), i < lf l → l[i].2 = true
  | p :: l, 0, _, h2 => by
    simp only [lf] at h2
    split at h2
    · rename_i h; exact h
    · omega
  | p :: l, i + 1, h, h2 => by
    simp only [lf] at h2
    split at h2
    · exact lf_taken l i (by simpa using h) (by omega)
    · omega
theorem lf_free : ∀ (l : List (Int × Bool)) (h : lf l < l.length), l[lf l].2 = false
  | [], h => by simp at h
  | p :: l, h => by
    by_cases hp : p.2 = true
    · have e : lf (p :: l) = lf l + 1 := by simp only [lf]; rw [if_pos hp]
      have := lf_free l (by rw [e] at h; simpa using h)
      simp only [e, List.getElem_cons_succ]
      exact this
    · have e : lf (p :: l) = 0 := by simp only [lf]; rw [if_neg hp]
      simp only [e, List.getElem_cons_zero]
      simpa using hp
theorem Pl.cells {B : Nat} {W : World} {g n cap : Nat} {A : Option Addr} {most : Int} {ps : List (Int × Bool)} {taken : Int} (h : Pl B W g (.slice A n cap) most ps taken) : ∀ i (hi : i < ps.length), ∃ r, A = some ⟨r, 0, none⟩ ∧ W.cell? ⟨r, i * 2, none⟩ = some (.int .i64 ps[i].1) ∧ W.cell? ⟨r, i * 2 + 1, none⟩ = some (.bool ps[i].2) := by
  intro i hi
  obtain ⟨r, cap', e, _, _, _, _, hc⟩ := h.form (by omega)
  injection e with e1 e2 e3
  exact ⟨r, e1, (hc i hi).1, (hc i hi).2.1⟩

/-- What stands there, stored again. -/
theorem set_same {w : World} {b j : Nat} {cs : Array Value} {t : TypeId} {fz : Nat × Nat} {v : Value} (h : w.heap[b]? = some (.cells cs t fz)) (hv : cs[j]? = some v) : w.setCell ⟨b, j, none⟩ v = w := by
  have : ∀ f : Obj → Obj, f (.cells cs t fz) = .cells cs t fz → w.heap.modify b f = w.heap := by
    intro f hf
    apply Array.ext_getElem?
    intro k
    rw [Array.getElem?_modify]
    split
    · rename_i e
      subst e
      rw [h, Option.map_some, hf]
    · rfl
  have hc : cs.setIfInBounds j v = cs := by
    apply Array.ext_getElem?
    intro l
    rw [Array.getElem?_setIfInBounds]
    split
    · rename_i e
      subst e
      split
      · exact hv.symm
      · rename_i h2
        rw [Array.getElem?_eq_none (by omega)] at hv
        cases hv
    · rfl
  show ({ w with heap := w.heap.modify b _ } : World) = w
  rw [this _ (by show Obj.cells (cs.setIfInBounds j v) t fz = _; rw [hc])]

set_option maxHeartbeats 4000000 in
set_option maxRecDepth 100000 in
theorem take_full {B : Nat} {W : World} {g : Nat} {v : Value} {most : Int} {ps : List (Int × Bool)} {taken : Int} (h : Pl B W g v most ps taken) (he : Env W) (hn : ps.length ≤ 10000) (hK : (lf ps : Int) = most) :
    Calls Tryd.prog 7 #[.pointer (some ⟨g, 0, none⟩)] W fun e w' => ∃ j, e = .returned (.tuple #[.agg #[.int .i64 0, .int .i64 0], .iface 74 (.pointer (some ⟨j, 0, none⟩))]) ∧ JoinErr w' j 2 ∧ Below W.heap.size W w' := by
  have hu := Tryd.underlying27
  have hb0 : Below W.heap.size W (W.alloc (.cells #[.int .i64 0, .int .i64 0] 27)) := (Below.refl _ _).alloc (Nat.le_refl _) _
  obtain ⟨A, cap, rfl, hcap⟩ := h.form0
  have h1 := h.below hb0
  have c0 := h1.c0
  have c1 := h1.c1
  have HC := Lib.hid h1.cells
  have HE := Lib.hid (he.below hb0)
  have HB0 := Lib.hid hb0
  obtain ⟨K, hKe⟩ : ∃ K, K = lf ps := ⟨_, rfl⟩
  have hKn : K ≤ ps.length := by rw [hKe]; exact lf_le ps
  rw [← hKe] at hK
  have HK := Lib.hid hKe
  have HF := Lib.hid (lf_free ps)
  have HT := Lib.hid (lf_taken ps)
  obtain ⟨n, hne⟩ : ∃ n, n = ps.length := ⟨_, rfl⟩
  rw [← hne] at c1 hKn hn hcap
  have HN := Lib.hid hne
  subst hK
  clear h h1 he hb0 hKe hne
  go_enter Tryd.func7, Tryd.ntmps7
  go_wp2_with fail
  go_loop [4] (fun i => ∃ k : Nat, k ≤ K ∧ i = .int .i64 k) (fun i => K - (intOf i).toNat)
  case atStart => exact ⟨0, Nat.zero_le _, rfl⟩
  case round =>
    obtain ⟨k, hk, rfl⟩ := hrel
    by_cases hlt : k < K
    · obtain ⟨r, rfl, _, y⟩ := HC.out k (by rw [← HN.out]; omega)
      rw [HT.out k (by rw [← HN.out]; omega) (by rw [← HK.out]; exact hlt)] at y
      have hz : (k : Int) < (n : Int) := by omega
      have hz0 : (0 : Int) ≤ (k : Int) := by omega
      go_wp2
      go_round
      case rel => exact ⟨k + 1, by omega, by go_num⟩
      case measure => simp [intOf]; omega
    · have hkK : k = K := by omega
      subst hkK
      have hm : -9223372036854775808 ≤ (k : Int) ∧ (k : Int) ≤ 9223372036854775807 := by constructor <;> omega
      by_cases hkn : k < n
      · obtain ⟨r, rfl, _, y⟩ := HC.out k (by rw [← HN.out]; exact hkn)
        have yf : ps[k]'(by rw [← HN.out]; exact hkn) = ps[lf ps]'(by rw [← HK.out, ← HN.out]; exact hkn) := by
          congr 1
        rw [yf, HF.out (by rw [← HK.out, ← HN.out]; exact hkn)] at y
        clear yf
        have hz : (k : Int) < (n : Int) := by omega
        have hz0 : (0 : Int) ≤ (k : Int) := by omega
        go_wp2_with fail
        refine (itoa_calls k hm.1 hm.2 _ HE.out).mono ?_
        rintro e w2 ⟨s, rfl, hsz, hb2⟩
        have HB2 := Lib.hid (HB0.out.trans (hb2.mono HB0.out.size))
        have hR : w2.heap[W.heap.size]? = some (.cells #[.int .i64 0, .int .i64 0] 27 (0, 0)) := (hb2.block _ (by simp)).trans (by show (W.heap.push _)[W.heap.size]? = _; exact Array.getElem?_push_size)
        have hlt : W.heap.size < w2.heap.size := (Array.getElem?_eq_some_iff.1 hR).1
        clear hb2 HE HB0
        go_wp2_with fail
        refine (wrong_calls 2 _ _).mono ?_
        rintro e w3 ⟨j, rfl, hj, hb3⟩
        have HB3 := Lib.hid (HB2.out.trans (hb3.mono HB2.out.size))
        have hR3 := (hb3.block _ hlt).trans hR
        have y0 : w3.cell? ⟨W.heap.size, 0, none⟩ = some (.int .i64 0) := by simp [World.cell?, hR3]
        have y1 : w3.cell? ⟨W.heap.size, 1, none⟩ = some (.int .i64 0) := by simp [World.cell?, hR3]
        have y2 : w3.frozen? ⟨W.heap.size, 0, none⟩ = false := by simp [World.frozen?, hR3]
        have y3 : w3.frozen? ⟨W.heap.size, 1, none⟩ = false := by simp [World.frozen?, hR3]
        have y4 : w3.setCell ⟨W.heap.size, 0, none⟩ (.int .i64 0) = w3 := set_same hR3 rfl
        have y5 : w3.setCell ⟨W.heap.size, 1, none⟩ (.int .i64 0) = w3 := set_same hR3 rfl
        clear hb3 HB2 hR hlt hR3
        have HJ := Lib.hid hj
        clear hj
        go_wp2
        exact bodyPost_ret (v := .tuple #[.agg #[.int .i64 0, .int .i64 0], .iface 74 (.pointer (some ⟨j, 0, none⟩))]) (by simp [results, Tryd.results7, go_sem, y0, y1, hu]) rfl ⟨j, rfl, HJ.out, HB3.out⟩
      · have hz : k = n := by omega
        subst hz
        go_wp2_with fail
        refine (itoa_calls k hm.1 hm.2 _ HE.out).mono ?_
        rintro e w2 ⟨s, rfl, hsz, hb2⟩
        have HB2 := Lib.hid (HB0.out.trans (hb2.mono HB0.out.size))
        have hR : w2.heap[W.heap.size]? = some (.cells #[.int .i64 0, .int .i64 0] 27 (0, 0)) := (hb2.block _ (by simp)).trans (by show (W.heap.push _)[W.heap.size]? = _; exact Array.getElem?_push_size)
        have hlt : W.heap.size < w2.heap.size := (Array.getElem?_eq_some_iff.1 hR).1
        clear hb2 HE HB0
        go_wp2_with fail
        refine (wrong_calls 2 _ _).mono ?_
        rintro e w3 ⟨j, rfl, hj, hb3⟩
        have HB3 := Lib.hid (HB2.out.trans (hb3.mono HB2.out.size))
        have hR3 := (hb3.block _ hlt).trans hR
        have y0 : w3.cell? ⟨W.heap.size, 0, none⟩ = some (.int .i64 0) := by simp [World.cell?, hR3]
        have y1 : w3.cell? ⟨W.heap.size, 1, none⟩ = some (.int .i64 0) := by simp [World.cell?, hR3]
        have y2 : w3.frozen? ⟨W.heap.size, 0, none⟩ = false := by simp [World.frozen?, hR3]
        have y3 : w3.frozen? ⟨W.heap.size, 1, none⟩ = false := by simp [World.frozen?, hR3]
        have y4 : w3.setCell ⟨W.heap.size, 0, none⟩ (.int .i64 0) = w3 := set_same hR3 rfl
        have y5 : w3.setCell ⟨W.heap.size, 1, none⟩ (.int .i64 0) = w3 := set_same hR3 rfl
        clear hb3 HB2 hR hlt hR3
        have HJ := Lib.hid hj
        clear hj
        go_wp2
        exact bodyPost_ret (v := .tuple #[.agg #[.int .i64 0, .int .i64 0], .iface 74 (.pointer (some ⟨j, 0, none⟩))]) (by simp [results, Tryd.results7, go_sem, y0, y1, hu]) rfl ⟨j, rfl, HJ.out, HB3.out⟩
end Go.Proofs.YtppapffkidkonaaDoor
