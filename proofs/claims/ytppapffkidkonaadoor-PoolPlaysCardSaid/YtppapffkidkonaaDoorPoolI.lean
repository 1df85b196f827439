import Derived.Test.YtppapffkidkonaaDoorPoolH
import Derived.StillTailTactics
import Derived.LoopTactic
namespace Go.Proofs.YtppapffkidkonaaDoor
open Go.RowKit
set_option linter.unusedVariables false
set_option linter.unusedSimpArgs false

theorem cells_two_new (w : World) (a b : Value) (T : TypeId) : ∀ j u, [a, b][j]? = some u → (w.alloc (.cells #[a, b] T)).cell? ((⟨w.heap.size, 0, none⟩ : Addr).add j) = some u := by
  intro j u hj
  rcases j with _ | _ | j
  · exact (World.cell?_alloc_at (w := w) #[a, b] T w.heap.size 0 rfl).trans hj
  · exact (World.cell?_alloc_at (w := w) #[a, b] T w.heap.size 1 rfl).trans hj
  · simp at hj

theorem get_last (l : List (Int × Bool)) (x : Int × Bool) (j : Nat) (h : j = l.length) (hk : j < (l ++ [x]).length) : (l ++ [x])[j] = x := by
  subst h; simp
theorem set_last (l : List (Int × Bool)) (x y : Int × Bool) (j : Nat) (h : j = l.length) : (l ++ [x]).set j y = l ++ [y] := by
  subst h; simp [List.set_append]
theorem last_lt (l : List (Int × Bool)) (x : Int × Bool) (j : Nat) (h : j = l.length) : j < (l ++ [x]).length := by
  subst h; simp
theorem last_len (l : List (Int × Bool)) (x : Int × Bool) (j : Nat) (h : j = l.length) : j + 1 = (l ++ [x]).length := by
  subst h; simp

set_option maxHeartbeats 1000000 in
set_option maxRecDepth 100000 in
theorem take_new {B : Nat} {W : World} {g : Nat} {v : Value} {most : Int} {ps : List (Int × Bool)} {taken : Int} (h : Pl B W g v most ps taken) (hn : ps.length < 10000) (ht0 : 0 ≤ taken) (ht1 : taken ≤ 10000) (hK : (lf ps : Int) ≠ most) (hk : lf ps = ps.length) :
    Calls Tryd.prog 7 #[.pointer (some ⟨g, 0, none⟩)] W fun e w' => e = .returned (.tuple #[.agg #[.int .i64 (ps.length : Nat), .int .i64 1], .nilIface]) ∧ ∃ r cap, (v.ownBlock = some r ∨ W.heap.size ≤ r) ∧ Pl B w' g (.slice (some ⟨r, 0, none⟩) (ps.length + 1) cap) most (ps ++ [(1, true)]) (taken + 1) ∧ Kp W w' (fun k => k = g ∨ v.ownBlock = some k) := by
  have hu := Tryd.underlying27
  obtain ⟨i0, hi, hzz⟩ := Option.map_eq_some_iff.1 info_place
  simp only [Prod.mk.injEq] at hzz
  obtain ⟨hz0, hz1, hz2⟩ := hzz
  have HI := Lib.hid (And.intro hi (And.intro hz0 (And.intro hz1 hz2)))
  clear hi hz0 hz1 hz2
  have hgW := h.lt
  have hvW : ∀ k, v.ownBlock = some k → k < W.heap.size := fun k e => (h.rlt k e).2
  obtain ⟨G, hG⟩ : ∃ G, G = W.heap.size := ⟨_, rfl⟩
  obtain ⟨w0, hw0⟩ : ∃ w0, w0 = W.alloc (.cells #[.int .i64 0, .int .i64 0] 27) := ⟨_, rfl⟩
  have hb0 : Below W.heap.size W w0 := by rw [hw0]; exact (Below.refl _ _).alloc (Nat.le_refl _) _
  have h1 := h.below hb0
  have hR : w0.heap[G]? = some (.cells #[.int .i64 0, .int .i64 0] 27 (0, 0)) := (by rw [hw0, hG]; show (W.heap.push _)[W.heap.size]? = _; exact Array.getElem?_push_size)
  have c0 := h1.c0
  have c1 := h1.c1
  have HG := Lib.hid hG
  have HW0 := Lib.hid hw0
  obtain ⟨A, cap0, rfl, hcap⟩ := h1.form0
  have HC := Lib.hid h1.cells
  obtain ⟨n, hne⟩ : ∃ n, n = ps.length := ⟨_, rfl⟩
  have HT := Lib.hid (lf_taken ps)
  rw [← hne] at c1 hn h1 hcap hk hvW ⊢
  have HK := Lib.hid hk
  rw [hk] at hK
  have hKz : ¬ ((n : Int) = most) := hK
  have H1 := Lib.hid h1
  have HB0 := Lib.hid hb0
  have HGW := Lib.hid hgW
  have HVW := Lib.hid hvW
  have HR := Lib.hid hR
  have HN := Lib.hid hne
  have HBW := Lib.hid (Nat.lt_of_lt_of_le (Nat.lt_of_le_of_lt h.gB h.lt) hb0.size)
  have HRow : Hid (w0.ownsRow B 52 2 (.slice A n cap0) n (plC ps)) := Lib.hid (by rw [hne] at h1 ⊢; exact h1.row)
  clear h h1 hb0 hne hk hG hw0 hR hgW hvW
  have HCAP : Hid (∀ j r cap w5, j = ps.length → Pl B w5 g (.slice (some ⟨r, 0, none⟩) (j + 1) cap) most (ps ++ [(1, true)]) (taken + 1) → j + 1 ≤ cap) := Lib.hid (by
    intro j r cap w5 e hq
    obtain ⟨_, _, e', hc⟩ := hq.form0
    injection e' with _ e2 e3
    rw [e3]; simp at hc; omega)
  go_enter Tryd.func7, Tryd.ntmps7
  go_wp2_with fail
  rw [← HW0.out, ← HG.out]
  go_loop [4] (fun i => ∃ j : Nat, j ≤ n ∧ i = .int .i64 j) (fun i => n - (intOf i).toNat)
  case atStart => exact ⟨0, Nat.zero_le _, rfl⟩
  case round =>
    obtain ⟨j, hj, rfl⟩ := hrel
    by_cases hlt : j < n
    · obtain ⟨r', e', _, y⟩ := HC.out j (by rw [← HN.out]; omega)
      cases e'
      rw [HT.out j (by rw [← HN.out]; omega) (by rw [HK.out]; exact hlt)] at y
      have hx : (j : Int) < (n : Int) := by omega
      have hx0 : (0 : Int) ≤ (j : Int) := by omega
      go_wp2
      go_round
      case rel => exact ⟨j + 1, by omega, by go_num⟩
      case measure => simp [intOf]; omega
    · have hjk : j = n := by omega
      subst hjk
      go_wp2_with (at_builtin; refine wpList_append_lies _ rfl (.tmp 49) (.tmp 51) 48 rfl B 52 i0 (.agg #[.int .i64 0, .bool false]) 2 16 Tryd.underlying48 HI.out.1 HI.out.2.1 HI.out.2.2.1 HI.out.2.2.2 rfl (by decide) (.slice A j cap0) j (plC ps) rfl (HRow.out.alloc _) ⟨w0.heap.size, 0, none⟩ 1 1 [.int .i64 0, .bool false] rfl rfl ?aN ?aO (by decide) ?a63 ?aY ?aB (w0.heap.size + 1) ?aH ?_; (case aN => exact cells_two_new _ _ _ _); (case aO => simp [Value.oneCell']); (case a63 => unfold maxLen; omega); (case aY => omega); (case aB => have := HBW.out; simp; omega); (case aH => simp); intro r cap wA hown hgrow hat hlt1; obtain ⟨q1, q2, q3, q4, q5, q6, q7⟩ := grow_steps H1.out HB0.out HGW.out HVW.out HR.out (Nat.le_of_eq HG.out.symm) HN.out hown hgrow hat; have HA := Lib.hid hat; clear hown hgrow hat hlt1; obtain ⟨wB, eB⟩ : ∃ wB, wA.setCell ⟨g, 1, none⟩ (.slice (some ⟨r, 0, none⟩) (j + 1) cap) = wB := ⟨_, rfl⟩; rw [eB] at q3 q4 q5; have QQ := take_steps q3 (last_len ps _ j HN.out) j 0 (last_lt ps _ j HN.out) (get_last ps _ j HN.out _) q4 q6 q7 (Nat.le_of_eq HG.out.symm) q5 (.inl rfl) (HA.out.imp (fun e => .inr e) (fun e => by have := HB0.out.size; omega)); rw [show (0 : Int) + 1 = 1 from rfl, set_last ps _ _ j HN.out] at QQ; clear q3 q4 q5 q6 q7; obtain ⟨w1, w2, w3, w4, w5, e1, e2, e3, e4, e5, ⟨s0, s1, s2⟩, ⟨s3, s4, s5⟩, ⟨s6, s7⟩, ⟨s8, s9⟩, ⟨z1, z2, z3, z4⟩, ⟨z5, z6⟩, ⟨z7, z8⟩, HP5, HKp⟩ := QQ; have hl : j + 1 ≤ cap := HCAP.out j r cap w5 HN.out HP5.out; have hjj : (j : Int) < ((j + 1 : Nat) : Int) := by omega)
      exact bodyPost_ret (v := .tuple #[.agg #[.int .i64 (j : Int), .int .i64 1], .nilIface]) (by simp [results, Tryd.results7, go_sem, z7, z8, hu]) rfl ⟨rfl, r, HA.out.imp (fun e => e) (fun e => by have := HB0.out.size; omega), ⟨cap, HP5.out⟩, HKp.out⟩
end Go.Proofs.YtppapffkidkonaaDoor
