import Derived.Test.YtppapffkidkonaaDoorPoolJ
namespace Go.Proofs.YtppapffkidkonaaDoor
open Go.RowKit
set_option linter.unusedVariables false
set_option linter.unusedSimpArgs false

theorem JoinErr.kp {w w' : World} {S : Nat → Prop} {j : Nat} {c : Int} (h : JoinErr w j c) (hk : Kp w w' S) (hS : ∀ b, S b → ∃ x, w.cell? ⟨b, 0, none⟩ = some (.int .i64 x)) : JoinErr w' j c := by
  have key : ∀ b i v, w.cell? ⟨b, i, none⟩ = some v → (∀ x, w.cell? ⟨b, 0, none⟩ ≠ some (.int .i64 x)) → w'.cell? ⟨b, i, none⟩ = some v := by
    intro b i v hv hx
    have hlt : b < w.heap.size := by
      rcases Nat.lt_or_ge b w.heap.size with h' | h'
      · exact h'
      · simp [World.cell?, Array.getElem?_eq_none h'] at hv
    exact (World.cell?_of_block (hk.block b hlt (fun hs => by obtain ⟨x, e⟩ := hS b hs; exact hx x e))).trans hv
  obtain ⟨g2, p, cap, h1, h2, h3⟩ := h
  exact ⟨g2, p, cap, key _ _ _ h1 (fun x e => by rw [h1] at e; cases e), key _ _ _ h2 (fun x e => by rw [h2] at e; cases e), key _ _ _ h3 (fun x e => by rw [h2] at e; cases e)⟩
/-- A new pool. -/
theorem new_pl (m : Int) (w : World) (B : Nat) (hB : B ≤ w.heap.size) :
    Calls Tryd.prog 6 #[.int .i64 m] w fun e w' => e = .returned (.pointer (some ⟨w.heap.size, 0, none⟩)) ∧ Pl B w' w.heap.size (.slice none 0 0) (min (max m 0) 10000) [] 0 ∧ Below w.heap.size w w' ∧ w'.heap.size = w.heap.size + 1 :=
  (new_calls' m w).mono fun e w' ⟨he, hw⟩ => ⟨he, by
    rw [hw]
    exact ⟨by show (w.heap.push _)[w.heap.size]? = _; exact Array.getElem?_push_size, World.ownsRow_nil _ _ _ _, hB, fun k e => by cases e⟩, by rw [hw]; exact (Below.refl _ _).alloc (Nat.le_refl _) _, by rw [hw]; simp⟩

section
variable {B : Nat} {w : World} {g : Nat} {v : Value}
theorem aw1 (h : Pl B w g v 1 [] 0) (hv : v = .slice none 0 0) : Calls Tryd.prog 7 #[.pointer (some ⟨g, 0, none⟩)] w fun e w' => e = .returned (.tuple #[.agg #[.int .i64 0, .int .i64 1], .nilIface]) ∧ ∃ r cap, Pl B w' g (.slice (some ⟨r, 0, none⟩) 1 cap) 1 [(1, true)] 1 ∧ Kp w w' (fun k => k = g) := by
  subst hv
  exact (take_new h (by decide) (by decide) (by decide) (by decide) rfl).mono fun e w' ⟨he, r, cap, hr, hP, hk⟩ => ⟨he, r, cap, hP, hk.weaken fun k e => e.elim id (fun e => by cases e)⟩
theorem aw2 (he : Env w) {r cap : Nat} (h : Pl B w g (.slice (some ⟨r, 0, none⟩) 1 cap) 1 [(1, true)] 1) : Calls Tryd.prog 7 #[.pointer (some ⟨g, 0, none⟩)] w fun e w' => ∃ j, e = .returned (.tuple #[.agg #[.int .i64 0, .int .i64 0], .iface 74 (.pointer (some ⟨j, 0, none⟩))]) ∧ JoinErr w' j 2 ∧ Below w.heap.size w w' :=
  take_full h he (by decide) rfl
theorem aw3 {r cap : Nat} (h : Pl B w g (.slice (some ⟨r, 0, none⟩) 1 cap) 1 [(1, true)] 1) : Calls Tryd.prog 8 #[.pointer (some ⟨g, 0, none⟩), .agg #[.int .i64 0, .int .i64 1]] w fun e w' => e = .returned .nilIface ∧ Pl B w' g (.slice (some ⟨r, 0, none⟩) 1 cap) 1 [(1, false)] 0 ∧ Kp w w' (fun k => k = g ∨ k = r) :=
  free_yes (ps := [(1, true)]) h (by decide) (by decide) (by decide) 0 1 (by decide) rfl
theorem aw4 {r cap : Nat} (h : Pl B w g (.slice (some ⟨r, 0, none⟩) 1 cap) 1 [(1, false)] 0) : Calls Tryd.prog 7 #[.pointer (some ⟨g, 0, none⟩)] w fun e w' => e = .returned (.tuple #[.agg #[.int .i64 0, .int .i64 2], .nilIface]) ∧ Pl B w' g (.slice (some ⟨r, 0, none⟩) 1 cap) 1 [(2, true)] 1 ∧ Kp w w' (fun k => k = g ∨ k = r) :=
  take_old (ps := [(1, false)]) h (by decide) (by decide) (by decide) (by decide) 0 1 rfl (by decide) rfl (by decide)
/-- An int stands at the head of a pool's blocks. -/
theorem heads {most taken : Int} {ps : List (Int × Bool)} {r cap n : Nat} (h : Pl B w g (.slice (some ⟨r, 0, none⟩) n cap) most ps taken) (h0 : 0 < ps.length) : ∀ b, (b = g ∨ b = r) → ∃ x, w.cell? ⟨b, 0, none⟩ = some (.int .i64 x) := by
  intro b hb
  rcases hb with rfl | rfl
  · exact ⟨_, h.c0⟩
  · obtain ⟨r', cap', e, _, _, _, _, hc⟩ := h.form h0
    injection e with e1
    injection e1 with e1
    injection e1 with e1
    subst e1
    have := (hc 0 h0).1
    exact ⟨_, by simpa using this⟩
end

set_option maxHeartbeats 1000000 in
set_option maxRecDepth 100000 in
theorem awake_calls (w : World) (he : Env w) :
    Calls Tryd.prog 11 #[] w fun e w' => e = .returned (.bool true) ∧ Below w.heap.size w w' := by
  have HE := Lib.hid he
  clear he
  obtain ⟨g, hg⟩ : ∃ g, g = w.heap.size := ⟨_, rfl⟩
  have HG := Lib.hid hg
  have HN := Lib.hid (new_pl 1 w w.heap.size (Nat.le_refl _))
  rw [← hg] at HN
  clear hg
  go_enter Tryd.func11, Tryd.ntmps11
  go_wp2_with fail
  refine HN.out.mono ?_
  clear HN
  rintro e w1 ⟨rfl, hP, hB, -⟩
  rw [show min (max (1 : Int) 0) 10000 = 1 from by decide] at hP
  have HP1 := Lib.hid hP
  have HB1 : Hid (Below g w w1) := Lib.hid hB
  have HE1 := Lib.hid (HE.out.below (by rw [← HG.out]; exact hB))
  clear hP hB
  go_wp2_with fail
  refine (aw1 HP1.out rfl).mono ?_
  rintro e w2 ⟨rfl, r, cap, hP, hk⟩
  have HP2 := Lib.hid hP
  have HB2 := Lib.hid (hk.toBelow HB1.out (fun k e => by rw [e]; exact Nat.le_refl _) (Nat.le_of_eq HG.out))
  have HE2 := Lib.hid (HE.out.below (by rw [← HG.out]; exact HB2.out))
  clear hP hk HP1 HB1 HE1
  go_wp2_with fail
  obtain ⟨H, hH⟩ : ∃ H, H = w2.heap.size := ⟨_, rfl⟩
  obtain ⟨w3, h3⟩ : ∃ w3, w3 = w2.alloc (.cells #[.int .i64 0, .int .i64 1] 27) := ⟨_, rfl⟩
  rw [← h3, ← hH]
  have hb3 : Below w2.heap.size w2 w3 := by rw [h3]; exact (Below.refl _ _).alloc (Nat.le_refl _) _
  have HP3 := Lib.hid (HP2.out.below hb3)
  have HB3 := Lib.hid (HB2.out.trans (hb3.mono (Nat.le_trans (Nat.le_of_eq HG.out) HB2.out.size)))
  have HE3 := Lib.hid (HE2.out.below hb3)
  have hHg : H ≠ g := by have := HP2.out.lt; omega
  have hHr : H ≠ r := by have := (HP2.out.rlt r rfl).2; omega
  have hR : w3.heap[H]? = some (.cells #[.int .i64 0, .int .i64 1] 27 (0, 0)) := by rw [h3, hH]; show (w2.heap.push _)[w2.heap.size]? = _; exact Array.getElem?_push_size
  have HR3 := Lib.hid hR
  have hNe := Lib.hid (And.intro hHg hHr)
  clear hHg hHr hR hb3 h3 hH HP2 HB2 HE2
  refine (aw2 HE3.out HP3.out).mono ?_
  rintro e wa ⟨j, rfl, hj, hba⟩
  obtain ⟨w4, e4⟩ : ∃ w4, wa.alloc (.cells #[.int .i64 0, .int .i64 0] 27) = w4 := ⟨_, rfl⟩
  have hb4 : Below wa.heap.size wa w4 := by rw [← e4]; exact (Below.refl _ _).alloc (Nat.le_refl _) _
  have hb := hba.trans (hb4.mono hba.size)
  replace hj := hj.below hb4
  have hRa : w4.heap[wa.heap.size]? = some (.cells #[.int .i64 0, .int .i64 0] 27 (0, 0)) := by rw [← e4]; show (wa.heap.push _)[wa.heap.size]? = _; exact Array.getElem?_push_size
  have x0 : w4.cell? ⟨wa.heap.size, 0, none⟩ = some (.int .i64 0) := by simp [World.cell?, hRa]
  have x1 : w4.cell? ⟨wa.heap.size, 1, none⟩ = some (.int .i64 0) := by simp [World.cell?, hRa]
  have x2 : w4.frozen? ⟨wa.heap.size, 0, none⟩ = false := by simp [World.frozen?, hRa]
  have x3 : w4.frozen? ⟨wa.heap.size, 1, none⟩ = false := by simp [World.frozen?, hRa]
  have x4 : w4.setCell ⟨wa.heap.size, 0, none⟩ (.int .i64 0) = w4 := set_same hRa rfl
  have x5 : w4.setCell ⟨wa.heap.size, 1, none⟩ (.int .i64 0) = w4 := set_same hRa rfl
  clear hba hb4 hRa
  have HJ4 := Lib.hid hj
  have HP4 := Lib.hid (HP3.out.below hb)
  have HB4 := Lib.hid (HB3.out.trans (hb.mono (Nat.le_trans (Nat.le_of_eq HG.out) HB3.out.size)))
  have HE4 := Lib.hid (HE3.out.below hb)
  have HR4 := Lib.hid ((hb.block H (Array.getElem?_eq_some_iff.1 HR3.out).1).trans HR3.out)
  have y0 : w4.cell? ⟨H, 0, none⟩ = some (.int .i64 0) := by simp [World.cell?, HR4.out]
  have y1 : w4.cell? ⟨H, 1, none⟩ = some (.int .i64 1) := by simp [World.cell?, HR4.out]
  have hu := Tryd.underlying27
  clear hj hb HR3 HE3 HB3 HP3
  go_wp2_with fail
  clear y0 y1 e4 x0 x1 x2 x3 x4 x5
  refine (aw3 HP4.out).mono ?_
  rintro e w5 ⟨rfl, hP, hk⟩
  have HP5 := Lib.hid hP
  have HB5 := Lib.hid (hk.toBelow HB4.out (fun k e => e.elim (fun e => by rw [e]; exact Nat.le_refl _) (fun e => by rw [e]; exact (HP4.out.rlt r rfl).1)) (Nat.le_of_eq HG.out))
  have HJ5 := Lib.hid (HJ4.out.kp hk (heads HP4.out (by decide)))
  have HR5 := Lib.hid ((hk.block H (Array.getElem?_eq_some_iff.1 HR4.out).1 (fun e => e.elim hNe.out.1 hNe.out.2)).trans HR4.out)
  clear hP hk HP4 HB4 HJ4 HR4 HE4
  go_wp2_with fail
  refine (aw4 HP5.out).mono ?_
  rintro e w6 ⟨rfl, hP, hk⟩
  have HP6 := Lib.hid hP
  have HB6 := Lib.hid (hk.toBelow HB5.out (fun k e => e.elim (fun e => by rw [e]; exact Nat.le_refl _) (fun e => by rw [e]; exact (HP5.out.rlt r rfl).1)) (Nat.le_of_eq HG.out))
  have HJ6 := Lib.hid (HJ5.out.kp hk (heads HP5.out (by decide)))
  have HR6 := Lib.hid ((hk.block H (Array.getElem?_eq_some_iff.1 HR5.out).1 (fun e => e.elim hNe.out.1 hNe.out.2)).trans HR5.out)
  clear hP hk HP5 HB5 HJ5 HR5
  obtain ⟨K, hK⟩ : ∃ K, K = w6.heap.size := ⟨_, rfl⟩
  obtain ⟨w7, e7⟩ : ∃ w7, w6.alloc (.cells #[.int .i64 0, .int .i64 2] 27) = w7 := ⟨_, rfl⟩
  have hb : Below w6.heap.size w6 w7 := by rw [← e7]; exact (Below.refl _ _).alloc (Nat.le_refl _) _
  have HP7 := Lib.hid (HP6.out.below hb)
  have HB7 := Lib.hid (HB6.out.trans (hb.mono (Nat.le_trans (Nat.le_of_eq HG.out) HB6.out.size)))
  have HE7 := Lib.hid (HE.out.below (by rw [← HG.out]; exact HB7.out))
  have HJ7 := Lib.hid (HJ6.out.below hb)
  have HR7 := Lib.hid ((hb.block H (Array.getElem?_eq_some_iff.1 HR6.out).1).trans HR6.out)
  have HK7 : Hid (w7.heap[K]? = some (.cells #[.int .i64 0, .int .i64 2] 27 (0, 0))) := Lib.hid (by rw [← e7, hK]; show (w6.heap.push _)[w6.heap.size]? = _; exact Array.getElem?_push_size)
  have hK' : w6.heap.size = K := hK.symm
  clear hK
  have a0 : w7.cell? ⟨H, 0, none⟩ = some (.int .i64 0) := by simp [World.cell?, HR7.out]
  have a1 : w7.cell? ⟨H, 1, none⟩ = some (.int .i64 1) := by simp [World.cell?, HR7.out]
  have b0 : w7.cell? ⟨K, 0, none⟩ = some (.int .i64 0) := by simp [World.cell?, HK7.out]
  have b1 : w7.cell? ⟨K, 1, none⟩ = some (.int .i64 2) := by simp [World.cell?, HK7.out]
  clear hb HP6 HB6 HJ6 HR6
  go_wp2_with fail
  refine (Code_join j 2 _ HE7.out.et HJ7.out).mono ?_
  rintro e w8 ⟨rfl, hb⟩
  clear e7 hK' HE7 HJ7
  have HP8 := Lib.hid (HP7.out.below hb)
  have HB8 := Lib.hid (HB7.out.trans (hb.mono (Nat.le_trans (Nat.le_of_eq HG.out) HB7.out.size)))
  have HR8 := Lib.hid ((hb.block H (Array.getElem?_eq_some_iff.1 HR7.out).1).trans HR7.out)
  have HK8 := Lib.hid ((hb.block K (Array.getElem?_eq_some_iff.1 HK7.out).1).trans HK7.out)
  clear hb a0 a1 b0 b1 HP7 HB7 HR7 HK7
  have a0 : w8.cell? ⟨H, 0, none⟩ = some (.int .i64 0) := by simp [World.cell?, HR8.out]
  have a1 : w8.cell? ⟨H, 1, none⟩ = some (.int .i64 1) := by simp [World.cell?, HR8.out]
  have b0 : w8.cell? ⟨K, 0, none⟩ = some (.int .i64 0) := by simp [World.cell?, HK8.out]
  have b1 : w8.cell? ⟨K, 1, none⟩ = some (.int .i64 2) := by simp [World.cell?, HK8.out]
  go_wp2_with fail
  refine (has_calls HP8.out (by decide) 0 2).mono ?_
  rw [show hasB [(2, true)] 0 2 = true from by decide]
  rintro e w9 ⟨rfl, hb⟩
  have HP9 := Lib.hid (HP8.out.below hb)
  have HB9 := Lib.hid (HB8.out.trans (hb.mono (Nat.le_trans (Nat.le_of_eq HG.out) HB8.out.size)))
  have HR9 := Lib.hid ((hb.block H (Array.getElem?_eq_some_iff.1 HR8.out).1).trans HR8.out)
  have HK9 := Lib.hid ((hb.block K (Array.getElem?_eq_some_iff.1 HK8.out).1).trans HK8.out)
  clear hb a0 a1 b0 b1 HP8 HB8 HR8 HK8
  have a0 : w9.cell? ⟨H, 0, none⟩ = some (.int .i64 0) := by simp [World.cell?, HR9.out]
  have a1 : w9.cell? ⟨H, 1, none⟩ = some (.int .i64 1) := by simp [World.cell?, HR9.out]
  have b0 : w9.cell? ⟨K, 0, none⟩ = some (.int .i64 0) := by simp [World.cell?, HK9.out]
  have b1 : w9.cell? ⟨K, 1, none⟩ = some (.int .i64 2) := by simp [World.cell?, HK9.out]
  go_wp2_with fail
  refine (has_calls HP9.out (by decide) 0 1).mono ?_
  rw [show hasB [(2, true)] 0 1 = false from by decide]
  rintro e w10 ⟨rfl, hb⟩
  have HP10 := Lib.hid (HP9.out.below hb)
  have HB10 := Lib.hid (HB9.out.trans (hb.mono (Nat.le_trans (Nat.le_of_eq HG.out) HB9.out.size)))
  have HR10 := Lib.hid ((hb.block H (Array.getElem?_eq_some_iff.1 HR9.out).1).trans HR9.out)
  have HK10 := Lib.hid ((hb.block K (Array.getElem?_eq_some_iff.1 HK9.out).1).trans HK9.out)
  clear hb a0 a1 b0 b1 HP9 HB9 HR9 HK9
  have a0 : w10.cell? ⟨H, 0, none⟩ = some (.int .i64 0) := by simp [World.cell?, HR10.out]
  have a1 : w10.cell? ⟨H, 1, none⟩ = some (.int .i64 1) := by simp [World.cell?, HR10.out]
  have b0 : w10.cell? ⟨K, 0, none⟩ = some (.int .i64 0) := by simp [World.cell?, HK10.out]
  have b1 : w10.cell? ⟨K, 1, none⟩ = some (.int .i64 2) := by simp [World.cell?, HK10.out]
  go_wp2_with fail
  refine (len_calls HP10.out).mono ?_
  rintro e w11 ⟨rfl, rfl⟩
  go_wp2
  go_ret
  exact ⟨rfl, by rw [← HG.out]; exact HB10.out⟩
end Go.Proofs.YtppapffkidkonaaDoor
