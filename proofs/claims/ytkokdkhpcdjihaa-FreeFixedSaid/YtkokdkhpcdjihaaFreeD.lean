import Derived.Test.YtkokdkhpcdjihaaFreeC
import Derived.Test.YtkokdkhpcdjihaaFreeO
namespace Go.Proofs.Ytkokdkhpcdjihaa.QFree
open Go.Sort Go.RowKit Go.Proofs.YtkokdkhpcdjihaaW.PrintWords Go.Proofs.YtkokdkhpcdjihaaW.PrintLast Go.Proofs.YtkokdkhpcdjihaaW.PrintMore
open Go.Proofs.Ytkokdkhpcdjihaa
set_option linter.unusedVariables false
set_option linter.unusedSimpArgs false

/-- Resolve, as a printed function would stand. -/
def free_Resolve.f (k : Nat) (xs : List S26) (inner : Int) : Option (List Int) :=
  (free_Ok.f k xs).bind fun ok => if ok = false then some [] else if inner < -8796093022208 then some [] else if 36028797018963968 < inner then some [] else if xs.length = 0 then some [] else
    runT k xs (decide (smH xs xs.length < inner)) inner k (hyT xs xs.length) (fxT (decide (smH xs xs.length < inner)) xs xs.length)
theorem runT_mono (ks : Nat) (xs : List S26) (gr : Bool) (inner : Int) : ∀ fu sz fz r, runT ks xs gr inner fu sz fz = some r → runT (ks + 1) xs gr inner (fu + 1) sz fz = some r
  | 0, _, _, _, h => by simp [runT] at h
  | fu + 1, sz, fz, r, h => by
    rw [runT] at h ⊢
    split at h
    · cases h
    · rename_i P hP
      rw [unit_Share.mono _ _ _ _ hP]
      split at h
      · rename_i hl
        simp only [hl, if_true]
        split at h
        · rename_i hm
          rw [if_pos hm]
          exact runT_mono ks xs gr inner fu _ _ _ h
        · rename_i hm
          rw [if_neg hm]
          exact h
      · cases h
theorem free_Resolve.mono : ∀ a0 a1 k, LeO (free_Resolve.f k a0 a1) (free_Resolve.f (k + 1) a0 a1) := by
  intro xs inner k
  unfold free_Resolve.f
  refine LeO.bind (free_Ok.mono _ _) (fun ok => ?_)
  refine LeO.ite (LeO.refl _) (LeO.ite (LeO.refl _) (LeO.ite (LeO.refl _) (LeO.ite (LeO.refl _) ?_)))
  intro r h
  exact runT_mono _ _ _ _ _ _ _ _ h

theorem ite_get {α : Type} {c : Prop} [Decidable c] {a b : Option α} {r : α} {Q : Prop} (h : (if c then a else b) = some r) (h1 : a = some r → Q) (h2 : b = some r → Q) : Q := by
  by_cases hc : c
  · rw [if_pos hc] at h; exact h1 h
  · rw [if_neg hc] at h; exact h2 h
theorem l0_len (x0 x5 : List S26) (a : Int) : ∀ (k : Nat), (∀ b, free_Ok.l0 k x0 x5 a b = some true → x0.length ≤ 500) ∧ (∀ b c, free_Ok.j1 k x0 x5 a b c = some true → x0.length ≤ 500)
  | 0 => ⟨fun b h => by simp [free_Ok.l0] at h, fun b c h => by simp [free_Ok.j1] at h⟩
  | k + 1 => by
    obtain ⟨ih0, ih1⟩ := l0_len x0 x5 a k
    refine ⟨fun b h => ?_, fun b c h => ?_⟩
    · unfold free_Ok.l0 at h
      rw [factor_eq, factor_eq] at h
      simp only [Option.bind_some] at h
      have nn : ∀ {Q : Prop}, (none : Option Bool) = some true → Q := fun h => by cases h
      exact ite_get h (fun h => ite_get h (fun h => ite_get h (fun h => ite_get h (ih1 _ _) fun h => ite_get h (ih1 _ _) fun h => ite_get h (ih1 _ _) fun h => ite_get h (ih1 _ _) fun h => ite_get h (ih1 _ _) fun h => ite_get h (ih1 _ _) fun h =>
        ite_get h (fun h => ite_get h (fun h => ite_get h (ih1 _ _) (ih1 _ _)) (ih1 _ _)) (ih1 _ _)) nn) nn) (fun h => by injection h with h; have := of_decide_eq_true h; omega)
    · unfold free_Ok.j1 at h
      exact ite_get h (fun h => by cases h) (ih0 _)
theorem ok_len' {k : Nat} {xs : List S26} (h : free_Ok.f k xs = some true) : xs.length ≤ 500 := (l0_len _ _ _ k).1 _ h

set_option maxHeartbeats 2000000 in
set_option maxRecDepth 100000 in
theorem resolve_not (k : Nat) (A0 : Option Addr) (c0 : Nat) (xs : List S26) (inner : Int) (w : World) (hr0 : Kd.C k26 w A0 xs.length xs) (hc0 : xs.length ≤ c0) (h : free_Ok.f k xs = some false) :
    Calls Try.prog 5 #[.slice A0 xs.length c0, .int .i64 inner] w fun e w' => e = .returned (.slice none 0 0) ∧ Below w.heap.size w w' := by
  have hCl := Aside0.mk (free_Ok.calls k A0 c0 xs false w hr0 hc0 h)
  clear h hr0 hc0
  generalize xs.length = n at *
  go_enter Try.func5, Try.ntmps5
  go_wp2_with fail
  refine hCl.out.mono ?_
  rintro e w1 ⟨rfl, hb1⟩
  clear hCl
  go_wp2
  go_ret
  exact ⟨rfl, hb1⟩
set_option maxHeartbeats 2000000 in
set_option maxRecDepth 100000 in
theorem resolve_out (k : Nat) (A0 : Option Addr) (c0 : Nat) (xs : List S26) (inner : Int) (w : World) (hr0 : Kd.C k26 w A0 xs.length xs) (hc0 : xs.length ≤ c0) (h : free_Ok.f k xs = some true)
    (hi : inner < -8796093022208 ∨ (¬ inner < -8796093022208 ∧ 36028797018963968 < inner) ∨ (¬ inner < -8796093022208 ∧ ¬ 36028797018963968 < inner ∧ xs.length = 0)) :
    Calls Try.prog 5 #[.slice A0 xs.length c0, .int .i64 inner] w fun e w' => e = .returned (.slice none 0 0) ∧ Below w.heap.size w w' := by
  have hCl := Aside0.mk (free_Ok.calls k A0 c0 xs true w hr0 hc0 h)
  clear h hr0 hc0
  generalize xs.length = n at *
  rcases hi with h1 | ⟨h0, h1⟩ | ⟨h0, h2, h1⟩
  · have hl1 : decide (inner < -8796093022208) = true := decide_eq_true h1
    go_enter Try.func5, Try.ntmps5
    go_wp2_with fail
    refine hCl.out.mono ?_
    rintro e w1 ⟨rfl, hb1⟩
    clear hCl
    go_wp2
    go_ret
    exact ⟨rfl, hb1⟩
  · have hl1 : decide (inner < -8796093022208) = false := decide_eq_false h0
    have hl2 : decide (36028797018963968 < inner) = true := decide_eq_true h1
    go_enter Try.func5, Try.ntmps5
    go_wp2_with fail
    refine hCl.out.mono ?_
    rintro e w1 ⟨rfl, hb1⟩
    clear hCl
    go_wp2
    go_ret
    exact ⟨rfl, hb1⟩
  · have hl1 : decide (inner < -8796093022208) = false := decide_eq_false h0
    have hl2 : decide (36028797018963968 < inner) = false := decide_eq_false h2
    subst h1
    go_enter Try.func5, Try.ntmps5
    go_wp2_with fail
    refine hCl.out.mono ?_
    rintro e w1 ⟨rfl, hb1⟩
    clear hCl
    go_wp2
    go_ret
    exact ⟨rfl, hb1⟩

theorem free_Resolve.calls (k : Nat) (A0 : Option Addr) (c0 : Nat) (l0 : List (S26)) (a1 : Int) (r : List Int) (w : World) (hr0 : Kd.C k26 w A0 l0.length l0) (hc0 : l0.length ≤ c0) (h : free_Resolve.f k l0 a1 = some r) :
    Calls Try.prog 5 #[.slice A0 l0.length c0, .int .i64 a1] w fun e w' => ∃ v0_ : Value, e = .returned (v0_) ∧ Kd.R (Kd.int .i64) 2 w' w.heap.size (fun _ => True) v0_ r ∧ Below w.heap.size w w' := by
  have nil : ∀ e w', (e = Ending.returned (.slice none 0 0) ∧ Below w.heap.size w w') → ∃ v0_ : Value, e = .returned (v0_) ∧ Kd.R (Kd.int .i64) 2 w' w.heap.size (fun _ => True) v0_ [] ∧ Below w.heap.size w w' :=
    fun e w' ⟨he, hb⟩ => ⟨_, he, Kd.R_nil _ _ _ _ _, hb⟩
  unfold free_Resolve.f at h
  rw [Option.bind_eq_some_iff] at h
  obtain ⟨ok, hok, h⟩ := h
  cases ok with
  | false =>
    rw [if_pos rfl] at h
    obtain rfl : [] = r := by injection h
    exact (resolve_not k A0 c0 l0 a1 w hr0 hc0 hok).mono nil
  | true =>
    rw [if_neg (by simp)] at h
    by_cases h1 : a1 < -8796093022208
    · rw [if_pos h1] at h
      obtain rfl : [] = r := by injection h
      exact (resolve_out k A0 c0 l0 a1 w hr0 hc0 hok (.inl h1)).mono nil
    · rw [if_neg h1] at h
      by_cases h2 : 36028797018963968 < a1
      · rw [if_pos h2] at h
        obtain rfl : [] = r := by injection h
        exact (resolve_out k A0 c0 l0 a1 w hr0 hc0 hok (.inr (.inl ⟨h1, h2⟩))).mono nil
      · rw [if_neg h2] at h
        by_cases h3 : l0.length = 0
        · rw [if_pos h3] at h
          obtain rfl : [] = r := by injection h
          exact (resolve_out k A0 c0 l0 a1 w hr0 hc0 hok (.inr (.inr ⟨h1, h2, h3⟩))).mono nil
        · rw [if_neg h3] at h
          obtain ⟨ad, ea, _⟩ := at_T26 hr0 0 (by omega) (by omega)
          subst ea
          exact resolve_calls k k ad c0 l0 a1 r w hr0 hc0 (by have := ok_len' hok; omega) (by omega) hok (by omega) (by omega) h
end Go.Proofs.Ytkokdkhpcdjihaa.QFree
