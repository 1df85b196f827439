import Derived.WalkKit
import Derived.Below
import Derived.Lib.Hide
import Derived.Lib.QuietBelow
import Derived.Deep.LoopGhost
import Derived.LoopTactic
import Derived.Deep.QuietTactic
import Derived.BigQuiet
import Derived.Deep.Cut
import Derived.Deep.CutRange
import Derived.Test.YtblbfmoipljhdaaProg
namespace Go.Proofs.Ytblbfmoipljhdaa
open Go.RowKit
set_option linter.unusedVariables false
set_option linter.unusedSimpArgs false

/-! ### rows, told by functions -/
def sw (f : Nat → Int) (i j : Nat) : Nat → Int := fun k => if k = j then f i else if k = i then f j else f k
theorem sw_l (f : Nat → Int) (i j : Nat) : sw f i j i = f j := by unfold sw; split <;> simp_all
theorem sw_r (f : Nat → Int) (i j : Nat) : sw f i j j = f i := by unfold sw; simp
theorem sw_o (f : Nat → Int) (i j k : Nat) (h1 : k ≠ i) (h2 : k ≠ j) : sw f i j k = f k := by unfold sw; rw [if_neg h2, if_neg h1]
theorem sw_sw (f : Nat → Int) (i j : Nat) : sw (sw f i j) i j = f := by
  funext k
  unfold sw
  by_cases h1 : k = j
  · by_cases h2 : i = j
    · subst h1; subst h2; simp
    · subst h1; simp [h2]
  · by_cases h2 : k = i
    · subst h2; simp [h1]
    · simp [h1, h2]

/-- By exchanges within a range. -/
inductive Pm (a b : Nat) : (Nat → Int) → (Nat → Int) → Prop
  | refl (f) : Pm a b f f
  | step {f g : Nat → Int} (i j : Nat) (hi : a ≤ i ∧ i < b) (hj : a ≤ j ∧ j < b) (h : Pm a b f g) : Pm a b f (sw g i j)
theorem Pm.trans {a b : Nat} {f g h : Nat → Int} (h1 : Pm a b f g) (h2 : Pm a b g h) : Pm a b f h := by
  induction h2 with
  | refl => exact h1
  | step i j hi hj _ ih => exact ih.step i j hi hj
theorem Pm.mono {a b a' b' : Nat} {f g : Nat → Int} (h : Pm a b f g) (h1 : a' ≤ a) (h2 : b ≤ b') : Pm a' b' f g := by
  induction h with
  | refl => exact .refl _
  | step i j hi hj _ ih => exact ih.step i j (by omega) (by omega)
theorem Pm.out {a b : Nat} {f g : Nat → Int} (h : Pm a b f g) : ∀ k, ¬ (a ≤ k ∧ k < b) → g k = f k := by
  induction h with
  | refl => exact fun _ _ => rfl
  | step i j hi hj _ ih => exact fun k hk => (sw_o _ i j k (by omega) (by omega)).trans (ih k hk)
theorem Pm.from {a b : Nat} {f g : Nat → Int} (h : Pm a b f g) : ∀ k, a ≤ k → k < b → ∃ l, a ≤ l ∧ l < b ∧ g k = f l := by
  induction h with
  | refl => exact fun k h1 h2 => ⟨k, h1, h2, rfl⟩
  | step i j hi hj _ ih =>
    intro k h1 h2
    by_cases e : k = j
    · subst e; rw [sw_r]; exact ih i hi.1 hi.2
    · by_cases e2 : k = i
      · subst e2; rw [sw_l]; exact ih j hj.1 hj.2
      · rw [sw_o _ i j k e2 e]; exact ih k h1 h2
theorem Pm.to {a b : Nat} {f g : Nat → Int} (h : Pm a b f g) : ∀ k, a ≤ k → k < b → ∃ l, a ≤ l ∧ l < b ∧ f k = g l := by
  induction h with
  | refl => exact fun k h1 h2 => ⟨k, h1, h2, rfl⟩
  | step i j hi hj _ ih =>
    intro k h1 h2
    obtain ⟨l, hl1, hl2, e⟩ := ih k h1 h2
    by_cases e1 : l = j
    · subst e1; exact ⟨i, hi.1, hi.2, by rw [sw_l]; exact e⟩
    · by_cases e2 : l = i
      · subst e2; exact ⟨j, hj.1, hj.2, by rw [sw_r]; exact e⟩
      · exact ⟨l, hl1, hl2, by rw [sw_o _ i j l e2 e1]; exact e⟩
/-- All different. -/
def Ij (n : Nat) (f : Nat → Int) : Prop := ∀ i j, i < n → j < n → f i = f j → i = j
theorem Ij.sw {n : Nat} {f : Nat → Int} (h : Ij n f) (i j : Nat) (hi : i < n) (hj : j < n) : Ij n (sw f i j) := by
  intro p q hp hq e
  have key : ∀ p, p < n → ∃ l, l < n ∧ Proofs.Ytblbfmoipljhdaa.sw f i j p = f l ∧ (l = if p = j then i else if p = i then j else p) := by
    intro p hp
    unfold Proofs.Ytblbfmoipljhdaa.sw
    by_cases e1 : p = j
    · exact ⟨i, hi, by simp [e1], by simp [e1]⟩
    · by_cases e2 : p = i
      · refine ⟨j, hj, ?_, ?_⟩ <;> simp [e1, e2] <;> intro h <;> subst h <;> simp_all
      · exact ⟨p, hp, by simp [e1, e2], by simp [e1, e2]⟩
  obtain ⟨l, hl, e1, e2⟩ := key p hp
  obtain ⟨m, hm, e3, e4⟩ := key q hq
  rw [e1, e3] at e
  have := h l m hl hm e
  rw [e2, e4] at this
  split at this <;> split at this <;> (try split at this) <;> (try split at this) <;> omega
theorem Pm.ij {a b n : Nat} {f g : Nat → Int} (h : Pm a b f g) (hb : b ≤ n) (hf : Ij n f) : Ij n g := by
  induction h with
  | refl => exact hf
  | step i j hi hj _ ih => exact ih.sw i j (by omega) (by omega)
/-- By order, then by place. -/
def lex (K : Int → Int) (x y : Int) : Prop := K x < K y ∨ (K x = K y ∧ x < y)
theorem lex.trans {K : Int → Int} {x y z : Int} (h1 : lex K x y) (h2 : lex K y z) : lex K x z := by unfold lex at *; omega
theorem lex.total {K : Int → Int} {x y : Int} (h : x ≠ y) : lex K x y ∨ lex K y x := by unfold lex; omega
theorem lex.irrefl {K : Int → Int} {x : Int} : ¬ lex K x x := by unfold lex; omega
def So (K : Int → Int) (f : Nat → Int) (a b : Nat) : Prop := ∀ i j, a ≤ i → i < j → j < b → lex K (f i) (f j)

/-! ### the row in memory -/
/-- Block B holds the row f of n numbers; all else is as it was, but for new blocks. -/
structure Sr (w0 W : World) (B n : Nat) (f : Nat → Int) : Prop where
  os : W.os = w0.os
  tape : W.tape = w0.tape
  output : W.output = w0.output
  size : w0.heap.size ≤ W.heap.size
  lt : B < w0.heap.size
  far : ∀ k, k < w0.heap.size → k ≠ B → W.heap[k]? = w0.heap[k]?
  row : ∃ cs, W.heap[B]? = some (.cells cs 3 (0, 0)) ∧ ∀ i, i < n → cs[i]? = some (.int .i64 (f i))
section
variable {w0 W W' : World} {B n : Nat} {f g : Nat → Int}
theorem Sr.cell (h : Sr w0 W B n f) (i : Nat) (hi : i < n) : W.cell? ⟨B, i, none⟩ = some (.int .i64 (f i)) := by
  obtain ⟨cs, h1, h2⟩ := h.row
  simp [World.cell?, h1, h2 i hi]
theorem Sr.froz (h : Sr w0 W B n f) (i : Nat) : W.frozen? ⟨B, i, none⟩ = false := by
  obtain ⟨cs, h1, h2⟩ := h.row
  simp [World.frozen?, h1]
theorem Sr.below (h : Sr w0 W B n f) (hb : Below W.heap.size W W') : Sr w0 W' B n f := by
  have hs := h.size
  have hl := h.lt
  refine ⟨hb.os.trans h.os, hb.tape.trans h.tape, hb.output.trans h.output, Nat.le_trans hs hb.size, h.lt, fun k h1 h2 => (hb.block k (by omega)).trans (h.far k h1 h2), ?_⟩
  obtain ⟨cs, h1, h2⟩ := h.row
  exact ⟨cs, (hb.block B (by omega)).trans h1, h2⟩
theorem Sr.congr (h : Sr w0 W B n f) (e : ∀ i, i < n → f i = g i) : Sr w0 W B n g :=
  ⟨h.os, h.tape, h.output, h.size, h.lt, h.far, by
    obtain ⟨cs, h1, h2⟩ := h.row
    exact ⟨cs, h1, fun i hi => by rw [h2 i hi, e i hi]⟩⟩
theorem Sr.set (h : Sr w0 W B n f) (i : Nat) (x : Int) : Sr w0 (W.setCell ⟨B, i, none⟩ (.int .i64 x)) B n (fun k => if k = i then x else f k) := by
  obtain ⟨cs, h1, h2⟩ := h.row
  refine ⟨h.os, h.tape, h.output, by simp only [World.setCell, Array.size_modify]; exact h.size, h.lt, fun k h3 h4 => (Below.heap_setCell W ⟨B, i, none⟩ _ k h4).trans (h.far k h3 h4), cs.setIfInBounds i (.int .i64 x), ?_, fun k hk => ?_⟩
  · simp [World.setCell, Array.getElem?_modify, h1]
  · rw [Array.getElem?_setIfInBounds]
    have hlt := (Array.getElem?_eq_some_iff.1 (h2 k hk)).1
    by_cases e : i = k
    · subst e; simp [hlt]
    · rw [if_neg e, if_neg (fun e' => e e'.symm)]; exact h2 k hk
/-- Two numbers are exchanged: the worlds, named. -/
theorem Sr.swap (h : Sr w0 W B n f) (i j : Nat) (hi : i < n) (hj : j < n) :
    ∃ w1 w2 : World, W.setCell ⟨B, i, none⟩ (.int .i64 (f j)) = w1 ∧ w1.setCell ⟨B, j, none⟩ (.int .i64 (f i)) = w2 ∧ (W.cell? ⟨B, i, none⟩ = some (.int .i64 (f i)) ∧ W.cell? ⟨B, j, none⟩ = some (.int .i64 (f j)) ∧ W.frozen? ⟨B, i, none⟩ = false ∧ W.frozen? ⟨B, j, none⟩ = false) ∧ (∃ v, w1.cell? ⟨B, j, none⟩ = some (.int .i64 v)) ∧ w1.frozen? ⟨B, j, none⟩ = false ∧ Hid (Sr w0 w2 B n (sw f i j)) := by
  have h1 := h.set i (f j)
  have h2 := h1.set j (f i)
  exact ⟨_, _, rfl, rfl, ⟨h.cell i hi, h.cell j hj, h.froz i, h.froz j⟩, ⟨_, h1.cell j hj⟩, h1.froz j, h2.congr (fun k _ => by unfold sw; rfl)⟩
end

/-! ### the comparison -/
theorem nan_calls (x : Int) (w : World) : Calls Try.prog 15 #[.int .i64 x] w fun e w' => e = .returned (.bool false) ∧ w' = w := by
  go_enter Try.func15, Try.ntmps15
  go_wp2
  go_ret
  exact ⟨by simp, rfl⟩
def cmpv (x y : Int) : Int := if x < y then -1 else if y < x then 1 else 0
theorem compare_calls (x y : Int) (w : World) : Calls Try.prog 13 #[.int .i64 x, .int .i64 y] w fun e w' => e = .returned (.int .i64 (cmpv x y)) ∧ w' = w := by
  by_cases h1 : x < y
  · have e : cmpv x y = -1 := by unfold cmpv; rw [if_pos h1]
    rw [e]
    go_enter Try.func13, Try.ntmps13
    go_wp2_with fail
    refine (nan_calls x _).mono ?_
    rintro e w1 ⟨rfl, rfl⟩
    go_wp2_with fail
    refine (nan_calls y _).mono ?_
    rintro e w1 ⟨rfl, rfl⟩
    go_wp2_with fail
    go_ret
    exact ⟨rfl, rfl⟩
  · by_cases h2 : y < x
    · have e : cmpv x y = 1 := by unfold cmpv; rw [if_neg h1, if_pos h2]
      rw [e]
      go_enter Try.func13, Try.ntmps13
      go_wp2_with fail
      refine (nan_calls x _).mono ?_
      rintro e w1 ⟨rfl, rfl⟩
      go_wp2_with fail
      refine (nan_calls y _).mono ?_
      rintro e w1 ⟨rfl, rfl⟩
      go_wp2_with fail
      go_ret
      exact ⟨rfl, rfl⟩
    · have e : cmpv x y = 0 := by unfold cmpv; rw [if_neg h1, if_neg h2]
      rw [e]
      go_enter Try.func13, Try.ntmps13
      go_wp2_with fail
      refine (nan_calls x _).mono ?_
      rintro e w1 ⟨rfl, rfl⟩
      go_wp2_with fail
      refine (nan_calls y _).mono ?_
      rintro e w1 ⟨rfl, rfl⟩
      go_wp2_with fail
      go_ret
      exact ⟨rfl, rfl⟩
/-- What is asked of the orders: block bx holds the slice; its numbers stand there. -/
structure Ord (W : World) (bx : Nat) (A : Option Addr) (m cap : Nat) (os : List Int) : Prop where
  box : W.cell? ⟨bx, 0, none⟩ = some (.slice A m cap)
  len : m = os.length
  le : m ≤ cap
  at' : ∀ i (hi : i < os.length), ∃ p : Addr, A = some p ∧ W.cell? (p.add i) = some (.int .i64 os[i])
def Kof (os : List Int) (x : Int) : Int := os.getD x.toNat 0
theorem cmp_calls (W : World) (bx : Nat) (A : Option Addr) (m cap : Nat) (os : List Int) (h : Ord W bx A m cap os) (x y : Int) (hx : 0 ≤ x ∧ x < m) (hy : 0 ≤ y ∧ y < m) :
    Calls Try.prog 12 #[.int .i64 x, .int .i64 y, .pointer (some ⟨bx, 0, none⟩)] W fun e w' => e = .returned (.int .i64 (cmpv (Kof os x) (Kof os y))) ∧ ∃ q, w' = W.drewN q := by
  obtain ⟨i, rfl⟩ : ∃ i : Nat, x = i := ⟨x.toNat, by omega⟩
  obtain ⟨j, rfl⟩ : ∃ j : Nat, y = j := ⟨y.toNat, by omega⟩
  have hm := h.len
  have hil : i < os.length := by omega
  have hjl : j < os.length := by omega
  obtain ⟨p, rfl, c1⟩ := h.at' i hil
  obtain ⟨p', e', c2⟩ := h.at' j hjl
  cases e'
  have e1 : Kof os (i : Int) = os[i] := by unfold Kof; simp [hil]
  have e2 : Kof os (j : Int) = os[j] := by unfold Kof; simp [hjl]
  rw [e1, e2]
  have c0 := h.box
  obtain ⟨hx0, hx1⟩ := hx
  obtain ⟨hy0, hy1⟩ := hy
  generalize os[i] = u at *
  generalize os[j] = v at *
  have cC : ∀ n, Calls Try.prog 13 #[.int .i64 u, .int .i64 v] (W.drewN n) fun e w' => e = .returned (.int .i64 (cmpv u v)) ∧ w' = W.drewN n := fun n => compare_calls u v _
  clear h hm e1 e2
  go_enter Try.func12, Try.ntmps12
  go_wp2_with fail
  go_quiet (exact Calls.quiet_of_same (cC _))
  go_wp2
  go_ret
  exact ⟨rfl, _, rfl⟩
end Go.Proofs.Ytblbfmoipljhdaa
