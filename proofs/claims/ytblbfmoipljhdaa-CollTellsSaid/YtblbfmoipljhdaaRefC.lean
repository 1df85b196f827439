import Derived.Test.YtblbfmoipljhdaaRefB
namespace Go.Proofs.Ytblbfmoipljhdaa
open Go.RowKit
set_option linter.unusedVariables false
set_option linter.unusedSimpArgs false

/-! ### Tame -/
def tm (x : Int) : Int := Int.tmod x 1099511627776
def tmC (xs : List Int) (i : Nat) : List Value := (List.range i).map fun p => Value.int .i64 (tm (xs.getD p 0))
theorem tmC_snoc (xs : List Int) (i : Nat) : tmC xs (i + 1) = tmC xs i ++ [.int .i64 (tm (xs.getD i 0))] := by simp [tmC, List.range_succ]
theorem tm_bound (x : Int) : -1099511627776 ≤ tm x ∧ tm x ≤ 1099511627776 := by
  unfold tm
  have h1 := Int.tmod_lt_of_pos x (b := 1099511627776) (by omega)
  have h2 := Int.lt_tmod_of_pos x (b := 1099511627776) (by omega)
  omega
def tmL (xs : List Int) : List Int := ((List.range (min 60 xs.length)).map fun p => tm (xs.getD p 0))
theorem tmL_length (xs : List Int) : (tmL xs).length = min 60 xs.length := by simp [tmL]
theorem tmC_tmL (xs : List Int) : tmC xs (min 60 xs.length) = (tmL xs).map (Value.int .i64) := by simp [tmC, tmL]
theorem info_i64 : (Try.prog.info? 2).map (fun i => (i.zero, i.size, i.bytes)) = some (some (.int .i64 0), 1, 8) := by kernel_rfl

theorem cells_one_new' (w : World) (u : Value) (T : TypeId) : ∀ j x, [u][j]? = some x → (w.alloc (.cells #[u] T)).cell? ((⟨w.heap.size, 0, none⟩ : Addr).add j) = some x := by
  intro j x hj
  rcases j with _ | j
  · exact (World.cell?_alloc_at (w := w) #[u] T w.heap.size 0 rfl).trans hj
  · simp at hj
structure Tm (W wr : World) (xs : List Int) (v : Value) (i : Nat) : Prop where
  row : wr.ownsRow W.heap.size 2 1 v i (tmC xs i)
  below : Below W.heap.size W wr

set_option maxHeartbeats 4000000 in
set_option maxRecDepth 100000 in
theorem tame_calls (W : World) (A : Option Addr) (n cap : Nat) (xs : List Int) (hn : n = xs.length) (hcap : n ≤ cap) (hw : ∀ x ∈ xs, -9223372036854775808 ≤ x ∧ x ≤ 9223372036854775807) (hx : ∀ i (hi : i < xs.length), ∃ p : Addr, A = some p ∧ W.cell? (p.add i) = some (.int .i64 xs[i]) ∧ (p.add i).block < W.heap.size) :
    Calls Try.prog 8 #[.slice A n cap, .int .i64 1099511627776] W fun e w' => ∃ v, e = .returned v ∧ Tm W w' xs v (min 60 n) := by
  have HX : Hid (∀ y, y < n → ∃ px : Addr, A = some px ∧ W.cell? (px.add y) = some (.int .i64 (xs.getD y 0)) ∧ (px.add y).block < W.heap.size ∧ (-9223372036854775808 ≤ xs.getD y 0 ∧ xs.getD y 0 ≤ 9223372036854775807)) := Lib.hid (fun y hy => by
    obtain ⟨p, e, c, b⟩ := hx y (by omega)
    have hyl : y < xs.length := by omega
    have e1 : xs.getD y 0 = xs[y] := by rw [List.getD_eq_getElem?_getD]; simp [hyl]
    rw [e1]; exact ⟨p, e, c, b, hw _ (List.getElem_mem _)⟩)
  clear hx hn hw
  obtain ⟨i0, hi, hzz⟩ := Option.map_eq_some_iff.1 info_i64
  simp only [Prod.mk.injEq] at hzz
  obtain ⟨hz0, hz1, hz2⟩ := hzz
  have HI := Lib.hid (And.intro hi (And.intro hz0 (And.intro hz1 hz2)))
  clear hi hz0 hz1 hz2
  have HR0 : Hid (Tm W W xs (.slice none 0 0) 0) := Lib.hid ⟨World.ownsRow_nil _ _ _ _, Below.refl _ _⟩
  go_enter Try.func8, Try.ntmps8
  go_wp2_with fail
  go_loopg [5, 6] n (fun kq v5 v6 wr => ∃ (i : Nat), v6 = .int .i64 i ∧ i ≤ n ∧ i ≤ 60 ∧ n - i ≤ kq ∧ Hid (Tm W wr xs v5 i))
  case atStart => exact ⟨0, rfl, by omega, by omega, by omega, HR0.out⟩
  case round =>
    obtain ⟨i, rfl, hi, hi6, hiq, HR⟩ := hrel
    by_cases hin : i < n
    · have hz1 : (i : Int) < (n : Int) := by omega
      have hz1' : decide ((i : Int) < (n : Int)) = true := decide_eq_true hz1
      have hz0 : (0 : Int) ≤ (i : Int) := by omega
      by_cases h60 : i < 60
      · have hz2 : (i : Int) < 60 := by omega
        have hz2' : decide ((i : Int) < 60) = true := decide_eq_true hz2
        obtain ⟨px, rfl, hcx, hbx, hb1, hb2⟩ := HX.out i hin
        have c0 := (HR.out.below.cell (p := px.add i) hbx).trans hcx
        clear hcx hbx
        obtain ⟨AA, capA, hv, hcA⟩ := row_form0 HR.out.row
        subst hv
        have HRow := Lib.hid HR.out.row
        have HBW : Hid (W.heap.size ≤ wr.heap.size) := Lib.hid HR.out.below.size
        have HSN := Lib.hid (tmC_snoc xs i)
        have htb := tm_bound (xs.getD i 0)
        have htm : Hid (tm (xs.getD i 0) = Int.tmod (xs.getD i 0) 1099511627776) := Lib.hid rfl
        generalize tm (xs.getD i 0) = ti at *
        generalize xs.getD i 0 = x at *
        have hti := htm.out.symm
        obtain ⟨ht1, ht2⟩ := htb
        go_wp2_with (at_builtin; refine wpList_append_any _ rfl (.tmp 17) (.tmp 24) 23 rfl W.heap.size 2 i0 (.int .i64 0) 1 8 Try.underlying23 HI.out.1 HI.out.2.1 HI.out.2.2.1 HI.out.2.2.2 rfl (by decide) (.slice AA i capA) i (tmC xs i) rfl (HRow.out.alloc _) (.slice (some ⟨wr.heap.size, 0, none⟩) 1 1) 1 [.int .i64 ti] rfl ?aN rfl ?aO (by unfold maxLen; omega) (by omega) ?aB ?_; (case aN => exact .inl ⟨_, _, rfl, cells_one_new' _ _ _⟩); (case aO => simp [Value.oneCell']); (case aB => have := HBW.out; simp; omega); intro v' wA hown hgrow _; have HR2 : Hid (Tm W wA xs v' (i + 1)) := Lib.hid ⟨by rw [HSN.out]; exact hown, grown_below HR.out.below (fun k e => (HRow.out.lt k e).1) HBW.out hgrow⟩; clear hown hgrow HRow HBW HR)
        go_roundg (n - (i + 1))
        case measure => omega
        case rel => exact ⟨i + 1, by go_num, by omega, by omega, Nat.le_refl _, HR2.out⟩
      · have hz2 : ¬ (i : Int) < 60 := by omega
        have hz2' : decide ((i : Int) < 60) = false := decide_eq_false hz2
        obtain ⟨AA, capA, hv, hcA⟩ := row_form0 HR.out.row
        subst hv
        have hi60 : min 60 n = i := by omega
        go_wp2_with fail
        go_ret
        exact ⟨_, rfl, HR.out⟩
    · have hz1 : ¬ (i : Int) < (n : Int) := by omega
      have hz1' : decide ((i : Int) < (n : Int)) = false := decide_eq_false hz1
      obtain ⟨AA, capA, hv, hcA⟩ := row_form0 HR.out.row
      subst hv
      have hi60 : min 60 n = i := by omega
      go_wp2_with fail
      go_ret
      exact ⟨_, rfl, HR.out⟩
end Go.Proofs.Ytblbfmoipljhdaa
