import Derived.Test.YtppapffkidkonaaDoorPoolC
import Derived.Lib.LaidTab
import Derived.StillTailTactics
import Derived.Laws.Concat
import Derived.Lib.ItoaLen
namespace Go.Proofs.YtppapffkidkonaaDoor
open Go.RowKit
set_option linter.unusedVariables false
set_option linter.unusedSimpArgs false

theorem tab_global : Tryd.prog.globalNamed "internal/strconv.uint64pow10" = some 1 := by kernel_rfl
/-- What the listed variables hold. -/
structure Env (w : World) : Prop where
  et : ErrType w
  tab : Lib.TabIs Tryd.prog w "internal/strconv.uint64pow10" .u64 Lib.pow10Tab
theorem Env.below {w w' : World} (h : Env w) (hb : Below w.heap.size w w') : Env w' := by
  refine ⟨h.et.below hb, ?_⟩
  have h2 := h.tab
  unfold Lib.TabIs World.var? at h2 ⊢
  rw [tab_global] at h2 ⊢
  simp only [Option.bind_some] at h2 ⊢
  have hlt : 1 < w.heap.size := by
    rcases Nat.lt_or_ge 1 w.heap.size with h' | h'
    · exact h'
    · rw [Array.getElem?_eq_none h'] at h2; cases h2
  rw [hb.block _ hlt]
  exact h2
theorem below_grow' (w : World) (k : Nat) (os : Array Obj) : Below w.heap.size w (Sort.grow (w.drewN k) os) := by
  refine ⟨rfl, rfl, rfl, ?_, fun i hi => ?_⟩
  · show w.heap.size ≤ (w.heap ++ os).size
    rw [Array.size_append]; omega
  · show (w.heap ++ os)[i]? = w.heap[i]?
    rw [Array.getElem?_append_left hi]
theorem itoa_calls (n : Int) (h0 : -9223372036854775808 ≤ n) (h1 : n ≤ 9223372036854775807) (w : World) (he : Env w) :
    Calls Tryd.prog 19 #[.int .i64 n] w fun e w' => ∃ s : ByteArray, e = .returned (.string s) ∧ (s.size : Int) ≤ 8388608 ∧ Below w.heap.size w w' :=
  (Tryd.strconv_Itoa n h0 h1 w he.tab).mono fun e w' ⟨he, k, os, hw⟩ => ⟨_, he, by
    have := Lib.itoa_length_le n h0 h1
    show (((Lib.itoa n).toArray.size : Nat) : Int) ≤ 8388608
    rw [List.size_toArray]; omega, hw ▸ below_grow' w k os⟩

set_option maxHeartbeats 2000000 in
set_option maxRecDepth 100000 in
theorem free_not {B : Nat} {W : World} {g : Nat} {v : Value} {most : Int} {ps : List (Int × Bool)} {taken : Int} (h : Pl B W g v most ps taken) (he : Env W) (hn : ps.length ≤ 10000) (a t : Int) (ha0 : -9223372036854775808 ≤ a) (ha1 : a ≤ 9223372036854775807) (hb : hasB ps a t = false) :
    Calls Tryd.prog 8 #[.pointer (some ⟨g, 0, none⟩), .agg #[.int .i64 a, .int .i64 t]] W fun e w' => ∃ j, e = .returned (.iface 74 (.pointer (some ⟨j, 0, none⟩))) ∧ JoinErr w' j 3 ∧ Below W.heap.size W w' := by
  have hu := Tryd.underlying27
  have hb0 : Below W.heap.size W (W.alloc (.cells #[.int .i64 a, .int .i64 t] 27)) := (Below.refl _ _).alloc (Nat.le_refl _) _
  have H1 := Lib.hid (has_calls (h.below hb0) hn a t)
  rw [hb] at H1
  have HE := Lib.hid (he.below hb0)
  have HB0 := Lib.hid hb0
  clear h he hb hb0
  go_enter Tryd.func8, Tryd.ntmps8
  go_wp2_with fail
  refine H1.out.mono ?_
  clear H1
  rintro e w1 ⟨rfl, hb1⟩
  have y1 := (hb1.cell (p := ⟨W.heap.size, 0, none⟩) (by simp))
  have HE1 := Lib.hid (HE.out.below hb1)
  have HB1 := Lib.hid (HB0.out.trans (hb1.mono HB0.out.size))
  have y2 : w1.cell? ⟨W.heap.size, 0, none⟩ = some (.int .i64 a) := y1.trans (by rw [World.cell?_alloc_at _ _ _ _ rfl]; rfl)
  clear y1 hb1 HE HB0
  go_wp2_with fail
  refine (itoa_calls a ha0 ha1 _ HE1.out).mono ?_
  rintro e w2 ⟨s, rfl, hsz, hb2⟩
  have HB2 := Lib.hid (HB1.out.trans (hb2.mono HB1.out.size))
  clear hb2 HE1 HB1 y2
  go_wp2_with fail
  refine (wrong_calls 3 _ _).mono ?_
  rintro e w3 ⟨j, rfl, hj, hb3⟩
  have HB3 := Lib.hid (HB2.out.trans (hb3.mono HB2.out.size))
  clear hb3 HB2
  have HJ := Lib.hid hj
  clear hj
  go_wp2
  go_ret
  exact ⟨j, rfl, HJ.out, HB3.out⟩
end Go.Proofs.YtppapffkidkonaaDoor
