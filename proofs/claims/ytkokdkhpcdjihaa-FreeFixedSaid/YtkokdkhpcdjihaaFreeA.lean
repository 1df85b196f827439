import Derived.Test.YtkokdkhpcdjihaaQFreex3
import Derived.Lib.QuietBelow
namespace Go.Proofs.Ytkokdkhpcdjihaa
open Go.Sort Go.RowKit Go.Proofs.YtkokdkhpcdjihaaW.PrintWords Go.Proofs.YtkokdkhpcdjihaaW.PrintLast Go.Proofs.YtkokdkhpcdjihaaW.PrintMore
open QFree

/-- A row of the call's own whose cells begin with these. -/
def RowV (W : World) (b e : Nat) (vs : List Value) : Prop := ∃ cur : Array Value, W.heap[b]? = some (.cells cur e (0, 0)) ∧ ∀ (j : Nat) (v : Value), vs[j]? = some v → cur[j]? = some v
theorem RowV.lt {W : World} {b e : Nat} {vs : List Value} (h : RowV W b e vs) : b < W.heap.size := by
  obtain ⟨cur, hc, _⟩ := h
  exact (Array.getElem?_eq_some_iff.1 hc).1
theorem RowV.cell {W : World} {b e : Nat} {vs : List Value} (h : RowV W b e vs) {j : Nat} {v : Value} (hj : vs[j]? = some v) : W.cell? ⟨b, j, none⟩ = some v := by
  obtain ⟨cur, hc, hv⟩ := h
  exact (cell_of_row W b j _ _ _ hc).trans (hv j v hj)
theorem RowV.f {W : World} {b e : Nat} {vs : List Value} (h : RowV W b e vs) (j : Nat) : W.frozen? ⟨b, j, none⟩ = false := by
  obtain ⟨cur, hc, _⟩ := h
  exact frozen_of_row W b j _ _ hc
theorem RowV.move {W W' : World} {b e : Nat} {vs : List Value} (h : RowV W b e vs) (hm : W'.heap[b]? = W.heap[b]?) : RowV W' b e vs := by
  obtain ⟨cur, hc, hv⟩ := h
  exact ⟨cur, hm.trans hc, hv⟩
theorem RowV.below {W W' : World} {b e : Nat} {vs : List Value} (h : RowV W b e vs) (hb : Below W.heap.size W W') : RowV W' b e vs := h.move (hb.block b h.lt)
theorem RowV.alloc {W : World} {b e : Nat} {vs : List Value} (h : RowV W b e vs) (o : Obj) : RowV (W.alloc o) b e vs := h.move (Below.heap_alloc W o b h.lt)
theorem RowV.other {W : World} {b e : Nat} {vs : List Value} (h : RowV W b e vs) (a : Addr) (v : Value) (hne : b ≠ a.block) : RowV (W.setCell a v) b e vs := h.move (heap_setCell_other W a b v hne)
theorem RowV.set {W : World} {b e : Nat} {vs : List Value} (h : RowV W b e vs) (j : Nat) (v : Value) : RowV (W.setCell ⟨b, j, none⟩ v) b e (vs.set j v) := by
  obtain ⟨cur, hc, hv⟩ := h
  refine ⟨cur.setIfInBounds j v, heap_setCell_same W b j _ _ v hc, fun i u hi => ?_⟩
  rw [List.getElem?_set] at hi
  rw [Array.getElem?_setIfInBounds]
  by_cases e1 : j = i
  · subst e1
    simp only [if_true] at hi ⊢
    by_cases hl : j < vs.length
    · rw [if_pos hl] at hi
      have h2 := hv j (vs[j]) (by simp [hl])
      have hlt : j < cur.size := by
        by_cases hs : j < cur.size
        · exact hs
        · rw [Array.getElem?_eq_none (by omega)] at h2; cases h2
      rw [if_pos hlt]; exact hi
    · rw [if_neg hl] at hi; cases hi
  · rw [if_neg e1] at hi ⊢
    exact hv i u hi

/-- A row of the call's own of so many cells. -/
def RowC (W : World) (b e c : Nat) : Prop := ∃ cur : Array Value, W.heap[b]? = some (.cells cur e (0, 0)) ∧ cur.size = c
theorem RowC.move {W W' : World} {b e c : Nat} (h : RowC W b e c) (hm : W'.heap[b]? = W.heap[b]?) : RowC W' b e c := by
  obtain ⟨cur, hc, hv⟩ := h
  exact ⟨cur, hm.trans hc, hv⟩
theorem RowC.other {W : World} {b e c : Nat} (h : RowC W b e c) (a : Addr) (v : Value) (hne : b ≠ a.block) : RowC (W.setCell a v) b e c := h.move (heap_setCell_other W a b v hne)
theorem RowC.set {W : World} {b e c : Nat} (h : RowC W b e c) (j : Nat) (v : Value) : RowC (W.setCell ⟨b, j, none⟩ v) b e c := by
  obtain ⟨cur, hc, hv⟩ := h
  exact ⟨cur.setIfInBounds j v, heap_setCell_same W b j _ _ v hc, by rw [Array.size_setIfInBounds]; exact hv⟩

def ints (l : List Int) : List Value := l.map (Value.int .i64)
def bools (l : List Bool) : List Value := l.map Value.bool
theorem ints_at (l : List Int) (i : Nat) (h : i < l.length) : (ints l)[i]? = some (.int .i64 (l.getD i 0)) := by simp [ints, h]
theorem bools_at (l : List Bool) (i : Nat) (h : i < l.length) : (bools l)[i]? = some (.bool (l.getD i false)) := by simp [bools, h]
theorem ints_set (l : List Int) (i : Nat) (x : Int) : (ints l).set i (.int .i64 x) = ints (l.set i x) := by simp [ints, List.map_set]
theorem bools_set (l : List Bool) (i : Nat) (x : Bool) : (bools l).set i (.bool x) = bools (l.set i x) := by simp [bools, List.map_set]

def itV (x : S26) : Value := .agg #[.int .i64 x.f0, .int .i64 x.f1, .int .i64 x.f2, .int .i64 x.f3, .int .i64 x.f4, .int .i64 x.f5]

/-- An item's weight. -/
def wt0 (gr : Bool) (x : S26) : Int := if gr then x.f3 else wrap64 (x.f0 * x.f4)

set_option maxRecDepth 100000 in
theorem weight_calls (g : Nat) (gr : Bool) (x0 x1 x2 x3 x4 x5 : Int) (W : World) (hc : W.cell? ⟨g, 1, none⟩ = some (.bool gr)) :
    Calls Try.prog 22 #[.pointer (some ⟨g, 0, none⟩), .agg #[.int .i64 x0, .int .i64 x1, .int .i64 x2, .int .i64 x3, .int .i64 x4, .int .i64 x5]] W fun e w' => e = .returned (.int .i64 (wt0 gr ⟨x0, x1, x2, x3, x4, x5⟩)) ∧ Below W.heap.size W w' := by
  have hlt : g < W.heap.size := block_lt_of_cell hc
  have hc1 : (W.alloc (.cells #[.int .i64 x0, .int .i64 x1, .int .i64 x2, .int .i64 x3, .int .i64 x4, .int .i64 x5] 26)).cell? ⟨g, 1, none⟩ = some (.bool gr) := (World.cell?_alloc_lt _ _ ⟨g, 1, none⟩ hlt).trans hc
  have hgne : g ≠ W.heap.size := by omega
  cases gr
  all_goals
    go_enter Try.func22, Try.ntmps22
    go_wp2
    go_ret
    exact ⟨by simp [wt0], (Below.refl _ _).alloc (Nat.le_refl _) _⟩

theorem clamp_some (a b c d e f n : Int) : ∃ r, free_clamp.f a b c d e f n = some r := by unfold free_clamp.f; split <;> exact ⟨_, rfl⟩
def clamp0 (x : S26) (n : Int) : Int := (free_clamp.f x.f0 x.f1 x.f2 x.f3 x.f4 x.f5 n).getD 0
theorem clamp0_eq (x : S26) (n : Int) : free_clamp.f x.f0 x.f1 x.f2 x.f3 x.f4 x.f5 n = some (clamp0 x n) := by
  obtain ⟨r, h⟩ := clamp_some x.f0 x.f1 x.f2 x.f3 x.f4 x.f5 n
  unfold clamp0; rw [h]; rfl
def hyp0 (x : S26) : Int := clamp0 x x.f0
theorem hyp0_eq (x : S26) : free_Hyp.f x.f0 x.f1 x.f2 x.f3 x.f4 x.f5 = some (hyp0 x) := by
  unfold free_Hyp.f hyp0; rw [clamp0_eq]; rfl

/-- Whether an item is frozen from the beginning on. -/
def fx0 (gr : Bool) (x : S26) : Bool := if gr then (x.f3 == 0 || decide (hyp0 x < x.f0)) else (x.f4 == 0 || decide (x.f0 < hyp0 x))

set_option maxHeartbeats 1000000 in
set_option maxRecDepth 100000 in
theorem fixed_calls (g : Nat) (gr : Bool) (x0 x1 x2 x3 x4 x5 : Int) (W : World) (hc : W.cell? ⟨g, 1, none⟩ = some (.bool gr)) :
    Calls Try.prog 13 #[.pointer (some ⟨g, 0, none⟩), .agg #[.int .i64 x0, .int .i64 x1, .int .i64 x2, .int .i64 x3, .int .i64 x4, .int .i64 x5]] W fun e w' => e = .returned (.bool (fx0 gr ⟨x0, x1, x2, x3, x4, x5⟩)) ∧ Below W.heap.size W w' := by
  have hlt : g < W.heap.size := block_lt_of_cell hc
  have hc1 : (W.alloc (.cells #[.int .i64 x0, .int .i64 x1, .int .i64 x2, .int .i64 x3, .int .i64 x4, .int .i64 x5] 26)).cell? ⟨g, 1, none⟩ = some (.bool gr) := (World.cell?_alloc_lt _ _ ⟨g, 1, none⟩ hlt).trans hc
  have hgne : g ≠ W.heap.size := by omega
  have HH := hyp0_eq ⟨x0, x1, x2, x3, x4, x5⟩
  obtain ⟨r, hr⟩ : ∃ r, r = hyp0 ⟨x0, x1, x2, x3, x4, x5⟩ := ⟨_, rfl⟩
  rw [← hr] at HH
  have HR := Aside0.mk hr
  clear hr
  have BX := blk_new W (.cells #[.int .i64 x0, .int .i64 x1, .int .i64 x2, .int .i64 x3, .int .i64 x4, .int .i64 x5] 26)
  have HB := Aside0.mk ((Below.refl W.heap.size W).alloc (Nat.le_refl _) (.cells #[.int .i64 x0, .int .i64 x1, .int .i64 x2, .int .i64 x3, .int .i64 x4, .int .i64 x5] 26))
  have C := Aside0.mk (free_Hyp.calls x0 x1 x2 x3 x4 x5 r)
  have HH1 := Aside0.mk HH
  clear HH
  cases gr
  · by_cases h4 : x4 = 0
    · have h4b : (x4 == 0) = true := beq_iff_eq.2 h4
      clear h4
      go_enter Try.func13, Try.ntmps13
      go_wp2_with fail
      generalize W.alloc (.cells #[.int .i64 x0, .int .i64 x1, .int .i64 x2, .int .i64 x3, .int .i64 x4, .int .i64 x5] 26) = W1 at *
      have e0 : W1.cell? ⟨W.heap.size, 4, none⟩ = some (.int .i64 x4) := (blk_cell BX 4).trans rfl
      go_quiet (fail)
      go_wp2
      go_ret
      exact ⟨by simp [fx0, h4b], pw_below_drewN HB.out _⟩
    · have h4b : (x4 == 0) = false := beq_eq_false_iff_ne.2 h4
      clear h4
      go_enter Try.func13, Try.ntmps13
      go_wp2_with fail
      generalize W.alloc (.cells #[.int .i64 x0, .int .i64 x1, .int .i64 x2, .int .i64 x3, .int .i64 x4, .int .i64 x5] 26) = W1 at *
      have q0 := cell_regrown (((blk_cell BX 0).trans rfl : W1.cell? ⟨W.heap.size, 0, none⟩ = some (.int .i64 x0)))
      have q1 := cell_regrown (((blk_cell BX 1).trans rfl : W1.cell? ⟨W.heap.size, 1, none⟩ = some (.int .i64 x1)))
      have q2 := cell_regrown (((blk_cell BX 2).trans rfl : W1.cell? ⟨W.heap.size, 2, none⟩ = some (.int .i64 x2)))
      have q3 := cell_regrown (((blk_cell BX 3).trans rfl : W1.cell? ⟨W.heap.size, 3, none⟩ = some (.int .i64 x3)))
      have q4 := cell_regrown (((blk_cell BX 4).trans rfl : W1.cell? ⟨W.heap.size, 4, none⟩ = some (.int .i64 x4)))
      have q5 := cell_regrown (((blk_cell BX 5).trans rfl : W1.cell? ⟨W.heap.size, 5, none⟩ = some (.int .i64 x5)))
      have k1 : ∀ d os, Calls Try.prog 12 #[.agg #[.int .i64 x0, .int .i64 x1, .int .i64 x2, .int .i64 x3, .int .i64 x4, .int .i64 x5]] (grow (redrawn W1 d) os) fun e w'' => e = .returned (.int .i64 r) ∧ ∃ p : Regrown, w'' = grow (redrawn W1 p.d) p.os :=
        fun d os => Calls.regrown_of (C.out _ HH1.out)
      refine wp_region_quiet_below (by kernel_rfl) (by kernel_rfl) ?_
      repeat (quiet_step (exact k1 _ _))
      refine wpQuiet_nil ?_
      rintro w5 ⟨⟨dq, osq⟩, hw5⟩
      have hb5 : Below W1.heap.size W1 w5 := hw5 ▸ below_regrown W1 dq osq
      clear hw5 k1 q0 q1 q2 q3 q4 q5
      go_wp2
      go_ret
      exact ⟨by simp [fx0, h4b, ← HR.out], below_step HB.out hb5⟩
  · by_cases h4 : x3 = 0
    · have h4b : (x3 == 0) = true := beq_iff_eq.2 h4
      clear h4
      go_enter Try.func13, Try.ntmps13
      go_wp2_with fail
      generalize W.alloc (.cells #[.int .i64 x0, .int .i64 x1, .int .i64 x2, .int .i64 x3, .int .i64 x4, .int .i64 x5] 26) = W1 at *
      have e0 : W1.cell? ⟨W.heap.size, 3, none⟩ = some (.int .i64 x3) := (blk_cell BX 3).trans rfl
      go_quiet (fail)
      go_wp2
      go_ret
      exact ⟨by simp [fx0, h4b], pw_below_drewN HB.out _⟩
    · have h4b : (x3 == 0) = false := beq_eq_false_iff_ne.2 h4
      clear h4
      go_enter Try.func13, Try.ntmps13
      go_wp2_with fail
      generalize W.alloc (.cells #[.int .i64 x0, .int .i64 x1, .int .i64 x2, .int .i64 x3, .int .i64 x4, .int .i64 x5] 26) = W1 at *
      have q0 := cell_regrown (((blk_cell BX 0).trans rfl : W1.cell? ⟨W.heap.size, 0, none⟩ = some (.int .i64 x0)))
      have q1 := cell_regrown (((blk_cell BX 1).trans rfl : W1.cell? ⟨W.heap.size, 1, none⟩ = some (.int .i64 x1)))
      have q2 := cell_regrown (((blk_cell BX 2).trans rfl : W1.cell? ⟨W.heap.size, 2, none⟩ = some (.int .i64 x2)))
      have q3 := cell_regrown (((blk_cell BX 3).trans rfl : W1.cell? ⟨W.heap.size, 3, none⟩ = some (.int .i64 x3)))
      have q4 := cell_regrown (((blk_cell BX 4).trans rfl : W1.cell? ⟨W.heap.size, 4, none⟩ = some (.int .i64 x4)))
      have q5 := cell_regrown (((blk_cell BX 5).trans rfl : W1.cell? ⟨W.heap.size, 5, none⟩ = some (.int .i64 x5)))
      have k1 : ∀ d os, Calls Try.prog 12 #[.agg #[.int .i64 x0, .int .i64 x1, .int .i64 x2, .int .i64 x3, .int .i64 x4, .int .i64 x5]] (grow (redrawn W1 d) os) fun e w'' => e = .returned (.int .i64 r) ∧ ∃ p : Regrown, w'' = grow (redrawn W1 p.d) p.os :=
        fun d os => Calls.regrown_of (C.out _ HH1.out)
      refine wp_region_quiet_below (by kernel_rfl) (by kernel_rfl) ?_
      repeat (quiet_step (exact k1 _ _))
      refine wpQuiet_nil ?_
      rintro w5 ⟨⟨dq, osq⟩, hw5⟩
      have hb5 : Below W1.heap.size W1 w5 := hw5 ▸ below_regrown W1 dq osq
      clear hw5 k1 q0 q1 q2 q3 q4 q5
      go_wp2
      go_ret
      exact ⟨by simp [fx0, h4b, ← HR.out], below_step HB.out hb5⟩

/-! ### The solver's state -/
def accP (xs : List S26) (sz : List Int) (fz : List Bool) (inner : Int) : Nat → Int
  | 0 => inner
  | i + 1 => if fz.getD i false then wrap64 (wrap64 (accP xs sz fz inner i - (xs.getD i z26).f5) - sz.getD i 0) else wrap64 (wrap64 (accP xs sz fz inner i - (xs.getD i z26).f5) - (xs.getD i z26).f0)
def wts (gr : Bool) (xs : List S26) (fz : List Bool) : Nat → List Int
  | 0 => []
  | i + 1 => wts gr xs fz i ++ [if fz.getD i false then 0 else wt0 gr (xs.getD i z26)]
theorem wts_length (gr : Bool) (xs : List S26) (fz : List Bool) (i : Nat) : (wts gr xs fz i).length = i := by
  induction i with
  | zero => rfl
  | succ i ih => simp [wts, ih]

theorem accP_t {xs : List S26} {sz : List Int} {fz : List Bool} {inner : Int} {i : Nat} (h : fz.getD i false = true) : accP xs sz fz inner (i + 1) = wrap64 (wrap64 (accP xs sz fz inner i - (xs.getD i z26).f5) - sz.getD i 0) := by simp only [accP]; rw [if_pos h]
theorem accP_f {xs : List S26} {sz : List Int} {fz : List Bool} {inner : Int} {i : Nat} (h : fz.getD i false = false) : accP xs sz fz inner (i + 1) = wrap64 (wrap64 (accP xs sz fz inner i - (xs.getD i z26).f5) - (xs.getD i z26).f0) := by simp only [accP]; rw [if_neg (by rw [h]; decide)]
theorem wts_t {gr : Bool} {xs : List S26} {fz : List Bool} {i : Nat} (h : fz.getD i false = true) : wts gr xs fz (i + 1) = wts gr xs fz i ++ [0] := by simp only [wts]; rw [if_pos h]
theorem wts_f {gr : Bool} {xs : List S26} {fz : List Bool} {i : Nat} (h : fz.getD i false = false) : wts gr xs fz (i + 1) = wts gr xs fz i ++ [wt0 gr (xs.getD i z26)] := by simp only [wts]; rw [if_neg (by rw [h]; decide)]

/-- The solver in memory: block g its four fields, rows bs and bf its sizes and marks, the items as they came; what lies below m is not its own. -/
structure Sol (m : Nat) (W : World) (g bs bf : Nat) (ad : Addr) (c0 cs cf : Nat) (xs : List S26) (gr : Bool) (sz : List Int) (fz : List Bool) : Prop where
  row : W.heap[g]? = some (.cells #[.slice (some ad) xs.length c0, .bool gr, .slice (some ⟨bs, 0, none⟩) xs.length cs, .slice (some ⟨bf, 0, none⟩) xs.length cf] 37 (0, 0))
  items : ∀ W' : World, (∀ k, k < m → W'.heap[k]? = W.heap[k]?) → Kd.C k26 W' (some ad) xs.length xs
  rs : RowV W bs 2 (ints sz)
  szl : sz.length = xs.length
  rf : RowV W bf 4 (bools fz)
  fzl : fz.length = xs.length
  mg : m ≤ g
  ms : m ≤ bs
  mf : m ≤ bf
  gs : g ≠ bs
  gf : g ≠ bf
  sf : bs ≠ bf
  rz : RowC W bs 2 cs
  cb : xs.length ≤ cs ∧ cs ≤ maxLen
section
variable {m : Nat} {W W' : World} {g bs bf : Nat} {ad : Addr} {c0 cs cf : Nat} {xs : List S26} {gr : Bool} {sz : List Int} {fz : List Bool}
theorem Sol.lt (h : Sol m W g bs bf ad c0 cs cf xs gr sz fz) : g < W.heap.size := (Array.getElem?_eq_some_iff.1 h.row).1
/-- Any world in which what lies below m, and the solver's three blocks, are the same. -/
theorem Sol.move (h : Sol m W g bs bf ad c0 cs cf xs gr sz fz) (hm : ∀ k, k < m ∨ k = g ∨ k = bs ∨ k = bf → W'.heap[k]? = W.heap[k]?) : Sol m W' g bs bf ad c0 cs cf xs gr sz fz :=
  ⟨(hm g (by omega)).trans h.row, fun W2 h2 => h.items W2 (fun k hk => (h2 k hk).trans (hm k (by omega))), h.rs.move (hm bs (by omega)), h.szl, h.rf.move (hm bf (by omega)), h.fzl, h.mg, h.ms, h.mf, h.gs, h.gf, h.sf, h.rz.move (hm bs (by omega)), h.cb⟩
theorem Sol.below (h : Sol m W g bs bf ad c0 cs cf xs gr sz fz) (hb : Below W.heap.size W W') : Sol m W' g bs bf ad c0 cs cf xs gr sz fz :=
  h.move (fun k hk => hb.block k (by have := h.lt; have := h.rs.lt; have := h.rf.lt; have := h.mg; omega))
theorem Sol.other (h : Sol m W g bs bf ad c0 cs cf xs gr sz fz) (a : Addr) (v : Value) (hm : m ≤ a.block) (h1 : a.block ≠ g) (h2 : a.block ≠ bs) (h3 : a.block ≠ bf) : Sol m (W.setCell a v) g bs bf ad c0 cs cf xs gr sz fz :=
  h.move (fun k hk => Below.heap_setCell W a v k (by omega))
theorem Sol.setS (h : Sol m W g bs bf ad c0 cs cf xs gr sz fz) (j : Nat) (x : Int) : Sol m (W.setCell ⟨bs, j, none⟩ (.int .i64 x)) g bs bf ad c0 cs cf xs gr (sz.set j x) fz :=
  ⟨(Below.heap_setCell W ⟨bs, j, none⟩ _ g h.gs).trans h.row, fun W2 h2 => h.items W2 (fun k hk => (h2 k hk).trans (Below.heap_setCell W ⟨bs, j, none⟩ _ k (by have := h.ms; show k ≠ bs; omega))),
    by rw [← ints_set]; exact h.rs.set j _, by rw [List.length_set]; exact h.szl, h.rf.other _ _ (fun e => h.sf e.symm), h.fzl, h.mg, h.ms, h.mf, h.gs, h.gf, h.sf, h.rz.set _ _, h.cb⟩
theorem Sol.setF (h : Sol m W g bs bf ad c0 cs cf xs gr sz fz) (j : Nat) (x : Bool) : Sol m (W.setCell ⟨bf, j, none⟩ (.bool x)) g bs bf ad c0 cs cf xs gr sz (fz.set j x) :=
  ⟨(Below.heap_setCell W ⟨bf, j, none⟩ _ g h.gf).trans h.row, fun W2 h2 => h.items W2 (fun k hk => (h2 k hk).trans (Below.heap_setCell W ⟨bf, j, none⟩ _ k (by have := h.mf; show k ≠ bf; omega))),
    h.rs.other _ _ h.sf, h.szl, by rw [← bools_set]; exact h.rf.set j _, by rw [List.length_set]; exact h.fzl, h.mg, h.ms, h.mf, h.gs, h.gf, h.sf, h.rz.other _ _ h.sf, h.cb⟩
theorem Sol.e0 (h : Sol m W g bs bf ad c0 cs cf xs gr sz fz) : W.cell? ⟨g, 0, none⟩ = some (.slice (some ad) xs.length c0) := cell_of_row W g 0 _ _ _ h.row
theorem Sol.e1 (h : Sol m W g bs bf ad c0 cs cf xs gr sz fz) : W.cell? ⟨g, 1, none⟩ = some (.bool gr) := cell_of_row W g 1 _ _ _ h.row
theorem Sol.e2 (h : Sol m W g bs bf ad c0 cs cf xs gr sz fz) : W.cell? ⟨g, 2, none⟩ = some (.slice (some ⟨bs, 0, none⟩) xs.length cs) := cell_of_row W g 2 _ _ _ h.row
theorem Sol.e3 (h : Sol m W g bs bf ad c0 cs cf xs gr sz fz) : W.cell? ⟨g, 3, none⟩ = some (.slice (some ⟨bf, 0, none⟩) xs.length cf) := cell_of_row W g 3 _ _ _ h.row
end

set_option maxHeartbeats 2000000 in
set_option maxRecDepth 100000 in
theorem parts_calls (ks m : Nat) (g bs bf : Nat) (ad : Addr) (c0 cs cf : Nat) (xs : List S26) (gr : Bool) (sz : List Int) (fz : List Bool) (inner : Int) (r : List Int) (w : World)
    (hs : Sol m w g bs bf ad c0 cs cf xs gr sz fz) (hn : xs.length ≤ 1000)
    (h : unit_Share.f ks (if gr != decide (0 < accP xs sz fz inner xs.length) then 0 else accP xs sz fz inner xs.length) (wts gr xs fz xs.length) = some r) :
    Calls Try.prog 20 #[.pointer (some ⟨g, 0, none⟩), .int .i64 inner] w fun e w' => ∃ v0 : Value, e = .returned v0 ∧ Kd.R (Kd.int .i64) 2 w' w.heap.size (fun _ => True) v0 r ∧ Below w.heap.size w w' := by
  have H := Aside0.mk h
  have S := Aside0.mk hs
  clear h
  have e0 := hs.e0
  have e1 := hs.e1
  have e2 := hs.e2
  have e3 := hs.e3
  have hg := hs.lt
  clear hs
  obtain ⟨n, hN⟩ : ∃ n, n = xs.length := ⟨_, rfl⟩
  have HN := Aside0.mk hN
  rw [← hN] at e0 e2 e3 hn
  clear hN
  go_enter Try.func20, Try.ntmps20
  go_wp2
  go_loopg [1, 5, 13] n (fun kq v1 v5 v13 wr => ∃ k : Nat, k ≤ n ∧ n - k ≤ kq ∧ v1 = .int .i64 (accP xs sz fz inner k) ∧ v13 = .int .i64 k ∧ Aside0 (Kd.R (Kd.int .i64) 2 wr w.heap.size (fun _ => True) v5 (wts gr xs fz k)) ∧ Aside0 (Below w.heap.size w wr))
  case atStart => exact ⟨0, Nat.zero_le _, by omega, rfl, rfl, ⟨Kd.R_nil _ _ _ _ _⟩, ⟨Below.refl _ _⟩⟩
  case round =>
    obtain ⟨k, hk, hkq, rfl, rfl, HO, HB⟩ := hrel
    by_cases hlt : k < n
    · have hltz : (k : Int) < (n : Int) := by omega
      have hk0 : (0 : Int) ≤ (k : Int) := by omega
      obtain ⟨x, hx⟩ : ∃ x, x = xs.getD k z26 := ⟨_, rfl⟩
      obtain ⟨ad', ea, i0, i1, i2, i3, i4, i5⟩ := at_T26 (Kd.C_below (S.out.items _ (fun _ _ => rfl)) HB.out) (k : Int) hk0 (by have := HN.out; omega)
      have hrd : rd_T26 xs (k : Int) = x := by rw [hx]; rfl
      rw [hrd] at i0 i1 i2 i3 i4 i5
      cases ea
      have HX := Aside0.mk hx
      clear hx hrd
      rw [Int.toNat_natCast] at i0 i1 i2 i3 i4 i5
      have hbx : Below w.heap.size w (wr.alloc (.cells #[.int .i64 x.f0, .int .i64 x.f1, .int .i64 x.f2, .int .i64 x.f3, .int .i64 x.f4, .int .i64 x.f5] 26)) := below_alloc HB.out _
      have o1 := pw_cell_below hbx e1
      have o2 := pw_cell_below hbx e2
      have o3 := pw_cell_below hbx e3
      have o4 := pw_cell_below hbx (S.out.rs.cell (ints_at sz k (by have := S.out.szl; have := HN.out; omega)))
      have o5 := pw_cell_below hbx (S.out.rf.cell (bools_at fz k (by have := S.out.fzl; have := HN.out; omega)))
      have HBX := Aside0.mk hbx
      have HO1 := Aside0.mk (Kd.R_alloc HO.out (.cells #[.int .i64 x.f0, .int .i64 x.f1, .int .i64 x.f2, .int .i64 x.f3, .int .i64 x.f4, .int .i64 x.f5] 26))
      have BX := Aside0.mk (blk_new wr (.cells #[.int .i64 x.f0, .int .i64 x.f1, .int .i64 x.f2, .int .i64 x.f3, .int .i64 x.f4, .int .i64 x.f5] 26))
      clear hbx
      cases hf : fz.getD k false with
      | true =>
        rw [hf] at o5
        have HF := Aside0.mk hf
        clear hf
        go_wp2_with ((with_reducible refine gate_builtin (b := .append) (xs := #[.tmp 38, .tmp 39]) rfl ?_); at_builtin; refine Kd.R_append (Kd.int .i64) w.heap.size rfl (.tmp 38) (.tmp 39) 22 2 (.int .i64 0) 8 rfl Try.underlying22 info2 rfl (by decide) (by omega) _ (wts gr xs fz k) 0 [.int .i64 0] (fun _ => True) (fun _ => False) rfl (by first | (go_simp; done) | (go_simp; rfl)) ?aP (fun _ hk => hk.elim) ?aF HO1.out HBX.out ?aS ?aL ?_; (case aP => exact rfl); (case aF => exact fun _ _ => trivial); (case aS => exact HBX.out.size); (case aL => rw [wts_length]; omega); intro v1 w1 ho hb hg hat)
        go_wp2
        go_roundg (n - (k + 1))
        case measure => omega
        case rel => exact ⟨k + 1, by omega, Nat.le_refl _, by rw [accP_t HF.out, ← HX.out, List.getD_eq_getElem?_getD], by go_num, ⟨by rw [wts_t HF.out]; exact ho⟩, ⟨hb⟩⟩
      | false =>
        rw [hf] at o5
        have HF := Aside0.mk hf
        clear hf
        go_wp2_with fail
        refine (weight_calls g gr x.f0 x.f1 x.f2 x.f3 x.f4 x.f5 _ o1).mono ?_
        rintro e w2 ⟨rfl, hb2⟩
        have HO2 := Aside0.mk (Kd.R_below HO1.out hb2)
        have HB2 : Aside0 (Below w.heap.size w w2) := ⟨below_step HBX.out hb2⟩
        clear hb2 o1 o2 o3 o4 o5 HO1 HBX
        go_wp2_with ((with_reducible refine gate_builtin (b := .append) (xs := #[.tmp 45, .tmp 49]) rfl ?_); at_builtin; refine Kd.R_append (Kd.int .i64) w.heap.size rfl (.tmp 45) (.tmp 49) 22 2 (.int .i64 0) 8 rfl Try.underlying22 info2 rfl (by decide) (by omega) _ (wts gr xs fz k) (wt0 gr ⟨x.f0, x.f1, x.f2, x.f3, x.f4, x.f5⟩) [.int .i64 (wt0 gr ⟨x.f0, x.f1, x.f2, x.f3, x.f4, x.f5⟩)] (fun _ => True) (fun _ => False) rfl (by first | (go_simp; done) | (go_simp; rfl)) ?aP (fun _ hk => hk.elim) ?aF HO2.out HB2.out ?aS ?aL ?_; (case aP => exact rfl); (case aF => exact fun _ _ => trivial); (case aS => exact HB2.out.size); (case aL => rw [wts_length]; omega); intro v1 w1 ho hb hg hat)
        go_wp2
        go_roundg (n - (k + 1))
        case measure => omega
        case rel => exact ⟨k + 1, by omega, Nat.le_refl _, by rw [accP_f HF.out, ← HX.out], by go_num, ⟨by rw [wts_f HF.out, ← HX.out]; exact ho⟩, ⟨hb⟩⟩
    · have hkn : k = n := by omega
      subst hkn
      have hltz : ¬ (k : Int) < (k : Int) := by omega
      have o1 := pw_cell_below HB.out e1
      obtain ⟨Ao, co, eo⟩ := Kd.R_slice HO.out
      subst eo
      have hH : unit_Share.f ks (if gr != decide (0 < accP xs sz fz inner k) then 0 else accP xs sz fz inner k) (wts gr xs fz k) = some r := by have := H.out; rw [← HN.out] at this; exact this
      have hC := (Kd.R_reads' HO.out)
      obtain ⟨av, hav⟩ : ∃ a, a = accP xs sz fz inner k := ⟨_, rfl⟩
      rw [← hav] at hH ⊢
      have HC := Aside0.mk hC
      clear hC
      cases gr <;> by_cases hp : 0 < av
      · have hX : unit_Share.f ks 0 (wts false xs fz k) = some r := by
          rw [if_pos (by simp only [decide_eq_true hp]; decide)] at hH; exact hH
        have HH := Aside0.mk hX
        clear hX hH hav
        go_wp2_with fail
        refine (unit_Share.calls ks _ _ _ _ r _ HC.out.2.2 HC.out.2.1 HH.out).mono ?_
        rintro e w3 ⟨v0, rfl, ho, hb⟩
        go_wp2
        go_ret
        exact ⟨v0, rfl, Kd.R_lower ho HB.out.size, below_step HB.out hb⟩
      · have hX : unit_Share.f ks av (wts false xs fz k) = some r := by
          rw [if_neg (by simp only [decide_eq_false hp]; decide)] at hH; exact hH
        have HH := Aside0.mk hX
        clear hX hH hav
        go_wp2_with fail
        refine (unit_Share.calls ks _ _ _ _ r _ HC.out.2.2 HC.out.2.1 HH.out).mono ?_
        rintro e w3 ⟨v0, rfl, ho, hb⟩
        go_wp2
        go_ret
        exact ⟨v0, rfl, Kd.R_lower ho HB.out.size, below_step HB.out hb⟩
      · have hX : unit_Share.f ks av (wts true xs fz k) = some r := by
          rw [if_neg (by simp only [decide_eq_true hp]; decide)] at hH; exact hH
        have HH := Aside0.mk hX
        clear hX hH hav
        go_wp2_with fail
        refine (unit_Share.calls ks _ _ _ _ r _ HC.out.2.2 HC.out.2.1 HH.out).mono ?_
        rintro e w3 ⟨v0, rfl, ho, hb⟩
        go_wp2
        go_ret
        exact ⟨v0, rfl, Kd.R_lower ho HB.out.size, below_step HB.out hb⟩
      · have hX : unit_Share.f ks 0 (wts true xs fz k) = some r := by
          rw [if_pos (by simp only [decide_eq_false hp]; decide)] at hH; exact hH
        have HH := Aside0.mk hX
        clear hX hH hav
        go_wp2_with fail
        refine (unit_Share.calls ks _ _ _ _ r _ HC.out.2.2 HC.out.2.1 HH.out).mono ?_
        rintro e w3 ⟨v0, rfl, ho, hb⟩
        go_wp2
        go_ret
        exact ⟨v0, rfl, Kd.R_lower ho HB.out.size, below_step HB.out hb⟩
end Go.Proofs.Ytkokdkhpcdjihaa
