import Derived.Test.YtblbfmoipljhdaaSortJ
namespace Go.Proofs.Ytblbfmoipljhdaa
open Go.RowKit
set_option linter.unusedVariables false
set_option linter.unusedSimpArgs false

theorem Ij.idf (n : Nat) : Ij n idf := fun i j _ _ e => by unfold Proofs.Ytblbfmoipljhdaa.idf at e; omega
/-- A row of places that rises is the places themselves. -/
theorem ident {g : Nat → Int} {n : Nat} (hp : Pm 0 n idf g) (hs : ∀ i j, i < j → j < n → g i < g j) : ∀ i, i < n → g i = (i : Int) := by
  have lo : ∀ i, i < n → (i : Int) ≤ g i := by
    intro i
    induction i with
    | zero =>
      intro h
      obtain ⟨l, _, _, e⟩ := hp.from 0 (by omega) h
      rw [e]; unfold idf; omega
    | succ i ih =>
      intro h
      have := ih (by omega)
      have := hs i (i + 1) (by omega) h
      omega
  have hi : ∀ k, k < n → g (n - 1 - k) ≤ ((n - 1 - k : Nat) : Int) := by
    intro k
    induction k with
    | zero =>
      intro h
      obtain ⟨l, _, h2, e⟩ := hp.from (n - 1 - 0) (by omega) (by omega)
      rw [e]; unfold idf; omega
    | succ k ih =>
      intro h
      have h1 := ih (by omega)
      have h2 := hs (n - 1 - (k + 1)) (n - 1 - k) (by omega) (by omega)
      omega
  intro i h
  have h1 := lo i h
  have h2 := hi (n - 1 - i) (by omega)
  rw [show n - 1 - (n - 1 - i) = i by omega] at h2
  omega
/-- The orders, as they stand behind the sorting. -/
def agn (os : List Int) (g : Nat → Int) (n : Nat) : List Int := (List.range n).map fun p => Kof os (g p)
theorem agn_length (os : List Int) (g : Nat → Int) (n : Nat) : (agn os g n).length = n := by simp [agn]
theorem agn_snoc (os : List Int) (g : Nat → Int) (n : Nat) : agn os g (n + 1) = agn os g n ++ [Kof os (g n)] := by simp [agn, List.range_succ]
theorem agn_get (os : List Int) (g : Nat → Int) (n l : Nat) (h : l < n) : Kof (agn os g n) (l : Int) = Kof os (g l) := by
  show (agn os g n).getD (l : Int).toNat 0 = _
  rw [Int.toNat_natCast, List.getD_eq_getElem?_getD]
  simp [agn, h]
theorem again_ident {os : List Int} {g g' : Nat → Int} {n : Nat} (hs : So (Kof os) g 0 n) (hp' : Pm 0 n idf g') (hs' : So (Kof (agn os g n)) g' 0 n) : ∀ i, i < n → g' i = (i : Int) := by
  refine ident hp' (fun i j h1 h2 => ?_)
  obtain ⟨l, _, hl, e⟩ := hp'.from i (by omega) (by omega)
  obtain ⟨l', _, hl', e'⟩ := hp'.from j (by omega) h2
  have h3 := hs' i j (by omega) h1 h2
  rw [e, e'] at h3 ⊢
  unfold idf at *
  unfold lex at h3
  rw [agn_get os g n l hl, agn_get os g n l' hl'] at h3
  rcases Nat.lt_trichotomy l l' with h | h | h
  · omega
  · subst h; omega
  · have h4 := hs l' l (by omega) h hl
    unfold lex at h4
    omega

/-- The law's state. -/
structure Cs (W wr : World) (Bo : Nat) (cso : Array Value) (Bs : Nat) (bs : List Bool) (va : Value) (ag : List Int) : Prop where
  o : wr.heap[Bo]? = some (.cells cso 3 (0, 0))
  s : wr.heap[Bs]? = some (.cells (bs.map Value.bool).toArray 4 (0, 0))
  a : wr.ownsRow W.heap.size 3 1 va ag.length (ag.map fun x => Value.int .i64 x)
  ne : Bo ≠ Bs ∧ ∀ k, va.ownBlock = some k → k ≠ Bo ∧ k ≠ Bs
  ge : W.heap.size ≤ Bo ∧ W.heap.size ≤ Bs
  below : Below W.heap.size W wr
section
variable {W wr wr' : World} {Bo Bs : Nat} {cso : Array Value} {bs : List Bool} {va : Value} {ag : List Int}
theorem Cs.move (h : Cs W wr Bo cso Bs bs va ag) (hm : ∀ k, k < wr.heap.size → wr'.heap[k]? = wr.heap[k]?) (hb : Below W.heap.size W wr') : Cs W wr' Bo cso Bs bs va ag :=
  ⟨(hm _ (Array.getElem?_eq_some_iff.1 h.o).1).trans h.o, (hm _ (Array.getElem?_eq_some_iff.1 h.s).1).trans h.s, row_move h.a (fun k e => hm k (h.a.lt k e).2), h.ne, h.ge, hb⟩
theorem Cs.drewN (h : Cs W wr Bo cso Bs bs va ag) (d : Nat) : Cs W (wr.drewN d) Bo cso Bs bs va ag :=
  h.move (fun _ _ => rfl) ⟨h.below.os, h.below.tape, h.below.output, h.below.size, h.below.block⟩
theorem Cs.set (h : Cs W wr Bo cso Bs bs va ag) (y : Nat) (b : Bool) : Cs W (wr.setCell ⟨Bs, y, none⟩ (.bool b)) Bo cso Bs (bs.set y b) va ag := by
  have far : ∀ c, c ≠ Bs → (wr.setCell ⟨Bs, y, none⟩ (.bool b)).heap[c]? = wr.heap[c]? := fun c hc => Below.heap_setCell wr ⟨Bs, y, none⟩ _ c hc
  refine ⟨(far _ h.ne.1).trans h.o, ?_, row_move h.a (fun k e => far k (h.ne.2 k e).2), h.ne, h.ge, ?_⟩
  · simp [World.setCell, Array.getElem?_modify, h.s, List.map_set]
  · refine ⟨h.below.os, h.below.tape, h.below.output, by simp only [World.setCell, Array.size_modify]; exact h.below.size, fun c hc => (far c (by have := h.ge; omega)).trans (h.below.block c hc)⟩
theorem Cs.grown (h : Cs W wr Bo cso Bs bs va ag) {o : Obj} {r cap n : Nat} {x : Int} (hn : n = ag.length) (hown : wr'.ownsRow W.heap.size 3 1 (.slice (some ⟨r, 0, none⟩) (n + 1) cap) (n + 1) ((ag.map fun x => Value.int .i64 x) ++ [.int .i64 x])) (hgrow : (wr.alloc o).grownBy wr' va.ownBlock) (hat : va.ownBlock = some r ∨ r = wr.heap.size + 1) : Cs W wr' Bo cso Bs bs (.slice (some ⟨r, 0, none⟩) (n + 1) cap) (ag ++ [x]) := by
  have old := grown_old hgrow
  have hol := (Array.getElem?_eq_some_iff.1 h.o).1
  have hsl := (Array.getElem?_eq_some_iff.1 h.s).1
  refine ⟨(old _ hol (fun e => (h.ne.2 _ e).1 rfl)).trans h.o, (old _ hsl (fun e => (h.ne.2 _ e).2 rfl)).trans h.s, ?_, ⟨h.ne.1, fun k e => ?_⟩, h.ge, grown_below h.below (fun k e => (h.a.lt k e).1) h.below.size hgrow⟩
  · rw [List.map_append, List.length_append, List.length_singleton, ← hn]
    exact hown
  · have e : r = k := Option.some.inj e
    subst e
    rcases hat with e | e
    · exact h.ne.2 r e
    · omega
end
theorem info_bool : (Try.prog.info? 4).map (fun i => (i.zero, i.size, i.bytes)) = some (some (.bool false), 1, 1) := by kernel_rfl
theorem make_bools (w : World) (n : Nat) (hn : n ≤ 10000) : (Instr.makeSlice 31 (.int .i64 (n : Int)) (.int .i64 (n : Int))).run Try.prog w = .ok (.slice (some ⟨w.heap.size, 0, none⟩) n n) (w.alloc (.cells (Array.replicate n (Value.bool false)) 4)) := by
  obtain ⟨i0, hi, hzz⟩ := Option.map_eq_some_iff.1 info_bool
  simp only [Prod.mk.injEq] at hzz
  obtain ⟨hz0, hz1, hz2⟩ := hzz
  have := run_make (P := Try.prog) w 31 4 i0 _ Try.underlying31 hi hz0 .i64 .i64 (n : Int) (n : Int) (by omega) (by omega) (by rw [hz2]; omega) (by omega)
  rw [hz1, Int.toNat_natCast, Nat.mul_one] at this
  rw [this]
  have e : madeCells #[.bool false] n = Array.replicate n (.bool false) := by
    have := toList_madeCells_one (.bool false) n
    apply Array.ext'
    rw [this]; simp
  show Result.ok _ (w.alloc (.cells (madeCells #[.bool false] n) 4)) = _
  rw [e]

set_option maxHeartbeats 4000000 in
set_option maxRecDepth 100000 in
theorem corder_zero (w : World) (A : Option Addr) (cap : Nat) : Calls Try.prog 4 #[.slice A 0 cap] w fun e w' => e = .returned (.bool true) ∧ Below w.heap.size w w' := by
  have H1 := Lib.hid (order_calls w A 0 cap [] rfl (Nat.zero_le _) (by omega) (fun i hi => absurd hi (Nat.not_lt_zero _)))
  have mb := fun w => make_bools w 0 (by omega)
  simp only [Array.replicate_zero, Int.natCast_zero] at mb
  go_enter Try.func4, Try.ntmps4
  go_wp2_with fail
  refine H1.out.mono ?_
  rintro e w1 ⟨A', cap', g, rfl, hT, hb⟩
  have HB1 := Lib.hid hb
  clear hT hb H1
  obtain ⟨w2, e2⟩ : ∃ w2, w1.alloc (.cells #[] 4) = w2 := ⟨_, rfl⟩
  have hb2 : Below w1.heap.size w1 w2 := by rw [← e2]; exact (Below.refl _ _).alloc (Nat.le_refl _) _
  have HB2 := Lib.hid (HB1.out.trans (hb2.mono HB1.out.size))
  clear hb2 HB1
  go_wp2_with fail
  refine wp_loop_rounds 1 ?_
  rw [rounds_succ]
  have H1 := Lib.hid (order_calls w2 none 0 0 [] rfl (Nat.zero_le _) (by omega) (fun i hi => absurd hi (Nat.not_lt_zero _)))
  go_wp2_with fail
  refine H1.out.mono ?_
  rintro e w3 ⟨A2, cap2, g2, rfl, hT, hb⟩
  have HB3 := Lib.hid (HB2.out.trans (hb.mono HB2.out.size))
  clear hT hb H1 HB2 e2
  go_wp2_with fail
  refine wp_loop_rounds 1 ?_
  rw [rounds_succ]
  go_wp2_with fail
  refine (awake_calls _).mono ?_
  rintro e w4 ⟨rfl, hb⟩
  go_wp2_with fail
  go_ret
  exact ⟨rfl, HB3.out.trans (hb.mono HB3.out.size)⟩
theorem corder_big (w : World) (A : Option Addr) (n cap : Nat) (hn : 100 < n) : Calls Try.prog 4 #[.slice A n cap] w fun e w' => e = .returned (.bool true) ∧ Below w.heap.size w w' := by
  have hz : (100 : Int) < (n : Int) := by omega
  go_enter Try.func4, Try.ntmps4
  go_wp2_with fail
  refine (awake_calls _).mono ?_
  rintro e w4 ⟨rfl, hb⟩
  go_wp2_with fail
  go_ret
  exact ⟨rfl, hb⟩
end Go.Proofs.Ytblbfmoipljhdaa
