import Derived.Test.YtppapffkidkonaaDoorPoolS
import Derived.Laws.OwnMore
import Derived.LoopTactic
import Derived.Deep.QuietTactic
import Derived.BigQuiet
import Derived.StillTailTactics
namespace Go.Proofs.YtppapffkidkonaaDoor
open Go.RowKit
set_option linter.unusedVariables false
set_option linter.unusedSimpArgs false

theorem info_int' : (Tryd.prog.info? 3).map (fun i => (i.zero, i.size, i.bytes)) = some (some (.int .i64 0), 1, 8) := by kernel_rfl
theorem info_bool' : (Tryd.prog.info? 4).map (fun i => (i.zero, i.size, i.bytes)) = some (some (.bool false), 1, 1) := by kernel_rfl
theorem make_ints (w : World) (n : Nat) (hn : n ≤ 10000) : (Instr.makeSlice 22 (.int .i64 (n : Int)) (.int .i64 (n : Int))).run Tryd.prog w = .ok (.slice (some ⟨w.heap.size, 0, none⟩) n n) (w.alloc (.cells (madeCells #[.int .i64 0] n) 3)) := by
  obtain ⟨i0, hi, hzz⟩ := Option.map_eq_some_iff.1 info_int'
  simp only [Prod.mk.injEq] at hzz
  obtain ⟨hz0, hz1, hz2⟩ := hzz
  have := run_make (P := Tryd.prog) w 22 3 i0 _ Tryd.underlying22 hi hz0 .i64 .i64 (n : Int) (n : Int) (by omega) (by omega) (by rw [hz2]; omega) (by omega)
  rw [hz1, Int.toNat_natCast, Nat.mul_one] at this
  exact this
theorem make_bools (w : World) (n : Nat) (hn : n ≤ 10000) : (Instr.makeSlice 46 (.int .i64 (n : Int)) (.int .i64 (n : Int))).run Tryd.prog w = .ok (.slice (some ⟨w.heap.size, 0, none⟩) n n) (w.alloc (.cells (madeCells #[.bool false] n) 4)) := by
  obtain ⟨i0, hi, hzz⟩ := Option.map_eq_some_iff.1 info_bool'
  simp only [Prod.mk.injEq] at hzz
  obtain ⟨hz0, hz1, hz2⟩ := hzz
  have := run_make (P := Tryd.prog) w 46 4 i0 _ Tryd.underlying46 hi hz0 .i64 .i64 (n : Int) (n : Int) (by omega) (by omega) (by rw [hz2]; omega) (by omega)
  rw [hz1, Int.toNat_natCast, Nat.mul_one] at this
  exact this

/-- The reference's pool in memory. -/
structure Rp (B : Nat) (W : World) (gr r1 r2 n : Nat) (qs : List (Int × Bool)) : Prop where
  len : qs.length = n
  blk : W.heap[gr]? = some (.cells #[.slice (some ⟨r1, 0, none⟩) n n, .slice (some ⟨r2, 0, none⟩) n n] 58 (0, 0))
  b1 : W.heap[r1]? = some (.cells (qs.map fun p => Value.int .i64 p.1).toArray 3 (0, 0))
  b2 : W.heap[r2]? = some (.cells (qs.map fun p => Value.bool p.2).toArray 4 (0, 0))
  ge : B ≤ gr ∧ B ≤ r1 ∧ B ≤ r2
  ne : gr ≠ r1 ∧ gr ≠ r2 ∧ r1 ≠ r2
section
variable {B : Nat} {W W' : World} {gr r1 r2 n : Nat} {qs : List (Int × Bool)}
theorem Rp.move (h : Rp B W gr r1 r2 n qs) (hm : ∀ k, k = gr ∨ k = r1 ∨ k = r2 → W'.heap[k]? = W.heap[k]?) : Rp B W' gr r1 r2 n qs :=
  ⟨h.len, (hm gr (.inl rfl)).trans h.blk, (hm r1 (.inr (.inl rfl))).trans h.b1, (hm r2 (.inr (.inr rfl))).trans h.b2, h.ge, h.ne⟩
theorem Rp.lt (h : Rp B W gr r1 r2 n qs) : gr < W.heap.size ∧ r1 < W.heap.size ∧ r2 < W.heap.size :=
  ⟨(Array.getElem?_eq_some_iff.1 h.blk).1, (Array.getElem?_eq_some_iff.1 h.b1).1, (Array.getElem?_eq_some_iff.1 h.b2).1⟩
theorem Rp.below (h : Rp B W gr r1 r2 n qs) (hb : Below W.heap.size W W') : Rp B W' gr r1 r2 n qs :=
  h.move (fun k hk => hb.block k (by have := h.lt; rcases hk with rfl | rfl | rfl <;> omega))
theorem Rp.c0 (h : Rp B W gr r1 r2 n qs) : W.cell? ⟨gr, 0, none⟩ = some (.slice (some ⟨r1, 0, none⟩) n n) := by simp [World.cell?, h.blk]
theorem Rp.c1 (h : Rp B W gr r1 r2 n qs) : W.cell? ⟨gr, 1, none⟩ = some (.slice (some ⟨r2, 0, none⟩) n n) := by simp [World.cell?, h.blk]
theorem Rp.t (h : Rp B W gr r1 r2 n qs) (i : Nat) (hi : i < qs.length) : W.cell? ⟨r1, i, none⟩ = some (.int .i64 qs[i].1) ∧ W.frozen? ⟨r1, i, none⟩ = false := by
  simp [World.cell?, World.frozen?, h.b1, hi]
theorem Rp.k (h : Rp B W gr r1 r2 n qs) (i : Nat) (hi : i < qs.length) : W.cell? ⟨r2, i, none⟩ = some (.bool qs[i].2) ∧ W.frozen? ⟨r2, i, none⟩ = false := by
  simp [World.cell?, World.frozen?, h.b2, hi]
theorem Rp.set1 (h : Rp B W gr r1 r2 n qs) (i : Nat) (hi : i < qs.length) (t : Int) : Rp B (W.setCell ⟨r1, i, none⟩ (.int .i64 t)) gr r1 r2 n (qs.set i (t, qs[i].2)) := by
  obtain ⟨n1, n2, n3⟩ := h.ne
  refine ⟨by rw [List.length_set]; exact h.len, (Below.heap_setCell W ⟨r1, i, none⟩ _ gr n1).trans h.blk, ?_, ?_, h.ge, h.ne⟩
  · simp [World.setCell, Array.getElem?_modify, h.b1, List.map_set]
  · refine (Below.heap_setCell W ⟨r1, i, none⟩ _ r2 (fun e => n3 e.symm)).trans (h.b2.trans ?_)
    rw [List.map_set]
    congr 3
    apply List.ext_getElem?
    intro j
    rw [List.getElem?_set]
    split
    · rename_i e; subst e; simp [hi]
    · rfl
theorem Rp.set2 (h : Rp B W gr r1 r2 n qs) (i : Nat) (hi : i < qs.length) (b : Bool) : Rp B (W.setCell ⟨r2, i, none⟩ (.bool b)) gr r1 r2 n (qs.set i (qs[i].1, b)) := by
  obtain ⟨n1, n2, n3⟩ := h.ne
  refine ⟨by rw [List.length_set]; exact h.len, (Below.heap_setCell W ⟨r2, i, none⟩ _ gr n2).trans h.blk, ?_, ?_, h.ge, h.ne⟩
  · refine (Below.heap_setCell W ⟨r2, i, none⟩ _ r1 n3).trans (h.b1.trans ?_)
    rw [List.map_set]
    congr 3
    apply List.ext_getElem?
    intro j
    rw [List.getElem?_set]
    split
    · rename_i e; subst e; simp [hi]
    · rfl
  · simp [World.setCell, Array.getElem?_modify, h.b2, List.map_set]
end
/-- A new one's cells. -/
theorem made_list (z : Value) (n : Nat) : madeCells #[z] n = (List.replicate n z).toArray := by
  rw [← toList_madeCells_one z n]

theorem three_at (w : World) (a b c : Obj) : (((w.alloc a).alloc b).alloc c).heap[w.heap.size]? = some a ∧ (((w.alloc a).alloc b).alloc c).heap[w.heap.size + 1]? = some b ∧ (((w.alloc a).alloc b).alloc c).heap[w.heap.size + 1 + 1]? = some c := by
  refine ⟨?_, ?_, ?_⟩
  · show (((w.heap.push a).push b).push c)[w.heap.size]? = _
    rw [Array.getElem?_push, if_neg (by simp; omega), Array.getElem?_push, if_neg (by simp), Array.getElem?_push_size]
  · show (((w.heap.push a).push b).push c)[w.heap.size + 1]? = _
    rw [Array.getElem?_push, if_neg (by simp), show w.heap.size + 1 = (w.heap.push a).size by simp, Array.getElem?_push_size]
  · show (((w.heap.push a).push b).push c)[w.heap.size + 1 + 1]? = _
    rw [show w.heap.size + 1 + 1 = ((w.heap.push a).push b).size by simp, Array.getElem?_push_size]
theorem three_below (w : World) (a b c : Obj) : Below w.heap.size w (((w.alloc a).alloc b).alloc c).drew :=
  ((((Below.refl _ _).alloc (Nat.le_refl _) a).alloc (by simp) b).alloc (by simp; omega) c).drew
theorem rep_ints (n : Nat) : madeCells #[.int .i64 0] n = ((List.replicate n ((0 : Int), false)).map fun p => Value.int .i64 p.1).toArray := by rw [made_list, List.map_replicate]
theorem rep_bools (n : Nat) : madeCells #[.bool false] n = ((List.replicate n ((0 : Int), false)).map fun p => Value.bool p.2).toArray := by rw [made_list, List.map_replicate]
theorem rp_new0 (w : World) (n : Nat) (e : Ending) (w' : World) (p : Value) (hw : (e, w', p) = (.returned (.pointer (some ⟨w.heap.size + 1 + 1, 0, none⟩)), (((w.alloc (.cells (madeCells #[.int .i64 0] n) 3)).alloc (.cells (madeCells #[.bool false] n) 4)).alloc (.cells #[.slice (some ⟨w.heap.size, 0, none⟩) n n, .slice (some ⟨w.heap.size + 1, 0, none⟩) n n] 58)).drew, .nilIface)) :
    ∃ gr r1 r2, e = .returned (.pointer (some ⟨gr, 0, none⟩)) ∧ Rp w.heap.size w' gr r1 r2 n (List.replicate n (0, false)) ∧ Below w.heap.size w w' := by
  simp only [Prod.mk.injEq] at hw
  obtain ⟨rfl, rfl, -⟩ := hw
  obtain ⟨h1, h2, h3⟩ := three_at w (.cells (madeCells #[.int .i64 0] n) 3) (.cells (madeCells #[.bool false] n) 4) (.cells #[.slice (some ⟨w.heap.size, 0, none⟩) n n, .slice (some ⟨w.heap.size + 1, 0, none⟩) n n] 58)
  exact ⟨_, _, _, rfl, ⟨List.length_replicate, h3, h1.trans (by rw [rep_ints]), h2.trans (by rw [rep_bools]), ⟨by omega, by omega, by omega⟩, ⟨by omega, by omega, by omega⟩⟩, three_below _ _ _ _⟩
theorem rp_new1 (w : World) (n : Nat) (e : Ending) (w' : World) (p : Value) (hw : (e, w', p) = (.returned (.pointer (some ⟨w.heap.size + 1 + 1, 0, none⟩)), (((w.alloc (.cells (madeCells #[.bool false] n) 4)).alloc (.cells (madeCells #[.int .i64 0] n) 3)).alloc (.cells #[.slice (some ⟨w.heap.size + 1, 0, none⟩) n n, .slice (some ⟨w.heap.size, 0, none⟩) n n] 58)).drew, .nilIface)) :
    ∃ gr r1 r2, e = .returned (.pointer (some ⟨gr, 0, none⟩)) ∧ Rp w.heap.size w' gr r1 r2 n (List.replicate n (0, false)) ∧ Below w.heap.size w w' := by
  simp only [Prod.mk.injEq] at hw
  obtain ⟨rfl, rfl, -⟩ := hw
  obtain ⟨h1, h2, h3⟩ := three_at w (.cells (madeCells #[.bool false] n) 4) (.cells (madeCells #[.int .i64 0] n) 3) (.cells #[.slice (some ⟨w.heap.size + 1, 0, none⟩) n n, .slice (some ⟨w.heap.size, 0, none⟩) n n] 58)
  exact ⟨_, _, _, rfl, ⟨List.length_replicate, h3, h2.trans (by rw [rep_ints]), h1.trans (by rw [rep_bools]), ⟨by omega, by omega, by omega⟩, ⟨by omega, by omega, by omega⟩⟩, three_below _ _ _ _⟩

set_option maxHeartbeats 2000000 in
set_option maxRecDepth 100000 in
theorem ref_new (m : Int) (w : World) (n : Nat) (hm : min (max m 0) 10000 = (n : Int)) :
    Calls Tryd.prog 12 #[.int .i64 m] w fun e w' => ∃ gr r1 r2, e = .returned (.pointer (some ⟨gr, 0, none⟩)) ∧ Rp w.heap.size w' gr r1 r2 n (List.replicate n (0, false)) ∧ Below w.heap.size w w' := by
  have hn : n ≤ 10000 := by omega
  have mi := fun w => make_ints w n hn
  have mb := fun w => make_bools w n hn
  go_enter Tryd.func12, Tryd.ntmps12
  go_wp2_with fail
  go_region
  · go_wp2
    go_ret
    exact rp_new0 w n _ _ .nilIface rfl
  · go_wp2
    go_ret
    exact rp_new1 w n _ _ .nilIface rfl

set_option maxHeartbeats 2000000 in
set_option maxRecDepth 100000 in
theorem ref_len {B : Nat} {W : World} {gr r1 r2 n : Nat} {qs : List (Int × Bool)} (h : Rp B W gr r1 r2 n qs) (hn : n ≤ 10000) :
    Calls Tryd.prog 17 #[.pointer (some ⟨gr, 0, none⟩)] W fun e w' => e = .returned (.int .i64 (cn qs : Nat)) ∧ w' = W := by
  have c1 := h.c1
  have HH := Lib.hid h
  clear h
  go_enter Tryd.func17, Tryd.ntmps17
  go_wp2_with fail
  go_loop [3, 4] (fun c i => ∃ k : Nat, k ≤ n ∧ i = .int .i64 k ∧ c = .int .i64 (cn (qs.take k) : Nat)) (fun c i => n - (intOf i).toNat)
  case atStart => exact ⟨0, Nat.zero_le _, rfl, rfl⟩
  case round =>
    obtain ⟨k, hk, rfl, rfl⟩ := hrel
    by_cases hlt : k < n
    · have hl : k < qs.length := by rw [HH.out.len]; exact hlt
      obtain ⟨y, -⟩ := HH.out.k k hl
      have hz : (k : Int) < (n : Int) := by omega
      have hz0 : (0 : Int) ≤ (k : Int) := by omega
      have hz1 : (k : Int) < 10000 := by omega
      have hc : cn (qs.take (k + 1)) = cn (qs.take k) + (if qs[k].2 then 1 else 0) := by
        rw [List.take_succ_eq_append_getElem hl, cn_append]
      have hc1 : (cn (qs.take k) : Int) ≤ 10000 := by
        have h1 := cn_le (qs.take k)
        rw [List.length_take] at h1
        omega
      have HC := Lib.hid hc
      clear hc
      cases hb : qs[k].2 with
      | true =>
        rw [hb] at y
        have HC1 := HC.out
        rw [hb] at HC1
        have HC2 := Lib.hid HC1
        clear HC1 hb
        go_wp2
        go_round
        case rel => exact ⟨k + 1, by omega, by go_num, by rw [HC2.out]; simp⟩
        case measure => simp [intOf]; omega
      | false =>
        rw [hb] at y
        have HC1 := HC.out
        rw [hb] at HC1
        have HC2 := Lib.hid HC1
        clear HC1 hb
        go_wp2
        go_round
        case rel => exact ⟨k + 1, by omega, by go_num, by rw [HC2.out]; simp⟩
        case measure => simp [intOf]; omega
    · have hkn : k = n := by omega
      subst hkn
      have e : qs.take k = qs := List.take_of_length_le (Nat.le_of_eq HH.out.len)
      rw [e]
      go_wp2
      go_ret
      exact ⟨rfl, rfl⟩

set_option maxHeartbeats 2000000 in
set_option maxRecDepth 100000 in
theorem ref_has {B : Nat} {W : World} {gr r1 r2 n : Nat} {qs : List (Int × Bool)} (h : Rp B W gr r1 r2 n qs) (a t : Int) :
    Calls Tryd.prog 15 #[.pointer (some ⟨gr, 0, none⟩), .agg #[.int .i64 a, .int .i64 t]] W fun e w' => e = .returned (.bool (hasB qs a t)) ∧ Below W.heap.size W w' := by
  obtain ⟨hg0, hg1, hg2⟩ := h.lt
  have hu := Tryd.underlying27
  by_cases h0 : 0 ≤ a
  · have h0b : decide (0 ≤ a) = true := decide_eq_true h0
    by_cases h1 : a < qs.length
    · obtain ⟨i, rfl⟩ : ∃ i : Nat, a = i := ⟨a.toNat, by omega⟩
      have hi : i < qs.length := by omega
      obtain ⟨x1, -⟩ := h.t i hi
      obtain ⟨x2, -⟩ := h.k i hi
      have hX : hasB qs (i : Int) t = (qs[i].2 && decide (qs[i].1 = t)) := by
        unfold hasB
        rw [decide_eq_true h0, decide_eq_true h1]
        simp [hi]
      rw [hX]
      generalize qs[i] = q at *
      obtain ⟨q1, q2⟩ := q
      have hin : i < n := by rw [← h.len]; exact hi
      have h1' : (i : Int) < (n : Int) := by omega
      clear hX h0 h1
      have c0 := ((Below.refl W.heap.size W).alloc (Nat.le_refl _) (.cells #[.int .i64 (i : Int), .int .i64 t] 27)).cell (p := ⟨gr, 0, none⟩) hg0
      have c0' := h.c0
      have c1 := ((Below.refl W.heap.size W).alloc (Nat.le_refl _) (.cells #[.int .i64 (i : Int), .int .i64 t] 27)).cell (p := ⟨gr, 1, none⟩) hg0
      have c1' := h.c1
      have y1 := ((Below.refl W.heap.size W).alloc (Nat.le_refl _) (.cells #[.int .i64 (i : Int), .int .i64 t] 27)).cell (p := ⟨r1, i, none⟩) hg1
      have y2 := ((Below.refl W.heap.size W).alloc (Nat.le_refl _) (.cells #[.int .i64 (i : Int), .int .i64 t] 27)).cell (p := ⟨r2, i, none⟩) hg2
      simp only at x1 x2
      clear h hi
      cases q2 with
      | true =>
        by_cases ht : q1 = t
        · have htb : (q1 == t) = true := beq_iff_eq.2 ht
          have hs : (true && decide (q1 = t)) = true := by rw [decide_eq_true ht]; rfl
          simp only at hs ⊢
          rw [hs]
          clear ht hs
          go_enter Tryd.func15, Tryd.ntmps15
          go_wp2_with fail
          go_quiet (fail)
          go_wp2
          go_ret
          exact ⟨rfl, below_drewN ((Below.refl _ _).alloc (Nat.le_refl _) _) _⟩
        · have htb : (q1 == t) = false := beq_eq_false_iff_ne.2 ht
          have hs : (true && decide (q1 = t)) = false := by rw [decide_eq_false ht]; rfl
          simp only at hs ⊢
          rw [hs]
          clear ht hs
          go_enter Tryd.func15, Tryd.ntmps15
          go_wp2_with fail
          go_quiet (fail)
          go_wp2
          go_ret
          exact ⟨rfl, below_drewN ((Below.refl _ _).alloc (Nat.le_refl _) _) _⟩
      | false =>
        simp only [Bool.false_and]
        go_enter Tryd.func15, Tryd.ntmps15
        go_wp2_with fail
        go_quiet (fail)
        go_wp2
        go_ret
        exact ⟨rfl, below_drewN ((Below.refl _ _).alloc (Nat.le_refl _) _) _⟩
    · have h1b : decide (a < (n : Int)) = false := decide_eq_false (by rw [← h.len]; exact h1)
      have hX : hasB qs a t = false := by unfold hasB; rw [decide_eq_false h1, Bool.and_false]; rfl
      rw [hX]
      have c1 := ((Below.refl W.heap.size W).alloc (Nat.le_refl _) (.cells #[.int .i64 a, .int .i64 t] 27)).cell (p := ⟨gr, 1, none⟩) hg0
      have c1' := h.c1
      clear h hX h0 h1
      go_enter Tryd.func15, Tryd.ntmps15
      go_wp2_with fail
      go_quiet (fail)
      go_wp2
      go_ret
      exact ⟨rfl, below_drewN ((Below.refl _ _).alloc (Nat.le_refl _) _) _⟩
  · have h0b : decide (0 ≤ a) = false := decide_eq_false h0
    have hX : hasB qs a t = false := by unfold hasB; rw [h0b]; rfl
    rw [hX]
    clear hX h
    go_enter Tryd.func15, Tryd.ntmps15
    go_wp2_with fail
    go_quiet (fail)
    go_wp2
    go_ret
    exact ⟨rfl, below_drewN ((Below.refl _ _).alloc (Nat.le_refl _) _) _⟩
end Go.Proofs.YtppapffkidkonaaDoor
