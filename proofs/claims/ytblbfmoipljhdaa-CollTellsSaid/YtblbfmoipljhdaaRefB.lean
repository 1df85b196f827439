import Derived.Test.YtblbfmoipljhdaaRefA
import Derived.BigQuiet
namespace Go.Proofs.Ytblbfmoipljhdaa
open Go.RowKit
set_option linter.unusedVariables false
set_option linter.unusedSimpArgs false

/-- The reference's row as it stands. -/
structure Rw (W wr : World) (os : List Int) (v : Value) (r : Nat → Int) (i : Nat) : Prop where
  row : wr.ownsRow W.heap.size 3 1 v i (rC r i)
  below : Below W.heap.size W wr
  ro : Ro (Kof os) r i
theorem Rw.drewN {W wr : World} {os : List Int} {v : Value} {r : Nat → Int} {i : Nat} (h : Rw W wr os v r i) (k : Nat) : Rw W (wr.drewN k) os v r i :=
  ⟨h.row, ⟨h.below.os, h.below.tape, h.below.output, h.below.size, h.below.block⟩, h.ro⟩

theorem own_empty (w : World) : (w.alloc (.cells #[] 3)).ownsRow w.heap.size 3 1 (.slice (some ⟨w.heap.size, 0, none⟩) 0 0) 0 [] :=
  ⟨by simp, .inr ⟨w.heap.size, 0, #[], rfl, Nat.le_refl _, by show (w.heap.push _)[w.heap.size]? = _; exact Array.getElem?_push_size, Nat.le_refl _, by unfold maxLen; omega, rfl, rfl⟩⟩
/-- The new row as it grows, the old one beside it. -/
structure Mid (W w : World) (os : List Int) (b8 ra i capA : Nat) (r : Nat → Int) (v : Value) (m : Nat) (xs : List Value) : Prop where
  new : w.ownsRow b8 3 1 v m xs
  old : w.ownsRow W.heap.size 3 1 (.slice (some ⟨ra, 0, none⟩) i capA) i (rC r i)
  below : Below W.heap.size W w
  lt : ra < b8
  le : W.heap.size ≤ b8
  size : b8 ≤ w.heap.size
theorem Mid.start {W w : World} {os : List Int} {ra i capA : Nat} {r : Nat → Int} (h : Rw W w os (.slice (some ⟨ra, 0, none⟩) i capA) r i) :
    Mid W (w.alloc (.cells #[] 3)) os w.heap.size ra i capA r (.slice (some ⟨w.heap.size, 0, none⟩) 0 0) 0 [] :=
  ⟨own_empty w, h.row.alloc _, h.below.alloc h.below.size _, (h.row.lt ra rfl).2, h.below.size, by simp⟩
theorem Mid.drewN {W w : World} {os : List Int} {b8 ra i capA : Nat} {r : Nat → Int} {v : Value} {m : Nat} {xs : List Value} (h : Mid W w os b8 ra i capA r v m xs) (k : Nat) : Mid W (w.drewN k) os b8 ra i capA r v m xs :=
  ⟨h.new, h.old, ⟨h.below.os, h.below.tape, h.below.output, h.below.size, h.below.block⟩, h.lt, h.le, h.size⟩
theorem Mid.drew {W w : World} {os : List Int} {b8 ra i capA : Nat} {r : Nat → Int} {v : Value} {m : Nat} {xs : List Value} (h : Mid W w os b8 ra i capA r v m xs) : Mid W w.drew os b8 ra i capA r v m xs :=
  ⟨h.new, h.old, ⟨h.below.os, h.below.tape, h.below.output, h.below.size, h.below.block⟩, h.lt, h.le, h.size⟩
theorem Mid.alloc {W w : World} {os : List Int} {b8 ra i capA : Nat} {r : Nat → Int} {v : Value} {m : Nat} {xs : List Value} (h : Mid W w os b8 ra i capA r v m xs) (o : Obj) : Mid W (w.alloc o) os b8 ra i capA r v m xs :=
  ⟨h.new.alloc _, h.old.alloc _, h.below.alloc h.below.size _, h.lt, h.le, by have := h.size; simp; omega⟩
theorem Mid.append {W w w' : World} {os : List Int} {b8 ra i capA : Nat} {r : Nat → Int} {v v' : Value} {m m' : Nat} {xs xs' : List Value} (h : Mid W w os b8 ra i capA r v m xs)
    (hown : w'.ownsRow b8 3 1 v' m' xs') (hg : w.grownBy w' v.ownBlock) : Mid W w' os b8 ra i capA r v' m' xs' := by
  have hv : ∀ k, v.ownBlock = some k → b8 ≤ k := fun k e => (h.new.lt k e).1
  have hl := h.lt
  have hle := h.le
  have hsz := h.size
  have hs2 := hg.size
  refine ⟨hown, row_move h.old (fun k e => ?_), ⟨hg.os.trans h.below.os, hg.tape.trans h.below.tape, hg.output.trans h.below.output, Nat.le_trans h.below.size hs2, fun k hk => ?_⟩, hl, hle, by omega⟩
  · have e : ra = k := Option.some.inj e
    subst e
    exact hg.block _ (by omega) (fun e => by have := hv _ e.symm; omega)
  · exact (hg.block k (by omega) (fun e => by have := hv _ e.symm; omega)).trans (h.below.block k hk)
/-- The same, the old row nil. -/
structure MidN (W w : World) (b8 : Nat) (v : Value) (m : Nat) (xs : List Value) : Prop where
  new : w.ownsRow b8 3 1 v m xs
  below : Below W.heap.size W w
  le : W.heap.size ≤ b8
  size : b8 ≤ w.heap.size
theorem MidN.start {W w : World} (h : Below W.heap.size W w) : MidN W (w.alloc (.cells #[] 3)) w.heap.size (.slice (some ⟨w.heap.size, 0, none⟩) 0 0) 0 [] :=
  ⟨own_empty w, h.alloc h.size _, h.size, by simp⟩
theorem MidN.drew {W w : World} {b8 : Nat} {v : Value} {m : Nat} {xs : List Value} (h : MidN W w b8 v m xs) : MidN W w.drew b8 v m xs :=
  ⟨h.new, ⟨h.below.os, h.below.tape, h.below.output, h.below.size, h.below.block⟩, h.le, h.size⟩
theorem MidN.alloc {W w : World} {b8 : Nat} {v : Value} {m : Nat} {xs : List Value} (h : MidN W w b8 v m xs) (o : Obj) : MidN W (w.alloc o) b8 v m xs :=
  ⟨h.new.alloc _, h.below.alloc h.below.size _, h.le, by have := h.size; simp; omega⟩
theorem MidN.append {W w w' : World} {b8 : Nat} {v v' : Value} {m m' : Nat} {xs xs' : List Value} (h : MidN W w b8 v m xs)
    (hown : w'.ownsRow b8 3 1 v' m' xs') (hg : w.grownBy w' v.ownBlock) : MidN W w' b8 v' m' xs' := by
  have hv : ∀ k, v.ownBlock = some k → b8 ≤ k := fun k e => (h.new.lt k e).1
  have hle := h.le
  have hsz := h.size
  have hs2 := hg.size
  exact ⟨hown, ⟨hg.os.trans h.below.os, hg.tape.trans h.below.tape, hg.output.trans h.below.output, Nat.le_trans h.below.size hs2, fun k hk => (hg.block k (by omega) (fun e => by have := hv _ e.symm; omega)).trans (h.below.block k hk)⟩, hle, by omega⟩
theorem MidN.done {W w : World} {os : List Int} {b8 : Nat} {r : Nat → Int} {v : Value} (h : MidN W w b8 v 1 [.int .i64 0])
    (hro : Ro (Kof os) (ins r 0 0) 1) : Rw W w os v (ins r 0 0) 1 := by
  refine ⟨?_, h.below, hro⟩
  have := rC_ins r 0 0 (Nat.le_refl 0)
  rw [← this]
  exact h.new.mono h.le
theorem src_low {w : World} {B ra i capA k : Nat} {r : Nat → Int} (h : w.ownsRow B 3 1 (.slice (some ⟨ra, 0, none⟩) i capA) i (rC r i)) (hk : k ≤ i) (c : Nat) : SrcAny w (.slice (some ⟨ra, 0, none⟩) k c) k (rC r k) := by
  refine .inl ⟨_, _, rfl, fun j u hj => ?_⟩
  have hjk : j < k := by
    rcases Nat.lt_or_ge j k with h1 | h1
    · exact h1
    · rw [List.getElem?_eq_none (by rw [rC_length]; exact h1)] at hj; cases hj
  rw [rC_get _ _ _ hjk] at hj
  have := h.cellAt j (by omega)
  rw [rC_get _ _ _ (by omega)] at this
  rw [Go.WideShapes.add_plain, Nat.zero_add, this]
  exact hj
theorem src_high {w : World} {B ra i capA k : Nat} {r : Nat → Int} (h : w.ownsRow B 3 1 (.slice (some ⟨ra, 0, none⟩) i capA) i (rC r i)) (hk : k ≤ i) (hc : i ≤ capA) : SrcAny w (sliced (some ⟨ra, 0, none⟩) k i capA 1) (i - k) ((rC r i).drop k) := by
  unfold sliced
  by_cases e : capA = k
  · have e2 : i = k := by omega
    subst e2
    rw [if_pos e]
    refine .inl ⟨_, _, rfl, fun j u hj => ?_⟩
    rw [List.drop_of_length_le (by rw [rC_length]; exact Nat.le_refl _)] at hj
    simp at hj
  · rw [if_neg e]
    refine .inl ⟨_, _, rfl, fun j u hj => ?_⟩
    rw [List.getElem?_drop] at hj
    have hjk : k + j < i := by
      rcases Nat.lt_or_ge (k + j) i with h1 | h1
      · exact h1
      · rw [List.getElem?_eq_none (by rw [rC_length]; exact h1)] at hj; cases hj
    have := h.cellAt (k + j) (by omega)
    rw [hj] at this
    show w.cell? ((({ block := ra, off := 0 } : Addr).add (k * 1)).add j) = some u
    rw [Go.WideShapes.add_plain, Go.WideShapes.add_plain, Nat.zero_add, Nat.mul_one]
    exact this
theorem Mid.done {W w : World} {os : List Int} {b8 ra i capA k : Nat} {r : Nat → Int} {v : Value} {m : Nat} {xs : List Value} (h : Mid W w os b8 ra i capA r v m xs)
    (hm : m = i + 1) (hk : k ≤ i) (hxs : xs = rC r k ++ [.int .i64 (i : Int)] ++ (rC r i).drop k) (hro : Ro (Kof os) (ins r k i) (i + 1)) : Rw W w os v (ins r k i) (i + 1) := by
  subst hm hxs
  refine ⟨?_, h.below, hro⟩
  rw [← rC_ins r k i hk]
  exact h.new.mono h.le
theorem rC_cells (r : Nat → Int) (i : Nat) : ∀ u ∈ rC r i, u.oneCell' = true := by
  intro u hu
  simp only [rC, List.mem_map] at hu
  obtain ⟨p, _, rfl⟩ := hu
  rfl

set_option maxHeartbeats 4000000 in
set_option maxRecDepth 100000 in
theorem rorder_calls (W : World) (A : Option Addr) (n cap : Nat) (os : List Int) (hn : n = os.length) (hcap : n ≤ cap) (hn1 : n ≤ 1000) (hx : ∀ i (hi : i < os.length), ∃ p : Addr, A = some p ∧ W.cell? (p.add i) = some (.int .i64 os[i]) ∧ (p.add i).block < W.heap.size) :
    Calls Try.prog 7 #[.slice A n cap] W fun e w' => ∃ v r, e = .returned v ∧ Rw W w' os v r n := by
  have HX : Hid (∀ y, y < n → ∃ px : Addr, A = some px ∧ W.cell? (px.add y) = some (.int .i64 (Kof os (y : Int))) ∧ (px.add y).block < W.heap.size) := Lib.hid (fun y hy => by
    obtain ⟨p, e, c, b⟩ := hx y (by omega)
    have hyl : y < os.length := by omega
    have e1 : Kof os (y : Int) = os[y] := by unfold Kof; simp [hyl]
    rw [e1]; exact ⟨p, e, c, b⟩)
  clear hx hn
  obtain ⟨i0, hi, hzz⟩ := Option.map_eq_some_iff.1 info_int
  simp only [Prod.mk.injEq] at hzz
  obtain ⟨hz0, hz1, hz2⟩ := hzz
  have HI := Lib.hid (And.intro hi (And.intro hz0 (And.intro hz1 hz2)))
  clear hi hz0 hz1 hz2
  have HR0 : Hid (Rw W W os (.slice none 0 0) idf 0) := Lib.hid ⟨World.ownsRow_nil _ _ _ _, Below.refl _ _, ⟨fun p q h1 h2 h3 => by omega, fun p h => by omega⟩⟩
  go_enter Try.func7, Try.ntmps7
  go_wp2_with fail
  go_loopg [3, 4] n (fun kq v3 v4 wr => ∃ (i : Nat) (r : Nat → Int), v4 = .int .i64 i ∧ i ≤ n ∧ n - i ≤ kq ∧ Hid (Rw W wr os v3 r i))
  case atStart => exact ⟨0, idf, rfl, by omega, by omega, HR0.out⟩
  case round =>
    obtain ⟨i, r, rfl, hi, hiq, HR⟩ := hrel
    by_cases hin : i < n
    · have hz1 : (i : Int) < (n : Int) := by omega
      have hz0 : (0 : Int) ≤ (i : Int) := by omega
      obtain ⟨px, rfl, hcx, hbx⟩ := HX.out i hin
      have HXi := Lib.hid (And.intro hcx hbx)
      clear hcx hbx
      rcases HR.out.row.2 with ⟨hv, hi0⟩ | ⟨ra, capA, cur, hv, -, -, hcA, -⟩
      · subst hi0
        subst hv
        have HX0 := Lib.hid hn1
        go_wp2_with fail
        go_loopg [5] 0 (fun kq v5 wq => v5 = .int .i64 ((0 : Nat) : Int) ∧ Hid (Rw W wq os (.slice none 0 0) r 0))
        case atStart => exact ⟨rfl, HR.out⟩
        case round =>
          obtain ⟨rfl, HQ⟩ := hrel
          go_wp2_with fail
          go_quiet (fail)
          have HINS : Hid (Ro (Kof os) (ins r 0 0) 1) := Lib.hid (HQ.out.ro.ins (Nat.le_refl 0) (fun p h1 h2 => by omega) (.inl rfl))
          have HM0 : Hid (Below W.heap.size W (wr.drewN nq)) := Lib.hid (HQ.out.drewN nq).below
          clear HQ
          generalize wr.drewN nq = wd at *
          have HM := Lib.hid (MidN.start HM0.out)
          go_wp2_with (at_builtin; refine wpList_append_any _ rfl (.tmp 34) (.tmp 37) 22 rfl wd.heap.size 3 i0 (.int .i64 0) 1 8 Try.underlying22 HI.out.1 HI.out.2.1 HI.out.2.2.1 HI.out.2.2.2 rfl (by decide) (.slice (some ⟨wd.heap.size, 0, none⟩) 0 0) 0 [] rfl HM.out.new (.slice none 0 0) 0 [] rfl (.inr ⟨rfl, rfl⟩) rfl (by simp) (by unfold maxLen; omega) (by omega) HM.out.size ?_; intro v6 w6 hown hgrow _; have HM6 := Lib.hid (HM.out.append hown hgrow); clear hown hgrow HM HM0)
          generalize wd.heap.size = b8 at *
          have HM7 := Lib.hid ((HM6.out.alloc (.cells #[.int .i64 0] 3)).drew)
          have HSR : Hid (SrcAny ((w6.alloc (.cells #[.int .i64 0] 3)).drew) (.slice (some ⟨w6.heap.size, 0, none⟩) 1 1) 1 [.int .i64 0]) := Lib.hid (.inl ⟨_, _, rfl, cells_one_new w6 _ _⟩)
          generalize hx6 : w6.heap.size = x6 at HSR
          go_region_law (first
            | (refine step_append_any _ rfl (.tmp 39) (.tmp 41) 22 rfl b8 3 i0 (.int .i64 0) 1 8 Try.underlying22 HI.out.1 HI.out.2.1 HI.out.2.2.1 HI.out.2.2.2 rfl (by decide) v6 (0 + 0) ([] ++ []) (by simp [Act.eval, Act.put]) HM7.out.new (.slice (some ⟨x6, 0, none⟩) 1 1) 1 [.int .i64 0] (by simp [Act.eval, Act.put, hx6]) HSR.out rfl (by simp [Value.oneCell']) (by unfold maxLen; omega) (by omega) HM7.out.size ?_; intro v7 w7 hown hgrow _; have HM8 := Lib.hid (HM7.out.append hown hgrow); clear hown hgrow)
            | (refine step_append_any _ rfl (.tmp 42) (.tmp 45) 22 rfl b8 3 i0 (.int .i64 0) 1 8 Try.underlying22 HI.out.1 HI.out.2.1 HI.out.2.2.1 HI.out.2.2.2 rfl (by decide) v7 (0 + 0 + 1) ([] ++ [] ++ [.int .i64 0]) (by simp [Act.eval, Act.put]) HM8.out.new (.slice none 0 0) 0 [] (by simp [Act.eval, Act.put]) (.inr ⟨rfl, rfl⟩) rfl (by simp) (by unfold maxLen; omega) (by omega) HM8.out.size ?_; intro v8 w8 hown hgrow _; have HM9 := Lib.hid (HM8.out.append hown hgrow); clear hown hgrow))
          all_goals go_wp2_with fail
          all_goals go_roundg (n - (0 + 1))
          all_goals first | omega | exact ⟨0 + 1, ins r 0 0, by go_num, by omega, Nat.le_refl _, HM9.out.done HINS.out⟩
      · subst hv
        have HR' : Hid (Rw W wr os (.slice (some ⟨ra, 0, none⟩) i capA) r i) := HR
        go_wp2_with fail
        go_loopg [5] i (fun kq v5 wq => ∃ (k : Nat), v5 = .int .i64 k ∧ k ≤ i ∧ k ≤ kq ∧ Hid ((∀ p, k ≤ p → p < i → Kof os (i : Int) < Kof os (r p)) ∧ Rw W wq os (.slice (some ⟨ra, 0, none⟩) i capA) r i))
        case atStart => exact ⟨i, rfl, by omega, by omega, fun p h1 h2 => by omega, HR'.out⟩
        case round =>
          obtain ⟨k, rfl, hk, hkq, HQ⟩ := hrel
          by_cases hk0 : k = 0
          · subst hk0
            go_wp2_with fail
            go_quiet (fail)
            have HQ2 : Hid (Rw W (wr.drewN nq) os (.slice (some ⟨ra, 0, none⟩) i capA) r i) := Lib.hid (HQ.out.2.drewN nq)
            have HINS : Hid (Ro (Kof os) (ins r 0 i) (i + 1)) := Lib.hid (HQ.out.2.ro.ins (by omega) HQ.out.1 (.inl rfl))
            have HKI : Hid (0 ≤ i) := Lib.hid (by omega)
            clear HQ
            generalize wr.drewN nq = wd at *
            have HM := Lib.hid (Mid.start HQ2.out)
            have HNX := Lib.hid (And.intro hi hn1)
            go_wp2_with (at_builtin; refine wpList_append_any _ rfl (.tmp 34) (.tmp 37) 22 rfl wd.heap.size 3 i0 (.int .i64 0) 1 8 Try.underlying22 HI.out.1 HI.out.2.1 HI.out.2.2.1 HI.out.2.2.2 rfl (by decide) (.slice (some ⟨wd.heap.size, 0, none⟩) 0 0) 0 [] rfl HM.out.new (.slice (some ⟨ra, 0, none⟩) 0 capA) 0 (rC r 0) rfl (src_low HM.out.old HKI.out _) ?aL (rC_cells r 0) ?a63 ?aY HM.out.size ?_; (case aL => simp [rC_length]); (case a63 => unfold maxLen; omega); (case aY => omega); intro v6 w6 hown hgrow _; have HM6 := Lib.hid (HM.out.append hown hgrow); clear hown hgrow HM HQ2)
            generalize wd.heap.size = b8 at *
            have HM7 := Lib.hid ((HM6.out.alloc (.cells #[.int .i64 (i : Int)] 3)).drew)
            have HSR : Hid (SrcAny ((w6.alloc (.cells #[.int .i64 (i : Int)] 3)).drew) (.slice (some ⟨w6.heap.size, 0, none⟩) 1 1) 1 [.int .i64 (i : Int)]) := Lib.hid (.inl ⟨_, _, rfl, cells_one_new w6 _ _⟩)
            generalize hx6 : w6.heap.size = x6 at HSR
            go_region_law (first
              | (refine step_append_any _ rfl (.tmp 39) (.tmp 41) 22 rfl b8 3 i0 (.int .i64 0) 1 8 Try.underlying22 HI.out.1 HI.out.2.1 HI.out.2.2.1 HI.out.2.2.2 rfl (by decide) v6 (0 + 0) ([] ++ rC r 0) (by simp [Act.eval, Act.put]) HM7.out.new (.slice (some ⟨x6, 0, none⟩) 1 1) 1 [.int .i64 (i : Int)] (by simp [Act.eval, Act.put, hx6]) HSR.out rfl (by simp [Value.oneCell']) (by have := HNX.out; have := HKI.out; unfold maxLen; omega) (by have := HNX.out; have := HKI.out; omega) HM7.out.size ?_; intro v7 w7 hown hgrow _; have HM8 := Lib.hid (HM7.out.append hown hgrow); clear hown hgrow)
              | (refine step_append_any _ rfl (.tmp 42) (.tmp 45) 22 rfl b8 3 i0 (.int .i64 0) 1 8 Try.underlying22 HI.out.1 HI.out.2.1 HI.out.2.2.1 HI.out.2.2.2 rfl (by decide) v7 (0 + 0 + 1) ([] ++ rC r 0 ++ [.int .i64 (i : Int)]) (by simp [Act.eval, Act.put]) HM8.out.new (.slice (some ⟨ra, 0, none⟩) i capA) i (rC r i) (by simp [Act.eval, Act.put]) (src_low HM8.out.old (by omega) _) (by rw [rC_length, Nat.mul_one]) (rC_cells r i) (by have := HNX.out; have := HKI.out; unfold maxLen; omega) (by have := HNX.out; have := HKI.out; omega) HM8.out.size ?_; intro v8 w8 hown hgrow _; have HM9 := Lib.hid (HM8.out.append hown hgrow); clear hown hgrow))
            go_wp2_with fail
            go_roundg (n - (i + 1))
            case measure => omega
            case rel => exact ⟨i + 1, ins r 0 i, by go_num, by omega, Nat.le_refl _, HM9.out.done (by have := HKI.out; omega) HKI.out (by simp) HINS.out⟩
          · obtain ⟨kp, rfl⟩ : ∃ kp, k = kp + 1 := ⟨k - 1, by omega⟩
            obtain ⟨l, hl, hrl⟩ := HQ.out.2.ro.val kp (by omega)
            have c0 : wr.cell? ⟨ra, kp, none⟩ = some (.int .i64 (l : Int)) := by
              have := HQ.out.2.row.cellAt kp (by omega)
              rwa [rC_get _ _ _ (by omega), hrl] at this
            have c1 := (HQ.out.2.below.cell (p := px.add i) HXi.out.2).trans HXi.out.1
            obtain ⟨px', e, c2, b2⟩ := HX.out l (by omega)
            cases e
            have c3 := (HQ.out.2.below.cell (p := px.add l) b2).trans c2
            have HRL := Lib.hid hrl
            clear c2 b2 hrl
            have hcast : ((kp + 1 : Nat) : Int) = (kp : Int) + 1 := by omega
            rw [hcast]
            clear hcast
            have hgd : decide ((0 : Int) < (kp : Int) + 1) = true := decide_eq_true (by omega)
            have hz3 : (0 : Int) ≤ (kp : Int) := by omega
            have hz4 : (kp : Int) < (i : Int) := by omega
            have hz5 : (0 : Int) ≤ (l : Int) := by omega
            have hz6 : (l : Int) < (n : Int) := by omega
            have hz7 : (kp : Int) + 1 ≤ (i : Int) := by omega
            have hz8 : (kp : Int) + 1 ≤ (capA : Int) := by omega
            have hz9 : (0 : Int) ≤ (kp : Int) + 1 := by omega
            by_cases hg : Kof os (i : Int) < Kof os (l : Int)
            · have HG : Hid (Kof os (i : Int) < Kof os (l : Int)) := Lib.hid hg
              generalize hki : Kof os (i : Int) = ki at c1 hg
              generalize hkl : Kof os (l : Int) = kl at c3 hg
              have hg2 : decide (ki < kl) = true := decide_eq_true hg
              clear hki hkl
              go_wp2_with fail
              go_quiet (fail)
              go_wp2_with fail
              go_roundg kp
              case measure => omega
              case rel => exact ⟨kp, by go_num, by omega, Nat.le_refl _, fun p h1 h2 => by
                rcases Nat.lt_or_ge p (kp + 1) with h3 | h3
                · have e : p = kp := by omega
                  subst e
                  rw [HRL.out]; exact HG.out
                · exact HQ.out.1 p h3 h2, HQ.out.2.drewN _⟩
            · have HG : Hid (¬ Kof os (i : Int) < Kof os (r (kp + 1 - 1))) := Lib.hid (by rw [Nat.add_sub_cancel, HRL.out]; exact hg)
              generalize hki : Kof os (i : Int) = ki at c1 hg
              generalize hkl : Kof os (l : Int) = kl at c3 hg
              have hg2 : decide (ki < kl) = false := decide_eq_false hg
              clear hki hkl
              go_wp2_with fail
              go_quiet (fail)
              have HQ2 : Hid (Rw W (wr.drewN nq) os (.slice (some ⟨ra, 0, none⟩) i capA) r i) := Lib.hid (HQ.out.2.drewN nq)
              have HINS : Hid (Ro (Kof os) (ins r (kp + 1) i) (i + 1)) := Lib.hid (HQ.out.2.ro.ins (by omega) HQ.out.1 (.inr (Int.not_lt.2 HG.out)))
              have HKI : Hid ((kp + 1) ≤ i) := Lib.hid (by omega)
              clear HQ
              generalize wr.drewN nq = wd at *
              have HM := Lib.hid (Mid.start HQ2.out)
              have HNX := Lib.hid (And.intro hi hn1)
              go_wp2_with (at_builtin; refine wpList_append_any _ rfl (.tmp 34) (.tmp 37) 22 rfl wd.heap.size 3 i0 (.int .i64 0) 1 8 Try.underlying22 HI.out.1 HI.out.2.1 HI.out.2.2.1 HI.out.2.2.2 rfl (by decide) (.slice (some ⟨wd.heap.size, 0, none⟩) 0 0) 0 [] rfl HM.out.new (.slice (some ⟨ra, 0, none⟩) (kp + 1) capA) (kp + 1) (rC r (kp + 1)) rfl (src_low HM.out.old HKI.out _) ?aL (rC_cells r (kp + 1)) ?a63 ?aY HM.out.size ?_; (case aL => simp [rC_length]); (case a63 => unfold maxLen; omega); (case aY => omega); intro v6 w6 hown hgrow _; have HM6 := Lib.hid (HM.out.append hown hgrow); clear hown hgrow HM HQ2)
              generalize wd.heap.size = b8 at *
              have HM7 := Lib.hid ((HM6.out.alloc (.cells #[.int .i64 (i : Int)] 3)).drew)
              have HSR : Hid (SrcAny ((w6.alloc (.cells #[.int .i64 (i : Int)] 3)).drew) (.slice (some ⟨w6.heap.size, 0, none⟩) 1 1) 1 [.int .i64 (i : Int)]) := Lib.hid (.inl ⟨_, _, rfl, cells_one_new w6 _ _⟩)
              generalize hx6 : w6.heap.size = x6 at HSR
              go_region_law (first
                | (refine step_append_any _ rfl (.tmp 39) (.tmp 41) 22 rfl b8 3 i0 (.int .i64 0) 1 8 Try.underlying22 HI.out.1 HI.out.2.1 HI.out.2.2.1 HI.out.2.2.2 rfl (by decide) v6 (0 + (kp + 1)) ([] ++ rC r (kp + 1)) (by simp [Act.eval, Act.put]) HM7.out.new (.slice (some ⟨x6, 0, none⟩) 1 1) 1 [.int .i64 (i : Int)] (by simp [Act.eval, Act.put, hx6]) HSR.out rfl (by simp [Value.oneCell']) (by have := HNX.out; have := HKI.out; unfold maxLen; omega) (by have := HNX.out; have := HKI.out; omega) HM7.out.size ?_; intro v7 w7 hown hgrow _; have HM8 := Lib.hid (HM7.out.append hown hgrow); clear hown hgrow)
                | (refine step_append_any _ rfl (.tmp 42) (.tmp 45) 22 rfl b8 3 i0 (.int .i64 0) 1 8 Try.underlying22 HI.out.1 HI.out.2.1 HI.out.2.2.1 HI.out.2.2.2 rfl (by decide) v7 (0 + (kp + 1) + 1) ([] ++ rC r (kp + 1) ++ [.int .i64 (i : Int)]) (by simp [Act.eval, Act.put]) HM8.out.new (sliced (some ⟨ra, 0, none⟩) (kp + 1) i capA 1) (i - (kp + 1)) ((rC r i).drop (kp + 1)) (by simp [Act.eval, Act.put, sliced, Go.WideShapes.add_plain]) (src_high HM8.out.old HKI.out hcA) (by rw [List.length_drop, rC_length, Nat.mul_one]) (fun u hu => rC_cells r i u (List.mem_of_mem_drop hu)) (by have := HNX.out; have := HKI.out; unfold maxLen; omega) (by have := HNX.out; have := HKI.out; omega) HM8.out.size ?_; intro v8 w8 hown hgrow _; have HM9 := Lib.hid (HM8.out.append hown hgrow); clear hown hgrow))
              all_goals go_wp2_with fail
              all_goals go_roundg (n - (i + 1))
              all_goals first | omega | exact ⟨i + 1, ins r (kp + 1) i, by go_num, by omega, Nat.le_refl _, HM9.out.done (by have := HKI.out; omega) HKI.out (by simp) HINS.out⟩
    · have hz1 : ¬ (i : Int) < (n : Int) := by omega
      have hie : i = n := by omega
      subst hie
      obtain ⟨AA, capA, hv, hcA⟩ := row_form0 HR.out.row
      subst hv
      go_wp2_with fail
      go_ret
      exact ⟨_, rfl, r, HR.out⟩
end Go.Proofs.Ytblbfmoipljhdaa
