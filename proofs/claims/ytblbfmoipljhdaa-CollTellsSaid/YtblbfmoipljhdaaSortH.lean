import Derived.Test.YtblbfmoipljhdaaSortG
import Derived.Deep.AppendLies
import Derived.Laws.OwnMore
namespace Go.Proofs.Ytblbfmoipljhdaa
open Go.RowKit
set_option linter.unusedVariables false
set_option linter.unusedSimpArgs false

theorem grown_old {wr wr' : World} {o : Obj} {row : Option Nat} (hgrow : (wr.alloc o).grownBy wr' row) : ∀ b, b < wr.heap.size → row ≠ some b → wr'.heap[b]? = wr.heap[b]? := by
  intro b hb hv
  refine (hgrow.block b (by simp; omega) (fun e => hv e.symm)).trans ?_
  show (wr.heap.push o)[b]? = _
  rw [Array.getElem?_push, if_neg (by omega)]
theorem grown_below {B : Nat} {w wr wr' : World} {o : Obj} {row : Option Nat} (h : Below B w wr) (hr : ∀ k, row = some k → B ≤ k) (hB : B ≤ wr.heap.size) (hgrow : (wr.alloc o).grownBy wr' row) : Below B w wr' := by
  refine ⟨hgrow.os.trans h.os, hgrow.tape.trans h.tape, hgrow.output.trans h.output, ?_, fun k hk => (grown_old hgrow k (by omega) (fun e => by have := hr k e; omega)).trans (h.block k hk)⟩
  have := hgrow.size
  have := h.size
  simp at *
  omega
theorem row_move {w w' : World} {B : Nat} {e : TypeId} {s : Nat} {v : Value} {n : Nat} {xs : List Value} (h : w.ownsRow B e s v n xs) (hm : ∀ k, v.ownBlock = some k → w'.heap[k]? = w.heap[k]?) : w'.ownsRow B e s v n xs := by
  obtain ⟨k1, k2⟩ := h
  refine ⟨k1, ?_⟩
  rcases k2 with k2 | ⟨g', cap, cur, rfl, k3, k4, k5⟩
  · exact .inl k2
  · exact .inr ⟨g', cap, cur, rfl, k3, (hm g' rfl).trans k4, k5⟩
theorem cells_one_new (w : World) (a : Value) (T : TypeId) : ∀ j u, [a][j]? = some u → (w.alloc (.cells #[a] T)).cell? ((⟨w.heap.size, 0, none⟩ : Addr).add j) = some u := by
  intro j u hj
  rcases j with _ | j
  · exact (World.cell?_alloc_at (w := w) #[a] T w.heap.size 0 rfl).trans hj
  · simp at hj

theorem ins_none (fv : Value) (W : World) : Calls Try.prog 16 #[.slice none 0 0, .int .i64 0, .int .i64 0, fv] W fun e w' => e = .returned (.tuple #[]) ∧ w' = W := by
  go_enter Try.func16, Try.ntmps16
  go_wp2_with fail
  refine wp_loop_rounds 1 ?_
  rw [rounds_succ]
  go_wp2_with fail
  go_end0
  exact ⟨rfl, rfl⟩
theorem stable_none (fv : Value) (W : World) : Calls Try.prog 14 #[.slice none 0 0, .int .i64 0, fv] W fun e w' => e = .returned (.tuple #[]) ∧ w' = W := by
  have H := Lib.hid (ins_none fv W)
  go_enter Try.func14, Try.ntmps14
  go_wp2_with fail
  refine wp_loop_rounds 1 ?_
  rw [rounds_succ]
  go_wp2_with fail
  refine H.out.mono ?_
  rintro e w1 ⟨rfl, rfl⟩
  go_wp2_with fail
  refine wp_loop_rounds 1 ?_
  rw [rounds_succ]
  go_wp2_with fail
  go_end0
  exact ⟨rfl, rfl⟩
theorem ssf_calls {W : World} {A : Option Addr} {n cap : Nat} {fv : Value} {Q : World → Prop} (h : Calls Try.prog 14 #[.slice A n cap, .int .i64 n, fv] W fun e w' => e = .returned (.tuple #[]) ∧ Q w') :
    Calls Try.prog 11 #[.slice A n cap, fv] W fun e w' => e = .returned (.tuple #[]) ∧ Q w' := by
  have H := Lib.hid h
  clear h
  go_enter Try.func11, Try.ntmps11
  go_wp2_with fail
  refine H.out.mono ?_
  rintro e w1 ⟨rfl, hq⟩
  have HQ := Lib.hid hq
  clear hq H
  go_wp2_with fail
  go_end0
  exact ⟨rfl, HQ.out⟩

/-- The places, as they stand at first. -/
def idf : Nat → Int := fun k => (k : Int)
def idC (n : Nat) : List Value := (List.range n).map fun (k : Nat) => Value.int .i64 (k : Int)
theorem idC_snoc (n : Nat) : idC (n + 1) = idC n ++ [.int .i64 (n : Int)] := by simp [idC, List.range_succ]
theorem idC_get (n i : Nat) (h : i < n) : (idC n)[i]? = some (.int .i64 (i : Int)) := by simp [idC, h]
/-- The state of coll.Order's loop. -/
structure Od (W wr : World) (A : Option Addr) (n cap : Nat) (v : Value) (i : Nat) : Prop where
  row : wr.ownsRow W.heap.size 3 1 v i (idC i)
  box : wr.heap[W.heap.size]? = some (.cells #[.slice A n cap] 22 (0, 0))
  ne : ∀ k, v.ownBlock = some k → k ≠ W.heap.size
  below : Below W.heap.size W wr
  nil : i = 0 → v = .slice none 0 0
theorem Od.grown {W wr wr' : World} {A : Option Addr} {n cap : Nat} {v : Value} {i : Nat} (h : Od W wr A n cap v i) {o : Obj} {r cap' : Nat} (hown : wr'.ownsRow W.heap.size 3 1 (.slice (some ⟨r, 0, none⟩) (i + 1) cap') (i + 1) (idC i ++ [.int .i64 (i : Int)])) (hgrow : (wr.alloc o).grownBy wr' v.ownBlock) (hat : v.ownBlock = some r ∨ r = wr.heap.size + 1) : Od W wr' A n cap (.slice (some ⟨r, 0, none⟩) (i + 1) cap') (i + 1) := by
  have hbx := (Array.getElem?_eq_some_iff.1 h.box).1
  refine ⟨by rw [idC_snoc]; exact hown, (grown_old hgrow _ hbx (fun e => h.ne _ e rfl)).trans h.box, fun k e => ?_, grown_below h.below (fun k e => (h.row.lt k e).1) (by omega) hgrow, fun e => by omega⟩
  have e : r = k := Option.some.inj e
  subst e
  rcases hat with e | e
  · exact h.ne r e
  · omega
theorem info_int : (Try.prog.info? 3).map (fun i => (i.zero, i.size, i.bytes)) = some (some (.int .i64 0), 1, 8) := by kernel_rfl

/-- What is told of the sorted places. -/
structure Told (W w' : World) (os : List Int) (A' : Option Addr) (n cap' : Nat) (g : Nat → Int) : Prop where
  pm : Pm 0 n idf g
  so : So (Kof os) g 0 n
  cap : n ≤ cap'
  at' : 0 < n → ∃ B, A' = some ⟨B, 0, none⟩ ∧ W.heap.size ≤ B ∧ ∃ cs, w'.heap[B]? = some (.cells cs 3 (0, 0)) ∧ ∀ i, i < n → cs[i]? = some (.int .i64 (g i))

set_option maxHeartbeats 4000000 in
set_option maxRecDepth 100000 in
theorem order_calls (W : World) (A : Option Addr) (n cap : Nat) (os : List Int) (hn : n = os.length) (hcap : n ≤ cap) (hn1 : n ≤ 1000) (hx : ∀ i (hi : i < os.length), ∃ p : Addr, A = some p ∧ W.cell? (p.add i) = some (.int .i64 os[i]) ∧ (p.add i).block < W.heap.size) :
    Calls Try.prog 6 #[.slice A n cap] W fun e w' => ∃ A' cap' g, e = .returned (.slice A' n cap') ∧ Told W w' os A' n cap' g ∧ Below W.heap.size W w' := by
  have HX := Lib.hid hx
  have HN := Lib.hid hn
  clear hx hn
  obtain ⟨i0, hi, hzz⟩ := Option.map_eq_some_iff.1 info_int
  simp only [Prod.mk.injEq] at hzz
  obtain ⟨hz0, hz1, hz2⟩ := hzz
  have HI := Lib.hid (And.intro hi (And.intro hz0 (And.intro hz1 hz2)))
  clear hi hz0 hz1 hz2
  obtain ⟨w1, e1⟩ : ∃ w1, W.alloc (.cells #[.slice A n cap] 22) = w1 := ⟨_, rfl⟩
  obtain ⟨bx, hbx⟩ : ∃ bx, W.heap.size = bx := ⟨_, rfl⟩
  have HBX := Lib.hid hbx
  have HO : Hid (Od W w1 A n cap (.slice none 0 0) 0) := Lib.hid ⟨World.ownsRow_nil _ _ _ _, by rw [← e1]; show (W.heap.push _)[W.heap.size]? = _; exact Array.getElem?_push_size, (fun k e => by cases e), by rw [← e1]; exact (Below.refl _ _).alloc (Nat.le_refl _) _, fun _ => rfl⟩
  have hc0 : w1.cell? ⟨bx, 0, none⟩ = some (.slice A n cap) := by rw [← hbx]; simp [World.cell?, HO.out.box]
  go_enter Try.func6, Try.ntmps6
  go_wp2_with fail
  clear e1 hbx hc0
  go_loopg [3, 7] n (fun kq v3 v7 wr => ∃ i : Nat, i ≤ n ∧ n - i ≤ kq ∧ v7 = .int .i64 i ∧ Hid (Od W wr A n cap v3 i))
  case atStart => exact ⟨0, by omega, by omega, rfl, HO.out⟩
  case round =>
    obtain ⟨i, hi, hiq, rfl, HO⟩ := hrel
    by_cases hin : i < n
    · have hz1 : (i : Int) < (n : Int) := by omega
      obtain ⟨AA, capA, hv, hcA⟩ : ∃ AA capA, u3 = .slice AA i capA ∧ i ≤ capA := by
        rcases HO.out.row.2 with ⟨e, k0⟩ | ⟨r, cp, cur, e, k3, k4, k5, _⟩
        · exact ⟨none, 0, by rw [k0]; exact e, by omega⟩
        · exact ⟨_, _, e, k5⟩
      subst hv
      have HRow := Lib.hid HO.out.row
      have HBW : Hid (W.heap.size ≤ wr.heap.size) := Lib.hid HO.out.below.size
      go_wp2_with (at_builtin; refine wpList_append_lies _ rfl (.tmp 10) (.tmp 12) 22 rfl W.heap.size 3 i0 (.int .i64 0) 1 8 Try.underlying22 HI.out.1 HI.out.2.1 HI.out.2.2.1 HI.out.2.2.2 rfl (by decide) (.slice AA i capA) i (idC i) rfl (HRow.out.alloc _) ⟨wr.heap.size, 0, none⟩ 1 1 [.int .i64 (i : Int)] rfl rfl ?aN ?aO (by decide) ?a63 ?aY ?aB (wr.heap.size + 1) ?aH ?_; (case aN => exact cells_one_new _ _ _); (case aO => simp [Value.oneCell']); (case a63 => unfold maxLen; omega); (case aY => omega); (case aB => have := HBW.out; simp; omega); (case aH => simp); intro r cap' wA hown hgrow hat hlt1; have HO2 := Lib.hid (HO.out.grown hown hgrow hat); clear hown hgrow hat hlt1 HRow HBW HO)
      go_roundg (n - (i + 1))
      case measure => omega
      case rel => exact ⟨i + 1, by omega, Nat.le_refl _, by go_num, HO2.out⟩
    · have hz1 : ¬ (i : Int) < (n : Int) := by omega
      have hie : i = n := by omega
      subst hie
      clear hin hi hiq
      by_cases h0 : i = 0
      · subst h0
        have hv := HO.out.nil rfl
        subst hv
        have HF := Lib.hid (ssf_calls (stable_none (.func (.func 12) #[] #[.pointer (some ⟨bx, 0, none⟩)]) wr) (Q := fun w' => w' = wr))
        go_wp2_with fail
        refine HF.out.mono ?_
        rintro e w2 ⟨rfl, rfl⟩
        go_wp2_with fail
        go_ret
        exact ⟨none, 0, idf, rfl, ⟨.refl _, fun p q h1 h2 h3 => by omega, Nat.le_refl _, fun h => by omega⟩, HO.out.below⟩
      · have hrow := HO.out.row
        rcases hrow.2 with ⟨_, k0⟩ | ⟨B, capB, cur, hv, k3, k4, k5, k6, k7, k8⟩
        · exact absurd k0 h0
        · subst hv
          have hne := HO.out.ne B rfl
          have HWB := Lib.hid k3
          have hBl := (Array.getElem?_eq_some_iff.1 k4).1
          have hSr : Sr wr wr B i idf := ⟨rfl, rfl, rfl, Nat.le_refl _, hBl, fun _ _ _ => rfl, cur, k4, fun j hj => by
            have e2 := idC_get i j hj
            rw [← k8, List.getElem?_take, if_pos (by omega)] at e2
            show cur[j]? = some (Value.int .i64 ((j : Nat) : Int))
            simpa using e2⟩
          have hC : CmpOk wr B (.pointer (some ⟨bx, 0, none⟩)) (i : Int) (Kof os) := by
            intro W' hfar x y hx hy
            have hb := HO.out.below
            have hbxl := (Array.getElem?_eq_some_iff.1 HO.out.box).1
            refine cmp_calls W' bx A i cap os ⟨?_, HN.out, hcap, fun j hj => ?_⟩ x y hx hy
            · have e2 := hfar W.heap.size hbxl (fun e => hne e.symm)
              rw [← HBX.out]
              simp [World.cell?, e2, HO.out.box]
            · obtain ⟨p, hp, c1, c2⟩ := HX.out j hj
              refine ⟨p, hp, ?_⟩
              have e2 := hfar (p.add j).block (by have := hb.size; omega) (by omega)
              rw [World.cell?_of_block e2, hb.cell c2]
              exact c1
          have HF := Lib.hid (ssf_calls (stable_calls _ (i : Int) (Kof os) hC hSr hn1 k5 (fun j hj => by unfold idf; omega) (fun p q h1 h2 => by unfold idf; omega)))
          have HB := Lib.hid HO.out.below
          clear hrow k3 k4 k6 k7 k8 hne hBl hSr hC HO
          go_wp2_with fail
          refine HF.out.mono ?_
          rintro e w2 ⟨rfl, g, hS, hP, hO⟩
          have HS := Lib.hid hS
          have HP := Lib.hid hP
          have HO2 := Lib.hid hO
          clear hS hP hO HF
          go_wp2_with fail
          go_ret
          exact ⟨_, _, g, rfl, ⟨HP.out, HO2.out, k5, fun _ => ⟨B, rfl, HWB.out, HS.out.row⟩⟩, ⟨HS.out.os.trans HB.out.os, HS.out.tape.trans HB.out.tape, HS.out.output.trans HB.out.output, Nat.le_trans HB.out.size HS.out.size, fun k hk => (HS.out.far k (Nat.lt_of_lt_of_le hk HB.out.size) (fun e => by have := HWB.out; omega)).trans (HB.out.block k hk)⟩⟩
end Go.Proofs.Ytblbfmoipljhdaa
