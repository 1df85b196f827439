import Derived.Test.YtppapffkidkonaaDoorErrC
import Derived.Maps.AppendAt
import Derived.Deep.AppendLies
import Derived.Laws.NewBlocks
import Derived.Deep.LoopGhost
import Derived.WalkMore
namespace Go.Proofs.YtppapffkidkonaaDoor
open Go.RowKit
set_option linter.unusedVariables false
set_option linter.unusedSimpArgs false

theorem new_calls (s : ByteArray) (w : World) :
    Calls Tryd.prog 22 #[.string s] w fun e w' => e = .returned (.iface 77 (.pointer (some ⟨w.heap.size, 0, none⟩))) ∧ w' = w.alloc (.cells #[.string s] 79) := by
  go_enter Tryd.func22, Tryd.ntmps22
  go_wp2
  go_ret
  exact ⟨rfl, rfl⟩
theorem info_err : (Tryd.prog.info? 29).map (fun i => (i.zero, i.size, i.bytes)) = some (some .nilIface, 1, 16) := by kernel_rfl
theorem make_err (w : World) : (Instr.makeSlice 73 (.int .i64 0) (.int .i64 2)).run Tryd.prog w = .ok (.slice (some ⟨w.heap.size, 0, none⟩) 0 2) (w.alloc (.cells #[.nilIface, .nilIface] 29)) := by kernel_rfl
/-- The joinError in the making: block J holds the row's value; the row owns its errors. -/
structure Jn (B : Nat) (w W : World) (J : Nat) (g cap n : Nat) (xs : List Value) : Prop where
  blk : W.heap[J]? = some (.cells #[.slice (some ⟨g, 0, none⟩) n cap] 76 (0, 0))
  row : W.ownsRow B 29 1 (.slice (some ⟨g, 0, none⟩) n cap) n xs
  ne : g ≠ J
  JB : B ≤ J
  below : Below B w W
theorem Jn.cell {B : Nat} {w W : World} {J g cap n : Nat} {xs : List Value} (h : Jn B w W J g cap n xs) : W.cell? ⟨J, 0, none⟩ = some (.slice (some ⟨g, 0, none⟩) n cap) := by
  simp [World.cell?, h.blk]
theorem Jn.froz {B : Nat} {w W : World} {J g cap n : Nat} {xs : List Value} (h : Jn B w W J g cap n xs) : W.frozen? ⟨J, 0, none⟩ = false := by
  simp [World.frozen?, h.blk]
theorem Jn.lt {B : Nat} {w W : World} {J g cap n : Nat} {xs : List Value} (h : Jn B w W J g cap n xs) : J < W.heap.size := (Array.getElem?_eq_some_iff.1 h.blk).1
theorem Jn.glt {B : Nat} {w W : World} {J g cap n : Nat} {xs : List Value} (h : Jn B w W J g cap n xs) : B ≤ g ∧ g < W.heap.size := h.row.lt g rfl

theorem Jn.step {B : Nat} {w W w1 : World} {J g cap n g1 cap1 H : Nat} {xs : List Value} {o : Obj} {u : Value} (h : Jn B w W J g cap n xs) (hown : w1.ownsRow B 29 1 (.slice (some ⟨g1, 0, none⟩) (n + 1) cap1) (n + 1) (xs ++ [u]))
    (hg : (W.alloc o).grownBy w1 (some g)) (hat : some g = some g1 ∨ g1 = H) (hH : (W.alloc o).heap.size = H) (hB : B ≤ W.heap.size) :
    Jn B w (w1.setCell ⟨J, 0, none⟩ (.slice (some ⟨g1, 0, none⟩) (n + 1) cap1)) J g1 cap1 (n + 1) (xs ++ [u]) ∧ w1.cell? ⟨J, 0, none⟩ = some (.slice (some ⟨g, 0, none⟩) n cap) ∧ w1.frozen? ⟨J, 0, none⟩ = false := by
  have hlt := h.lt
  have hne := h.ne
  have hg1 : g1 ≠ J := by
    rcases hat with e | e
    · injection e with e; omega
    · simp at hH; omega
  have e1 : w1.heap[J]? = some (.cells #[.slice (some ⟨g, 0, none⟩) n cap] 76 (0, 0)) :=
    (hg.block J (by simp; omega) (by intro e; injection e with e; exact hne e.symm)).trans ((Below.heap_alloc W o J hlt).trans h.blk)
  refine ⟨⟨?_, ?_, hg1, h.JB, ?_⟩, by simp [World.cell?, e1], by simp [World.frozen?, e1]⟩
  · simp [World.setCell, Array.getElem?_modify, e1]
  · obtain ⟨k1, k2⟩ := hown
    refine ⟨k1, ?_⟩
    rcases k2 with ⟨k2, _⟩ | ⟨g', cap', cur, k2, k3, k4, k5⟩
    · cases k2
    · have eg : g' = g1 := by injection k2 with k2; injection k2 with k2; injection k2 with k2; exact k2.symm
      subst eg
      exact .inr ⟨g', cap', cur, k2, k3, (Below.heap_setCell w1 ⟨J, 0, none⟩ _ g' hg1).trans k4, k5⟩
  · exact ((h.below.alloc hB o).grown hg (by simp; omega) (fun k e => by injection e with e; subst e; exact h.glt.1)).setCell (p := ⟨J, 0, none⟩) h.JB _

set_option maxHeartbeats 2000000 in
set_option maxRecDepth 100000 in
theorem join_calls (b p : Nat) (c : Int) (w : World) (h0 : w.cell? ⟨b, 0, none⟩ = some (.iface 77 (.pointer (some ⟨p, 0, none⟩)))) (h1 : w.cell? ⟨b, 1, none⟩ = some (.iface 34 (.int .i64 c))) :
    Calls Tryd.prog 21 #[.slice (some ⟨b, 0, none⟩) 2 2] w fun e w' => ∃ j, e = .returned (.iface 74 (.pointer (some ⟨j, 0, none⟩))) ∧ JoinErr w' j c ∧ Below w.heap.size w w' := by
  have hbl : b < w.heap.size := by
    rcases Nat.lt_or_ge b w.heap.size with h' | h'
    · exact h'
    · simp [World.cell?, Array.getElem?_eq_none h'] at h0
  obtain ⟨i0, hi, hzz⟩ := Option.map_eq_some_iff.1 info_err
  simp only [Prod.mk.injEq] at hzz
  obtain ⟨hz0, hz1, hz2⟩ := hzz
  have HI := Lib.hid (And.intro hi (And.intro hz0 (And.intro hz1 hz2)))
  clear hi hz0 hz1 hz2
  have hmk := make_err
  go_enter Tryd.func21, Tryd.ntmps21
  go_wp2_with fail
  refine wp_loop_rounds 3 ?_
  rw [rounds_succ]
  go_wp2_with fail
  rw [rounds_succ]
  go_wp2_with fail
  rw [rounds_succ]
  go_wp2_with fail
  have hJ : Hid (Jn w.heap.size w ((w.alloc (.cells #[.nilIface, .nilIface] 29)).alloc (.cells #[.slice (some ⟨w.heap.size, 0, none⟩) 0 2] 76)) (w.heap.size + 1) w.heap.size 2 0 []) := Lib.hid
    ⟨by rw [show w.heap.size + 1 = (w.alloc (.cells #[.nilIface, .nilIface] 29)).heap.size by simp]; exact heap_alloc_new _ _,
     (World.ownsRow_made w #[.nilIface, .nilIface] 2 (Nat.le_refl _) (by decide) (by rfl)).alloc _, by omega, by omega, ((Below.refl _ _).alloc (Nat.le_refl _) _).alloc (by simp) _⟩
  have hBW : Hid (w.heap.size ≤ ((w.alloc (.cells #[.nilIface, .nilIface] 29)).alloc (.cells #[.slice (some ⟨w.heap.size, 0, none⟩) 0 2] 76)).heap.size) := Lib.hid (by simp; omega)
  obtain ⟨J, hJe⟩ : ∃ J, J = w.heap.size + 1 := ⟨_, rfl⟩
  rw [← hJe] at hJ ⊢
  clear hJe
  generalize (w.alloc (.cells #[.nilIface, .nilIface] 29)).alloc (.cells #[.slice (some ⟨w.heap.size, 0, none⟩) 0 2] 76) = W0 at *
  have H0 := Lib.hid h0
  have H1 := Lib.hid h1
  clear h0 h1 hmk
  refine wp_loop_rounds 3 ?_
  rw [rounds_succ]
  have b0 := (hJ.out.below.cell (p := ⟨b, 0, none⟩) hbl).trans H0.out
  have jc := ((Below.refl W0.heap.size W0).alloc (Nat.le_refl _) (.cells #[.iface 77 (.pointer (some ⟨p, 0, none⟩))] 29)).cell (p := ⟨J, 0, none⟩) hJ.out.lt
  have jc0 := hJ.out.cell
  go_wp2_with (at_builtin; refine wpList_append_lies _ rfl (.tmp 38) (.tmp 40) 73 rfl w.heap.size 29 i0 .nilIface 1 16 Tryd.underlying73 HI.out.1 HI.out.2.1 HI.out.2.2.1 HI.out.2.2.2 rfl (by decide) (.slice (some ⟨w.heap.size, 0, none⟩) 0 2) 0 [] rfl (hJ.out.row.alloc _) ⟨W0.heap.size, 0, none⟩ 1 1 [.iface 77 (.pointer (some ⟨p, 0, none⟩))] rfl rfl ?aN ?aO (by decide) (by decide) (by decide) ?aB (W0.heap.size + 1) ?aH ?_; (case aN => exact cell_one_new _ _ _); (case aO => simp [Value.oneCell']); (case aB => have := hBW.out; simp; omega); (case aH => simp); intro g1 cap1 w1 hown1 hgrow1 hat1 hlt1; have hs1 := hJ.out.step hown1 hgrow1 hat1 (by simp) hBW.out; have hK1 := Lib.hid hs1.1; have hc1 := hs1.2.1; have hf1 := hs1.2.2; clear hs1 hown1 hgrow1 hat1 hlt1 b0 jc jc0)
  clear hc1 hf1 hJ
  simp only [Nat.zero_add, List.nil_append] at hK1 ⊢
  have hB1 := Lib.hid (hK1.out.below.size)
  generalize w1.setCell ⟨J, 0, none⟩ (.slice (some ⟨g1, 0, none⟩) 1 cap1) = W1 at *
  clear hBW
  rw [rounds_succ]
  have b1 := (hK1.out.below.cell (p := ⟨b, 1, none⟩) hbl).trans H1.out
  have jc := ((Below.refl W1.heap.size W1).alloc (Nat.le_refl _) (.cells #[.iface 34 (.int .i64 c)] 29)).cell (p := ⟨J, 0, none⟩) hK1.out.lt
  have jc0 := hK1.out.cell
  go_wp2_with (at_builtin; refine wpList_append_lies _ rfl (.tmp 38) (.tmp 40) 73 rfl w.heap.size 29 i0 .nilIface 1 16 Tryd.underlying73 HI.out.1 HI.out.2.1 HI.out.2.2.1 HI.out.2.2.2 rfl (by decide) (.slice (some ⟨g1, 0, none⟩) 1 cap1) 1 [.iface 77 (.pointer (some ⟨p, 0, none⟩))] rfl (hK1.out.row.alloc _) ⟨W1.heap.size, 0, none⟩ 1 1 [.iface 34 (.int .i64 c)] rfl rfl ?aN ?aO (by decide) (by decide) (by decide) ?aB (W1.heap.size + 1) ?aH ?_; (case aN => exact cell_one_new _ _ _); (case aO => simp [Value.oneCell']); (case aB => have := hB1.out; simp; omega); (case aH => simp); intro g2 cap2 w2 hown2 hgrow2 hat2 hlt2; have hs2 := hK1.out.step hown2 hgrow2 hat2 (by simp) hB1.out; have hK2 := Lib.hid hs2.1; have hc2 := hs2.2.1; have hf2 := hs2.2.2; clear hs2 hown2 hgrow2 hat2 hlt2 b1 jc jc0)
  clear hc2 hf2 hK1
  simp only [List.cons_append, List.nil_append] at hK2
  rw [rounds_succ]
  go_wp2
  go_ret
  have hK := hK2.out
  exact ⟨J, rfl, ⟨g2, p, cap2, hK.cell, hK.row.cellAt 0 (by omega), hK.row.cellAt 1 (by omega)⟩, hK.below⟩
end Go.Proofs.YtppapffkidkonaaDoor
