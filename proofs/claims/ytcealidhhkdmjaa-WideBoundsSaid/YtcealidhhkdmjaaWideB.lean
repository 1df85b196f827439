import Derived.Test.YtcealidhhkdmjaaWideA
namespace Go.Proofs.Ytcealidhhkdmjaa
open Go.Sort Go.RowKit Go.Proofs.YtcealidhhkdmjaaW.PrintWords Go.Proofs.YtcealidhhkdmjaaW.PrintLast Go.Proofs.YtcealidhhkdmjaaW.PrintMore
open PWideAdds

/-- A block of the call's own that holds three numbers. -/
def Three (W : World) (b : Nat) (x y z : Int) : Prop := W.heap[b]? = some (.cells #[.int .i64 x, .int .i64 y, .int .i64 z] 29 (0, 0))

theorem wpList_load_sty {ops : Array Oper} {rest : List Oper} {o : Oper} {a : Act} {w : World} {Q : Exit → Act → World → Prop} (hgd : o.guard = none) (x : Operand) (ho : o.op = .load 27 x)
    (b : Nat) (hx : a.eval x = .pointer (some ⟨b, 0, none⟩)) (g : Nat → Int) (hr : RowIs w b g) (h : wpList Try.prog ops Q rest (a.put o.dst (.agg (sty g))) w) : wpList Try.prog ops Q (o :: rest) a w :=
  wpList_load_row hgd 27 x ho b hx 27 _ _ _ hr Try.underlying27 rfl (sty_info g) h

theorem Three.below {W W' : World} {b : Nat} {x y z : Int} (h : Three W b x y z) (hb : Below W.heap.size W W') : Three W' b x y z := (hb.block b (Array.getElem?_eq_some_iff.1 h).1).trans h
theorem Three.lt {W : World} {b : Nat} {x y z : Int} (h : Three W b x y z) : b < W.heap.size := (Array.getElem?_eq_some_iff.1 h).1
theorem Three.alloc {W : World} {b : Nat} {x y z : Int} (h : Three W b x y z) (o : Obj) : Three (W.alloc o) b x y z := (Below.heap_alloc W o b h.lt).trans h
theorem Three.new (W : World) (x y z : Int) : Three (W.alloc (.cells #[.int .i64 x, .int .i64 y, .int .i64 z] 29)) W.heap.size x y z := heap_alloc_new W _
theorem Three.c0 {W : World} {b : Nat} {x y z : Int} (h : Three W b x y z) : W.cell? ⟨b, 0, none⟩ = some (.int .i64 x) := cell_of_row W b 0 _ _ _ h
theorem Three.c1 {W : World} {b : Nat} {x y z : Int} (h : Three W b x y z) : W.cell? ⟨b, 1, none⟩ = some (.int .i64 y) := cell_of_row W b 1 _ _ _ h
theorem Three.c2 {W : World} {b : Nat} {x y z : Int} (h : Three W b x y z) : W.cell? ⟨b, 2, none⟩ = some (.int .i64 z) := cell_of_row W b 2 _ _ _ h
theorem Three.f {W : World} {b : Nat} {x y z : Int} (h : Three W b x y z) (j : Nat) : W.frozen? ⟨b, j, none⟩ = false := frozen_of_row W b j _ _ h
theorem Three.s0 {W : World} {b : Nat} {x y z : Int} (h : Three W b x y z) (v : Int) : Three (W.setCell ⟨b, 0, none⟩ (.int .i64 v)) b v y z := heap_setCell_same W b 0 _ 29 _ h
theorem Three.s1 {W : World} {b : Nat} {x y z : Int} (h : Three W b x y z) (v : Int) : Three (W.setCell ⟨b, 1, none⟩ (.int .i64 v)) b x v z := heap_setCell_same W b 1 _ 29 _ h
theorem Three.s2 {W : World} {b : Nat} {x y z : Int} (h : Three W b x y z) (v : Int) : Three (W.setCell ⟨b, 2, none⟩ (.int .i64 v)) b x y v := heap_setCell_same W b 2 _ 29 _ h
theorem Three.other {W : World} {b : Nat} {x y z : Int} (h : Three W b x y z) (a : Addr) (v : Value) (hne : b ≠ a.block) : Three (W.setCell a v) b x y z := (heap_setCell_other W a b v hne).trans h

/-- What Width hands back. -/
def widthR (tw : Bool) (W wv ml mr r1 r2 r3 : Int) : Value := if tw = false ∧ W = wv then .agg #[.int .i64 ml, .int .i64 W, .int .i64 mr] else .agg #[.int .i64 r1, .int .i64 r2, .int .i64 r3]

set_option maxHeartbeats 1000000 in
set_option maxRecDepth 100000 in
theorem width_calls (g : Nat → Int) (base ml mr lo hi hi0 w0 wv W r1 r2 r3 : Int) (kk : Nat) (tl tr t1 t2 tw : Bool) (w : World)
    (hL : wide_Side.f (g 29) (g 30) base = some (ml, tl)) (hR : wide_Side.f (g 25) (g 26) base = some (mr, tr))
    (hmin : size_of.f (g 13) (g 14) base = some (lo, t1)) (hmax : size_of.f (g 17) (g 18) base = some (hi0, t2)) (hhi : (if t2 then hi0 else -1) = hi)
    (hw : wide_Side.f (g 9) (g 10) base = some (w0, tw))
    (hwv : (if tw then w0 else wrap64 (wrap64 (wrap64 (wrap64 (base - ml) - mr) - wrap64 (g 34 + g 38)) - wrap64 (g 32 + g 36))) = wv)
    (hc : size_Clamp.f wv lo hi = some W)
    (hs : wide_shared.f kk ml W mr (wrap64 (wrap64 (wrap64 (wrap64 (wrap64 (base - W) - wrap64 (g 34 + g 38)) - wrap64 (g 32 + g 36)) - ml) - mr)) (!tl) (!tr) = some (r1, r2, r3)) :
  Calls Try.prog 6 #[.agg (sty g), .int .i64 base] w fun e w' => e = .returned (widthR tw W wv ml mr r1 r2 r3) ∧ Below w.heap.size w w' := by
  have hrow := rowIs_alloc w g
  have HB : Aside0 (Below w.heap.size w (w.alloc (.cells (sty g) 27))) := ⟨(Below.refl _ _).alloc (Nat.le_refl _) _⟩
  have H1 := Aside0.mk hL; have H2 := Aside0.mk hR; have H3 := Aside0.mk hmin; have H4 := Aside0.mk hmax; have H5 := Aside0.mk hhi; have H6 := Aside0.mk hw; have H7 := Aside0.mk hwv; have H8 := Aside0.mk hc; have H9 := Aside0.mk hs
  clear hL hR hmin hmax hhi hw hwv hc hs
  go_enter Try.func6, Try.ntmps6
  go_wp2_with (refine wpList_load_sty rfl _ rfl w.heap.size rfl g (hrow.alloc _) ?_)
  have hr0 := (hrow.alloc (.cells #[.int .i64 0, .int .i64 0, .int .i64 0] 29))
  have ht0 : Three ((w.alloc (.cells (sty g) 27)).alloc (.cells #[.int .i64 0, .int .i64 0, .int .i64 0] 29)) (w.heap.size + 1) 0 0 0 := by
    have := Three.new (w.alloc (.cells (sty g) 27)) 0 0 0
    have e : (w.alloc (.cells (sty g) 27)).heap.size = w.heap.size + 1 := by simp
    rwa [e] at this
  have B0 := Aside0.mk (below_alloc HB.out (.cells #[.int .i64 0, .int .i64 0, .int .i64 0] 29))
  refine (edges_calls _ _).mono ?_
  rintro e w1 ⟨rfl, hb1⟩
  have hr1 := hr0.below hb1
  have ht1 := ht0.below hb1
  have B1 := Aside0.mk (below_step B0.out hb1)
  clear hrow hr0 ht0 HB B0 hb1
  have c29 := (hr1.alloc (.cells #[.int .i64 0, .int .i64 0, .int .i64 0] 29)).cell 29 (by omega)
  have c30 := (hr1.alloc (.cells #[.int .i64 0, .int .i64 0, .int .i64 0] 29)).cell 30 (by omega)
  have hr1' := (hr1.alloc (.cells #[.int .i64 0, .int .i64 0, .int .i64 0] 29))
  have ht1' := (ht1.alloc (.cells #[.int .i64 0, .int .i64 0, .int .i64 0] 29))
  have ho1 := Three.new w1 0 0 0
  have B1' := Aside0.mk (below_alloc B1.out (.cells #[.int .i64 0, .int .i64 0, .int .i64 0] 29))
  have low := Aside0.mk B1.out.size
  have ne1 := Aside0.mk ht1.lt
  have ne2 := Aside0.mk hr1.lt
  clear hr1 ht1 B1
  go_wp2_with fail
  refine (wide_Side.calls _ _ _ _ _ _ H1.out).mono ?_
  rintro e w2 ⟨rfl, hb2⟩
  have hr2 := hr1'.below hb2
  have ht2 := ht1'.below hb2
  have ho2 := ho1.below hb2
  have B2 := Aside0.mk (below_step B1'.out hb2)
  clear hr1' ht1' ho1 B1' c29 c30 hb2 H1
  have c25 := hr2.cell 25 (by omega)
  have c26 := hr2.cell 26 (by omega)
  go_wp2_with fail
  refine (wide_Side.calls _ _ _ _ _ _ H2.out).mono ?_
  rintro e w3 ⟨rfl, hb3⟩
  have hr3 := hr2.below hb3
  have ht3 := ht2.below hb3
  have ho3 := ho2.below hb3
  have B3 := Aside0.mk (below_step B2.out hb3)
  clear hr2 ht2 ho2 B2 c25 c26 hb3 H2
  have o0 := ho3.c0
  have o2 := ho3.c2
  have f0 := ho3.f 0
  have f2 := ho3.f 2
  go_wp2_with fail
  have hne2 : w1.heap.size ≠ w.heap.size + 1 := by have := ne1.out; omega
  have hne1 : w1.heap.size ≠ w.heap.size := by have := ne2.out; omega
  have hr4 := (hr3.setCell ⟨w1.heap.size, 0, none⟩ (.int .i64 ml) hne1.symm).setCell ⟨w1.heap.size, 2, none⟩ (.int .i64 mr) hne1.symm
  have ht4 := (ht3.other ⟨w1.heap.size, 0, none⟩ (.int .i64 ml) hne2.symm).other ⟨w1.heap.size, 2, none⟩ (.int .i64 mr) hne2.symm
  have ho4 := (ho3.s0 ml).s2 mr
  have B4 := Aside0.mk ((B3.out.setCell (p := ⟨w1.heap.size, 0, none⟩) low.out (.int .i64 ml)).setCell (p := ⟨w1.heap.size, 2, none⟩) low.out (.int .i64 mr))
  clear hr3 ht3 ho3 B3 o0 o2 f0 f2 hne1 hne2
  generalize (w3.setCell ⟨w1.heap.size, 0, none⟩ (.int .i64 ml)).setCell ⟨w1.heap.size, 2, none⟩ (.int .i64 mr) = w4 at *
  have hl : ∀ w', (∃ p : Regrown, w' = grow (redrawn w4 p.d) p.os) → w'.heap[w.heap.size]? = some (.cells (sty g) 27 (0, 0)) := by
    rintro _ ⟨p, rfl⟩
    exact hr4.below (below_regrown w4 p.d p.os)
  have k1 : ∀ d os, Calls Try.prog 14 #[.agg (sty g), .bool false, .int .i64 base] (grow (redrawn w4 d) os) fun e w'' => e = .returned (.int .i64 lo) ∧ ∃ p : Regrown, w'' = grow (redrawn w4 p.d) p.os :=
    fun d os => Calls.regrown_of (min_calls g base lo t1 _ H3.out)
  have k2 : ∀ d os, Calls Try.prog 15 #[.agg (sty g), .bool false, .int .i64 base] (grow (redrawn w4 d) os) fun e w'' => e = .returned (.int .i64 hi) ∧ ∃ p : Regrown, w'' = grow (redrawn w4 p.d) p.os :=
    fun d os => by rw [← H5.out]; exact Calls.regrown_of (max_calls g base hi0 t2 _ H4.out)
  refine wp_region_quiet_below (by kernel_rfl) (by kernel_rfl) ?_
  refine BigFrame.wpQuiet_want rfl (fun K hK => quiet_load_row 27 _ rfl w.heap.size rfl 27 _ _ _ hl Try.underlying27 rfl (sty_info g) (hK _ ?_))
  quiet_step (fail)
  quiet_step (exact k1 _ _)
  refine BigFrame.wpQuiet_want rfl (fun K hK => quiet_load_row 27 _ rfl w.heap.size rfl 27 _ _ _ hl Try.underlying27 rfl (sty_info g) (hK _ ?_))
  quiet_step (fail)
  quiet_step (exact k2 _ _)
  quiet_step (fail)
  quiet_step (fail)
  refine wpQuiet_nil ?_
  rintro w5 ⟨⟨dq, osq⟩, hw5⟩
  have hb5 : Below w4.heap.size w4 w5 := hw5 ▸ below_regrown w4 dq osq
  clear hw5 hl k1 k2 H3 H4 H5
  have hr5 := hr4.below hb5
  have ht5 := ht4.below hb5
  have ho5 := ho4.below hb5
  have B5 := Aside0.mk (below_step B4.out hb5)
  clear hr4 ht4 ho4 B4 hb5
  have c9 := hr5.cell 9 (by omega)
  have c10 := hr5.cell 10 (by omega)
  go_wp2_with fail
  refine (wide_Side.calls _ _ _ _ _ _ H6.out).mono ?_
  rintro e w6 ⟨rfl, hb6⟩
  have ht6 := ht5.below hb6
  have ho6 := ho5.below hb6
  have B6 := Aside0.mk (below_step B5.out hb6)
  clear hr5 ht5 ho5 B5 c9 c10 hb6 H6
  cases tw with
  | true =>
    have e7 : w0 = wv := H7.out
    subst e7
    go_wp2_with fail
    refine (size_Clamp.calls _ _ _ _ _ H8.out).mono ?_
    rintro e w7 ⟨rfl, hb7⟩
    have ht7 := ht6.below hb7
    have ho7 := ho6.below hb7
    have B7 := Aside0.mk (below_step B6.out hb7)
    clear ht6 ho6 B6 hb7 H8
    have o0 := ho7.c0
    have o1 := ho7.c1
    have o2 := ho7.c2
    have f1 := ho7.f 1
    go_wp2_with fail
    have hne2 : w.heap.size + 1 ≠ w1.heap.size := by have := ne1.out; omega
    have ht8 := ht7.other ⟨w1.heap.size, 1, none⟩ (.int .i64 W) hne2
    have B8 := Aside0.mk (B7.out.setCell (p := ⟨w1.heap.size, 1, none⟩) low.out (.int .i64 W))
    clear ht7 ho7 B7 o0 o1 o2 f1 hne2
    generalize w7.setCell ⟨w1.heap.size, 1, none⟩ (.int .i64 W) = w8 at *
    refine (wide_shared.calls kk _ _ _ _ _ _ _ _ _ _ H9.out).mono ?_
    rintro e w9 ⟨rfl, hb9⟩
    have ht9 := ht8.below hb9
    have B9 := Aside0.mk (below_step B8.out hb9)
    clear ht8 B8 hb9 H9
    have o0 := ht9.c0
    have o1 := ht9.c1
    have o2 := ht9.c2
    have f0 := ht9.f 0
    have f1 := ht9.f 1
    have f2 := ht9.f 2
    go_wp2
    have B10 := ((B9.out.setCell (p := ⟨w.heap.size + 1, 0, none⟩) (by simp) (.int .i64 r1)).setCell (p := ⟨w.heap.size + 1, 1, none⟩) (by simp) (.int .i64 r2)).setCell (p := ⟨w.heap.size + 1, 2, none⟩) (by simp) (.int .i64 r3)
    refine bodyPost_ret (v := .agg #[.int .i64 r1, .int .i64 r2, .int .i64 r3]) (by simp [results, Try.results6, go_sem, o0, o1, o2]) rfl ⟨by simp [widthR], ?_⟩
    exact B10
  | false =>
    have e7 : wrap64 (wrap64 (wrap64 (wrap64 (base - ml) - mr) - wrap64 (g 34 + g 38)) - wrap64 (g 32 + g 36)) = wv := H7.out
    go_wp2_with fail
    rw [e7]
    have h8 := H8.out
    clear H7
    refine (size_Clamp.calls _ _ _ _ _ H8.out).mono ?_
    rintro e w7 ⟨rfl, hb7⟩
    have ht7 := ht6.below hb7
    have ho7 := ho6.below hb7
    have B7 := Aside0.mk (below_step B6.out hb7)
    clear ht6 ho6 B6 hb7 H8 h8
    have o0 := ho7.c0
    have o1 := ho7.c1
    have o2 := ho7.c2
    have f1 := ho7.f 1
    by_cases hW : W = wv
    · have hWb : (W == wv) = true := beq_iff_eq.2 hW
      have HW := Aside0.mk hW
      clear hW H9
      have ot0 := (ht7.other ⟨w1.heap.size, 1, none⟩ (.int .i64 W) (by have := ne1.out; simp; omega)).c0
      have ot1 := (ht7.other ⟨w1.heap.size, 1, none⟩ (.int .i64 W) (by have := ne1.out; simp; omega)).c1
      have ot2 := (ht7.other ⟨w1.heap.size, 1, none⟩ (.int .i64 W) (by have := ne1.out; simp; omega)).c2
      have ft0 := (ht7.other ⟨w1.heap.size, 1, none⟩ (.int .i64 W) (by have := ne1.out; simp; omega)).f 0
      have ft1 := (ht7.other ⟨w1.heap.size, 1, none⟩ (.int .i64 W) (by have := ne1.out; simp; omega)).f 1
      have ft2 := (ht7.other ⟨w1.heap.size, 1, none⟩ (.int .i64 W) (by have := ne1.out; simp; omega)).f 2
      have B8 := Aside0.mk (B7.out.setCell (p := ⟨w1.heap.size, 1, none⟩) low.out (.int .i64 W))
      have os0 := (ho7.s1 W).c0
      have os1 := (ho7.s1 W).c1
      have os2 := (ho7.s1 W).c2
      go_wp2_with fail
      clear o0 o1 o2 f1 ht7 ho7 B7
      generalize w7.setCell ⟨w1.heap.size, 1, none⟩ (.int .i64 W) = w8 at *
      go_wp2
      have B10 := ((B8.out.setCell (p := ⟨w.heap.size + 1, 0, none⟩) (by simp) (.int .i64 ml)).setCell (p := ⟨w.heap.size + 1, 1, none⟩) (by simp) (.int .i64 W)).setCell (p := ⟨w.heap.size + 1, 2, none⟩) (by simp) (.int .i64 mr)
      exact bodyPost_ret (v := .agg #[.int .i64 ml, .int .i64 W, .int .i64 mr]) (by simp [results, Try.results6, go_sem, ot0, ot1, ot2]) rfl ⟨by simp [widthR, HW.out], B10⟩
    · have hWb : (W == wv) = false := beq_eq_false_iff_ne.2 hW
      have HW := Aside0.mk hW
      clear hW
      go_wp2_with fail
      have hne2 : w.heap.size + 1 ≠ w1.heap.size := by have := ne1.out; omega
      have ht8 := ht7.other ⟨w1.heap.size, 1, none⟩ (.int .i64 W) hne2
      have B8 := Aside0.mk (B7.out.setCell (p := ⟨w1.heap.size, 1, none⟩) low.out (.int .i64 W))
      clear ht7 ho7 B7 o0 o1 o2 f1 hne2
      generalize w7.setCell ⟨w1.heap.size, 1, none⟩ (.int .i64 W) = w8 at *
      refine (wide_shared.calls kk _ _ _ _ _ _ _ _ _ _ H9.out).mono ?_
      rintro e w9 ⟨rfl, hb9⟩
      have ht9 := ht8.below hb9
      have B9 := Aside0.mk (below_step B8.out hb9)
      clear ht8 B8 hb9 H9
      have o0 := ht9.c0
      have o1 := ht9.c1
      have o2 := ht9.c2
      have f0 := ht9.f 0
      have f1 := ht9.f 1
      have f2 := ht9.f 2
      go_wp2
      have B10 := ((B9.out.setCell (p := ⟨w.heap.size + 1, 0, none⟩) (by simp) (.int .i64 r1)).setCell (p := ⟨w.heap.size + 1, 1, none⟩) (by simp) (.int .i64 r2)).setCell (p := ⟨w.heap.size + 1, 2, none⟩) (by simp) (.int .i64 r3)
      exact bodyPost_ret (v := .agg #[.int .i64 r1, .int .i64 r2, .int .i64 r3]) (by simp [results, Try.results6, go_sem, o0, o1, o2]) rfl ⟨by simp [widthR, HW.out], B10⟩
end Go.Proofs.Ytcealidhhkdmjaa
