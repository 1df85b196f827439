import Derived.Test.YtcealidhhkdmjaaPWideAddsx2
import Derived.Lib.QuietBelow
namespace Go.Proofs.Ytcealidhhkdmjaa
open Go.RowKit Go.Proofs.YtcealidhhkdmjaaW.PrintWords Go.Proofs.YtcealidhhkdmjaaW.PrintLast Go.Proofs.YtcealidhhkdmjaaW.PrintMore

/-- A style's 43 cells. -/
def sty (g : Nat → Int) : Array Value := ((List.range 43).map fun i => Value.int .i64 (g i)).toArray
theorem sty_size (g : Nat → Int) : (sty g).size = 43 := by simp [sty]
theorem sty_at (g : Nat → Int) (j : Nat) (hj : j < 43) : (sty g)[j]? = some (.int .i64 (g j)) := by simp [sty, hj]
/-- A style in a box of its own. -/
def InBox (W : World) (b : Nat) (g : Nat → Int) : Prop := ∀ j, j < 43 → W.cell? ⟨b, j, none⟩ = some (.int .i64 (g j))
theorem inBox_alloc (w : World) (g : Nat → Int) (t : TypeId) : InBox (w.alloc (.cells (sty g) t)) w.heap.size g := by
  intro j hj
  rw [World.cell?_alloc_at _ _ _ _ (by rfl)]
  exact sty_at g j hj

/-- The row of a style's box. -/
def RowIs (W : World) (b : Nat) (g : Nat → Int) : Prop := W.heap[b]? = some (.cells (sty g) 27 (0, 0))
theorem rowIs_alloc (w : World) (g : Nat → Int) : RowIs (w.alloc (.cells (sty g) 27)) w.heap.size g := heap_alloc_new w _
theorem RowIs.lt {W : World} {b : Nat} {g : Nat → Int} (h : RowIs W b g) : b < W.heap.size := (Array.getElem?_eq_some_iff.1 h).1
theorem RowIs.below {W W' : World} {b : Nat} {g : Nat → Int} (h : RowIs W b g) (hb : Below W.heap.size W W') : RowIs W' b g := (hb.block b h.lt).trans h
theorem RowIs.alloc {W : World} {b : Nat} {g : Nat → Int} (h : RowIs W b g) (o : Obj) : RowIs (W.alloc o) b g := (Below.heap_alloc W o b h.lt).trans h
theorem RowIs.setCell {W : World} {b : Nat} {g : Nat → Int} (h : RowIs W b g) (a : Addr) (v : Value) (hne : b ≠ a.block) : RowIs (W.setCell a v) b g := (heap_setCell_other W a b v hne).trans h
theorem RowIs.cell {W : World} {b : Nat} {g : Nat → Int} (h : RowIs W b g) (j : Nat) (hj : j < 43) : W.cell? ⟨b, j, none⟩ = some (.int .i64 (g j)) := (cell_of_row W b j _ _ _ h).trans (sty_at g j hj)
theorem sty_info (g : Nat → Int) : (Try.prog.info? 27).map (·.size) = some (sty g).size := by rw [sty_size]; kernel_rfl

/-- A load of a whole box, in a region that is walked once. -/
theorem quiet_load_row {P : Program} {o : Oper} {a : Act} {C : World → Prop} {K : Act → Prop} (ty : TypeId) (x : Operand) (ho : o.op = .load ty x)
    (g : Nat) (hx : a.eval x = .pointer (some ⟨g, 0, none⟩)) (t : TypeId) (cs : Array Value) (fr : Nat × Nat) (d : TypeDesc) (hg : ∀ w, C w → w.heap[g]? = some (.cells cs t fr))
    (hu : P.underlying ty = some d) (hd : (match d with | .struct _ | .array _ _ => true | _ => false) = true) (hi : (P.info? ty).map (·.size) = some cs.size)
    (h : K (a.put o.dst (.agg cs))) : o.quiet P a C K := by
  refine ⟨.agg cs, fun w hw => ?_, h⟩
  unfold Oper.quietAt execOp
  simp only [ho, hx, Instr.loadAt, Instr.sureAddr, Sem.run_bind, Sem.run_pure, Result.andThen_ok, run_loadVar_row w g t ty cs fr d (hg w hw) hu hd hi]
  exact ⟨rfl, rfl⟩

set_option maxRecDepth 100000 in
theorem edges_calls (g : Nat → Int) (w : World) :
  Calls Try.prog 10 #[.agg (sty g)] w fun e w' => e = .returned (.tuple #[.int .i64 (wrap64 (g 31 + g 35)), .int .i64 (wrap64 (g 32 + g 36)), .int .i64 (wrap64 (g 33 + g 37)), .int .i64 (wrap64 (g 34 + g 38))]) ∧ Below w.heap.size w w' := by
  have hb := inBox_alloc w g 27
  have HB : Aside0 (Below w.heap.size w (w.alloc (.cells (sty g) 27))) := ⟨(Below.refl _ _).alloc (Nat.le_refl _) _⟩
  go_enter Try.func10, Try.ntmps10
  go_wp2_with fail
  generalize w.alloc (.cells (sty g) 27) = W at *
  have c31 := hb 31 (by omega)
  have c32 := hb 32 (by omega)
  have c33 := hb 33 (by omega)
  have c34 := hb 34 (by omega)
  have c35 := hb 35 (by omega)
  have c36 := hb 36 (by omega)
  have c37 := hb 37 (by omega)
  have c38 := hb 38 (by omega)
  clear hb
  go_quiet (fail)
  go_wp2
  exact bodyPost_ret (v := .tuple #[.int .i64 _, .int .i64 _, .int .i64 _, .int .i64 _]) (by simp [results, Try.results10, go_sem]) rfl ⟨rfl, pw_below_drewN HB.out _⟩

set_option maxRecDepth 100000 in
theorem min_calls (g : Nat → Int) (base r : Int) (t : Bool) (w : World) (h : PWideAdds.size_of.f (g 13) (g 14) base = some (r, t)) :
  Calls Try.prog 14 #[.agg (sty g), .bool false, .int .i64 base] w fun e w' => e = .returned (.int .i64 r) ∧ Below w.heap.size w w' := by
  have hb := inBox_alloc w g 27
  have HB : Aside0 (Below w.heap.size w (w.alloc (.cells (sty g) 27))) := ⟨(Below.refl _ _).alloc (Nat.le_refl _) _⟩
  have H := Aside0.mk h
  clear h
  have c13 := hb 13 (by omega)
  have c14 := hb 14 (by omega)
  clear hb
  go_enter Try.func14, Try.ntmps14
  go_wp2_with fail
  refine (PWideAdds.size_of.calls _ _ _ _ _ _ H.out).mono ?_
  rintro e w1 ⟨rfl, hb1⟩
  have B1 := Aside0.mk (below_step (below_alloc HB.out _) hb1)
  clear hb1
  go_wp2
  go_ret
  exact ⟨rfl, B1.out⟩

set_option maxRecDepth 100000 in
theorem max_calls (g : Nat → Int) (base r : Int) (t : Bool) (w : World) (h : PWideAdds.size_of.f (g 17) (g 18) base = some (r, t)) :
  Calls Try.prog 15 #[.agg (sty g), .bool false, .int .i64 base] w fun e w' => e = .returned (.int .i64 (if t then r else -1)) ∧ Below w.heap.size w w' := by
  have hb := inBox_alloc w g 27
  have HB : Aside0 (Below w.heap.size w (w.alloc (.cells (sty g) 27))) := ⟨(Below.refl _ _).alloc (Nat.le_refl _) _⟩
  have H := Aside0.mk h
  clear h
  have c13 := hb 17 (by omega)
  have c14 := hb 18 (by omega)
  clear hb
  go_enter Try.func15, Try.ntmps15
  go_wp2_with fail
  refine (PWideAdds.size_of.calls _ _ _ _ _ _ H.out).mono ?_
  rintro e w1 ⟨rfl, hb1⟩
  have B1 := Aside0.mk (below_step (below_alloc HB.out _) hb1)
  clear hb1
  cases t with
  | true =>
    go_wp2
    go_ret
    exact ⟨rfl, B1.out⟩
  | false =>
    go_wp2
    go_ret
    exact ⟨rfl, B1.out⟩

end Go.Proofs.Ytcealidhhkdmjaa
