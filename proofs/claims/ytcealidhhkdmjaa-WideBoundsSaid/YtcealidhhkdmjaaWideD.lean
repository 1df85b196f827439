import Derived.Test.YtcealidhhkdmjaaWideC
namespace Go.Proofs.Ytcealidhhkdmjaa
open Go.Sort Go.RowKit Go.Proofs.YtcealidhhkdmjaaW.PrintWords Go.Proofs.YtcealidhhkdmjaaW.PrintLast Go.Proofs.YtcealidhhkdmjaaW.PrintMore
open PWideAdds

theorem fix_calls (n : Int) (w : World) : Calls Try.prog 18 #[.int .i64 n] w fun e w' => e = .returned (.agg #[.int .i64 1, .int .i64 n]) ∧ Below w.heap.size w w' := by
  go_enter Try.func18, Try.ntmps18
  go_wp2
  exact bodyPost_ret (v := .agg #[.int .i64 1, .int .i64 n]) (by simp [results, Try.results18, go_sem]) rfl ⟨rfl, (Below.refl _ _).alloc (Nat.le_refl _) _⟩

/-- A composite literal, built as one step. -/
theorem wpList_build {P : Program} {ops : Array Oper} {rest : List Oper} {o : Oper} {a : Act} {w : World} {Q : Exit → Act → World → Prop} (hw : Region.wanted o (yielded ops a.tmps) = true)
    (ty : TypeId) (parts : Array (Nat × Operand)) (ho : o.op = .build ty parts) (vs : Array (Nat × Value)) (hv : (parts.map fun p => (p.1, a.eval p.2)) = vs) (r : Value)
    (hr : (Instr.build ty vs).run P w = .ok r w) (h : wpList P ops Q rest (a.put o.dst r) w) : wpList P ops Q (o :: rest) a w :=
  wpList_step fun K hK => by
    rw [if_pos hw]
    unfold Oper.wp execOp
    simp only [ho]
    rw [hv]
    simp only [Sem.run_bind, hr, Result.andThen_ok, Sem.run_pure]
    exact hK _ _ h

/-- Forty-three numbers as a style. -/
def gl (l : List Int) (i : Nat) : Int := l.getD i 0
def s1 : List Int := [0,0,0,0,0,0,0,0,0, 1,40, 0,0, 0,0, 0,0, 1,30, 0,0, 0,0, 0,0,0,0,0,0,1,10, 1,2,3,4, 0,0,0,0, 0,0,0, 0]
def s2 : List Int := [0,0,0,0,0,0,0,0,0, 0,0, 2,5000]
def p1 : Array (Nat × Value) := #[(9, .agg #[.int .i64 1, .int .i64 40]), (16, .agg #[.int .i64 0, .int .i64 0, .int .i64 0, .int .i64 0, .int .i64 0, .int .i64 0, .int .i64 1, .int .i64 10]),
    (17, .agg #[.int .i64 1, .int .i64 2, .int .i64 3, .int .i64 4]), (13, .agg #[.int .i64 1, .int .i64 30])]
theorem build1 (w : World) : (Instr.build 27 p1).run Try.prog w = .ok (.agg (sty (gl s1))) w := by kernel_rfl
theorem build2 (w : World) : (Instr.build 27 #[(10, .agg #[.int .i64 2, .int .i64 5000])]).run Try.prog w = .ok (.agg (sty (gl s2))) w := by kernel_rfl
theorem build3 (w : World) : (Instr.build 27 #[]).run Try.prog w = .ok (.agg (sty (gl []))) w := by kernel_rfl
theorem sty_one (g : Nat → Int) : (sty g).all (·.oneCell') = true := by simp [sty, Value.oneCell']

/-- A whole style stored into a block of the call's own: what is known of the world behind it. -/
structure Stored (w w' : World) (b : Nat) : Prop where
  size : w'.heap.size = w.heap.size
  other : ∀ k, k ≠ b → w'.heap[k]? = w.heap[k]?
  below : ∀ B w0, Below B w0 w → B ≤ b → Below B w0 w'
theorem wpList_store_sty {ops : Array Oper} {rest : List Oper} {o : Oper} {a : Act} {w : World} {Q : Exit → Act → World → Prop} (hgd : o.guard = none) (x y : Operand) (ho : o.op = .store 27 x y)
    (b : Nat) (g : Nat → Int) (hx : a.eval x = .pointer (some ⟨b, 0, none⟩)) (hy : a.eval y = .agg (sty g)) (old : Array Value) (hg : w.heap[b]? = some (.cells old 27 (0, 0))) (hold : old.size = 43)
    (h : ∀ w', RowIs w' b g → Stored w w' b → wpList Try.prog ops Q rest (a.put o.dst undef) w') : wpList Try.prog ops Q (o :: rest) a w :=
  wpList_store_row hgd 27 x y ho b (sty g) hx hy 27 old hg (sty_info g) (by rw [hold, sty_size]) (sty_one g)
    (h _ (setRow_heap _ _ _ _ _ _ hg) ⟨by simp, fun k hk => setRow_other _ _ _ _ hk, fun B w0 hb hB => hb.trans ⟨rfl, rfl, rfl, by simp, fun k hk => setRow_other _ _ _ _ (by omega)⟩⟩)

theorem edges_s1 (w : World) : Calls Try.prog 10 #[.agg (sty (gl s1))] w fun e w' => e = .returned (.tuple #[.int .i64 1, .int .i64 2, .int .i64 3, .int .i64 4]) ∧ Below w.heap.size w w' := by
  have h := edges_calls (gl s1) w
  have e1 : wrap64 (gl s1 31 + gl s1 35) = 1 := by decide +kernel
  have e2 : wrap64 (gl s1 32 + gl s1 36) = 2 := by decide +kernel
  have e3 : wrap64 (gl s1 33 + gl s1 37) = 3 := by decide +kernel
  have e4 : wrap64 (gl s1 34 + gl s1 38) = 4 := by decide +kernel
  rw [e1, e2, e3, e4] at h
  exact h
theorem height_s2 (w : World) : Calls Try.prog 19 #[.agg (sty (gl s2)), .int .i64 80] w fun e w' => e = .returned (.tuple #[.int .i64 40, .bool true]) ∧ Below w.heap.size w w' :=
  height_calls (gl s2) 80 40 0 (-1) 0 40 false false w (by decide) (by decide +kernel) (by decide +kernel) (by decide +kernel) (by decide +kernel) (by decide +kernel)
theorem height_s2n (w : World) : Calls Try.prog 19 #[.agg (sty (gl s2)), .int .i64 (-1)] w fun e w' => e = .returned (.tuple #[.int .i64 0, .bool false]) ∧ Below w.heap.size w w' :=
  height_none (gl s2) (-1) w (by decide +kernel) (by decide)
theorem width_s1 (w : World) : Calls Try.prog 6 #[.agg (sty (gl s1)), .int .i64 100] w fun e w' => e = .returned (.agg #[.int .i64 10, .int .i64 30, .int .i64 54]) ∧ Below w.heap.size w w' :=
  width_calls (gl s1) 100 10 0 0 30 30 40 40 30 10 30 54 1 true false false true true w (by decide +kernel) (by decide +kernel) (by decide +kernel) (by decide +kernel) (by decide +kernel) (by decide +kernel) (by decide +kernel) (by decide +kernel) (by decide +kernel)
theorem width_s0 (w : World) : Calls Try.prog 6 #[.agg (sty (gl [])), .int .i64 50] w fun e w' => e = .returned (.agg #[.int .i64 0, .int .i64 50, .int .i64 0]) ∧ Below w.heap.size w w' :=
  width_calls (gl []) 50 0 0 0 (-1) 0 0 50 50 0 50 0 1 false false false false false w (by decide +kernel) (by decide +kernel) (by decide +kernel) (by decide +kernel) (by decide +kernel) (by decide +kernel) (by decide +kernel) (by decide +kernel) (by decide +kernel)

set_option maxHeartbeats 1000000 in
set_option maxRecDepth 100000 in
theorem awake_calls (w : World) : Calls Try.prog 7 #[] w fun e w' => e = .returned (.bool true) ∧ Below w.heap.size w w' := by
  go_enter Try.func7, Try.ntmps7
  go_wp2_with fail
  refine (fix_calls _ _).mono ?_
  rintro e w1 ⟨rfl, hb1⟩
  go_wp2_with fail
  refine (fix_calls _ _).mono ?_
  rintro e w2 ⟨rfl, hb2⟩
  go_wp2_with fail
  refine (fix_calls _ _).mono ?_
  rintro e w3 ⟨rfl, hb3⟩
  have B3 := Aside0.mk (below_step (below_step hb1 hb2) hb3)
  clear hb1 hb2 hb3
  go_wp2_with (first | (refine wpList_build rfl 27 #[(9, .tmp 12), (16, .tmp 18), (17, .tmp 19), (13, .tmp 21)] rfl p1 ?hv _ (build1 _) ?_; (case hv => simp [Act.eval, p1])) | (refine wpList_store_sty rfl (.tmp 2) (.tmp 22) rfl w3.heap.size (gl s1) rfl rfl _ (heap_alloc_new w3 _) rfl ?_; intro w4 E1 E2) | (refine wpList_load_sty rfl _ rfl w3.heap.size rfl (gl s1) (by assumption) ?_))
  have B4 := Aside0.mk (E2.below _ _ (below_alloc B3.out _) B3.out.size)
  refine (edges_s1 _).mono ?_
  rintro e w5 ⟨rfl, hb5⟩
  have hr5 := E1.below hb5
  have B5 := Aside0.mk (below_step B4.out hb5)
  clear E1 E2 B3 B4 hb5
  go_wp2_with (refine wpList_build rfl 27 #[(10, .tmp 31)] rfl #[(10, .agg #[.int .i64 2, .int .i64 5000])] ?hv2 _ (build2 _) ?_; (case hv2 => simp [Act.eval]))
  refine (height_s2 _).mono ?_
  rintro e w6 ⟨rfl, hb6⟩
  have hr6 := hr5.below hb6
  have B6 := Aside0.mk (below_step B5.out hb6)
  clear hr5 B5 hb6
  go_wp2_with (refine wpList_build rfl 27 #[(10, .tmp 37)] rfl #[(10, .agg #[.int .i64 2, .int .i64 5000])] ?hv3 _ (build2 _) ?_; (case hv3 => simp [Act.eval]))
  refine (height_s2n _).mono ?_
  rintro e w7 ⟨rfl, hb7⟩
  have hr7 := hr6.below hb7
  have B7 := Aside0.mk (below_step B6.out hb7)
  clear hr6 B6 hb7
  go_wp2_with (refine wpList_load_sty rfl _ rfl w3.heap.size rfl (gl s1) (by assumption) ?_)
  refine (width_s1 _).mono ?_
  rintro e w8 ⟨rfl, hb8⟩
  have hr8 := hr7.below hb8
  have B8 := Aside0.mk (below_step B7.out hb8)
  clear hr7 B7 hb8
  go_wp2_with (refine wpList_build rfl 27 #[] rfl #[] rfl _ (build3 _) ?_)
  refine (width_s0 _).mono ?_
  rintro e w9 ⟨rfl, hb9⟩
  have B9 := Aside0.mk (below_step B8.out hb9)
  clear hr8 B8 hb9
  have hf : ∀ w, (Instr.field 29 (.agg #[.int .i64 0, .int .i64 50, .int .i64 0]) 1).run Try.prog w = .ok (.int .i64 50) w := fun _ => by kernel_rfl
  go_wp2
  go_ret
  exact ⟨rfl, B9.out⟩
end Go.Proofs.Ytcealidhhkdmjaa
