import Derived.Test.YtcealidhhkdmjaaWideB
namespace Go.Proofs.Ytcealidhhkdmjaa
open Go.Sort Go.RowKit Go.Proofs.YtcealidhhkdmjaaW.PrintWords Go.Proofs.YtcealidhhkdmjaaW.PrintLast Go.Proofs.YtcealidhhkdmjaaW.PrintMore
open PWideAdds

set_option maxRecDepth 100000 in
theorem minH_calls (g : Nat → Int) (base r : Int) (t : Bool) (w : World) (h : size_of.f (g 15) (g 16) base = some (r, t)) :
  Calls Try.prog 14 #[.agg (sty g), .bool true, .int .i64 base] w fun e w' => e = .returned (.int .i64 r) ∧ Below w.heap.size w w' := by
  have hrow := rowIs_alloc w g
  have HB : Aside0 (Below w.heap.size w (w.alloc (.cells (sty g) 27))) := ⟨(Below.refl _ _).alloc (Nat.le_refl _) _⟩
  have H := Aside0.mk h
  clear h
  have c1 := hrow.cell 13 (by omega)
  have c2 := hrow.cell 14 (by omega)
  have c3 := (hrow.alloc (.cells #[.int .i64 (g 13), .int .i64 (g 14)] 23)).cell 15 (by omega)
  have c4 := (hrow.alloc (.cells #[.int .i64 (g 13), .int .i64 (g 14)] 23)).cell 16 (by omega)
  clear hrow
  go_enter Try.func14, Try.ntmps14
  go_wp2_with fail
  refine (size_of.calls _ _ _ _ _ _ H.out).mono ?_
  rintro e w1 ⟨rfl, hb1⟩
  have B1 := Aside0.mk (below_step (below_alloc HB.out _) hb1)
  clear hb1
  go_wp2
  go_ret
  exact ⟨rfl, B1.out⟩

set_option maxRecDepth 100000 in
theorem maxH_calls (g : Nat → Int) (base r : Int) (t : Bool) (w : World) (h : size_of.f (g 19) (g 20) base = some (r, t)) :
  Calls Try.prog 15 #[.agg (sty g), .bool true, .int .i64 base] w fun e w' => e = .returned (.int .i64 (if t then r else -1)) ∧ Below w.heap.size w w' := by
  have hrow := rowIs_alloc w g
  have HB : Aside0 (Below w.heap.size w (w.alloc (.cells (sty g) 27))) := ⟨(Below.refl _ _).alloc (Nat.le_refl _) _⟩
  have H := Aside0.mk h
  clear h
  have c1 := hrow.cell 17 (by omega)
  have c2 := hrow.cell 18 (by omega)
  have c3 := (hrow.alloc (.cells #[.int .i64 (g 17), .int .i64 (g 18)] 23)).cell 19 (by omega)
  have c4 := (hrow.alloc (.cells #[.int .i64 (g 17), .int .i64 (g 18)] 23)).cell 20 (by omega)
  clear hrow
  go_enter Try.func15, Try.ntmps15
  go_wp2_with fail
  refine (size_of.calls _ _ _ _ _ _ H.out).mono ?_
  rintro e w1 ⟨rfl, hb1⟩
  have B1 := Aside0.mk (below_step (below_alloc HB.out _) hb1)
  clear hb1
  cases t with
  | true =>
    go_wp2
    go_ret
    exact ⟨rfl, B1.out⟩
  | false =>
    go_wp2
    go_ret
    exact ⟨rfl, B1.out⟩


set_option maxRecDepth 100000 in
theorem height_none (g : Nat → Int) (base : Int) (w : World) (hk : g 11 = 2) (hb : base < 0) :
  Calls Try.prog 19 #[.agg (sty g), .int .i64 base] w fun e w' => e = .returned (.tuple #[.int .i64 0, .bool false]) ∧ Below w.heap.size w w' := by
  have hrow := rowIs_alloc w g
  have HB : Aside0 (Below w.heap.size w (w.alloc (.cells (sty g) 27))) := ⟨(Below.refl _ _).alloc (Nat.le_refl _) _⟩
  have c1 := hrow.cell 11 (by omega)
  rw [hk] at c1
  clear hrow hk
  go_enter Try.func19, Try.ntmps19
  go_wp2
  go_ret2
  exact ⟨rfl, HB.out⟩

set_option maxHeartbeats 1000000 in
set_option maxRecDepth 100000 in
theorem height_calls (g : Nat → Int) (base n lo hi hi0 r : Int) (t1 t2 : Bool) (w : World) (hb : 0 ≤ base)
    (hs : wide_Side.f (g 11) (g 12) base = some (n, true)) (hmin : size_of.f (g 15) (g 16) base = some (lo, t1)) (hmax : size_of.f (g 19) (g 20) base = some (hi0, t2)) (hhi : (if t2 then hi0 else -1) = hi)
    (hc : size_Clamp.f n lo hi = some r) :
  Calls Try.prog 19 #[.agg (sty g), .int .i64 base] w fun e w' => e = .returned (.tuple #[.int .i64 r, .bool true]) ∧ Below w.heap.size w w' := by
  have hrow := rowIs_alloc w g
  have HB : Aside0 (Below w.heap.size w (w.alloc (.cells (sty g) 27))) := ⟨(Below.refl _ _).alloc (Nat.le_refl _) _⟩
  have H1 := Aside0.mk hs; have H2 := Aside0.mk hmin; have H3 := Aside0.mk hmax; have H4 := Aside0.mk hhi; have H5 := Aside0.mk hc
  clear hs hmin hmax hhi hc
  have c1 := hrow.cell 11 (by omega)
  have c2 := hrow.cell 12 (by omega)
  have hnb : ¬ base < 0 := by omega
  have hne : g 11 = 2 ∨ (g 11 == 2) = false := by
    by_cases h : g 11 = 2
    · exact .inl h
    · exact .inr (beq_eq_false_iff_ne.2 h)
  have key : (g 11 == 2) = true ∨ (g 11 == 2) = false := by cases (g 11 == 2) <;> simp
  clear hne
  rcases key with key | key
  all_goals
    go_enter Try.func19, Try.ntmps19
    go_wp2_with fail
    refine (wide_Side.calls _ _ _ _ _ _ H1.out).mono ?_
    rintro e w1 ⟨rfl, hb1⟩
    have hr1 := hrow.below hb1
    have B1 := Aside0.mk (below_step HB.out hb1)
    clear hb1 hrow HB c1 c2 key
    go_wp2_with fail
    have hl : ∀ w', (∃ p : Regrown, w' = grow (redrawn w1 p.d) p.os) → w'.heap[w.heap.size]? = some (.cells (sty g) 27 (0, 0)) := by
      rintro _ ⟨p, rfl⟩
      exact hr1.below (below_regrown w1 p.d p.os)
    have k1 : ∀ d os, Calls Try.prog 14 #[.agg (sty g), .bool true, .int .i64 base] (grow (redrawn w1 d) os) fun e w'' => e = .returned (.int .i64 lo) ∧ ∃ p : Regrown, w'' = grow (redrawn w1 p.d) p.os :=
      fun d os => Calls.regrown_of (minH_calls g base lo t1 _ H2.out)
    have k2 : ∀ d os, Calls Try.prog 15 #[.agg (sty g), .bool true, .int .i64 base] (grow (redrawn w1 d) os) fun e w'' => e = .returned (.int .i64 hi) ∧ ∃ p : Regrown, w'' = grow (redrawn w1 p.d) p.os :=
      fun d os => by rw [← H4.out]; exact Calls.regrown_of (maxH_calls g base hi0 t2 _ H3.out)
    have k3 : ∀ d os, Calls Try.prog 16 #[.int .i64 n, .int .i64 lo, .int .i64 hi] (grow (redrawn w1 d) os) fun e w'' => e = .returned (.int .i64 r) ∧ ∃ p : Regrown, w'' = grow (redrawn w1 p.d) p.os :=
      fun d os => Calls.regrown_of (size_Clamp.calls n lo hi r _ H5.out)
    refine wp_region_quiet_below (by kernel_rfl) (by kernel_rfl) ?_
    quiet_step (fail)
    refine BigFrame.wpQuiet_want rfl (fun K hK => quiet_load_row 27 _ rfl w.heap.size rfl 27 _ _ _ hl Try.underlying27 rfl (sty_info g) (hK _ ?_))
    quiet_step (fail)
    quiet_step (exact k1 _ _)
    refine BigFrame.wpQuiet_want rfl (fun K hK => quiet_load_row 27 _ rfl w.heap.size rfl 27 _ _ _ hl Try.underlying27 rfl (sty_info g) (hK _ ?_))
    quiet_step (fail)
    quiet_step (exact k2 _ _)
    quiet_step (exact k3 _ _)
    quiet_step (fail)
    quiet_step (fail)
    refine wpQuiet_nil ?_
    rintro w5 ⟨⟨dq, osq⟩, hw5⟩
    have hb5 : Below w1.heap.size w1 w5 := hw5 ▸ below_regrown w1 dq osq
    have B5 := Aside0.mk (below_step B1.out hb5)
    clear hw5 hl k1 k2 k3 hb5
    go_wp2
    go_ret2
    exact ⟨rfl, B5.out⟩
end Go.Proofs.Ytcealidhhkdmjaa
