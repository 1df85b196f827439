import Derived.Test.YtcealidhhkdmjaaWideE
namespace Go.Proofs.Ytcealidhhkdmjaa
open Go.Sort Go.RowKit Go.Proofs.YtcealidhhkdmjaaW.PrintWords Go.Proofs.YtcealidhhkdmjaaW.PrintLast Go.Proofs.YtcealidhhkdmjaaW.PrintMore
open PWideAdds
set_option linter.unusedVariables false
attribute [local go_sem] max2_int min2_int max_two min_two max_three min_three

theorem fixB_calls (n : Int) (w : World) : Calls Try.prog 8 #[.int .i64 n] w fun e w' => e = .returned (.agg #[.int .i64 1, .int .i64 n]) ∧ Below w.heap.size w w' := by
  go_enter Try.func8, Try.ntmps8
  go_wp2
  exact bodyPost_ret (v := .agg #[.int .i64 1, .int .i64 n]) (by simp [results, Try.results8, go_sem]) rfl ⟨rfl, (Below.refl _ _).alloc (Nat.le_refl _) _⟩

/-- The style of WideBounds. -/
def sB (k n kl lo kh hi : Int) : List Int := [0,0,0,0,0,0,0,0,0, k,n, 0,0, kl,lo, 0,0, kh,hi, 0,0, 0,0, 0,0,1,0,0,0,1,0, 0,0,0,0, 0,0,0,0, 0,0,0, 0]
def pB (lo hi : Int) : Array (Nat × Value) := #[(11, .agg #[.int .i64 1, .int .i64 lo]), (13, .agg #[.int .i64 1, .int .i64 hi]),
  (16, .agg #[.int .i64 0, .int .i64 0, .int .i64 1, .int .i64 0, .int .i64 0, .int .i64 0, .int .i64 1, .int .i64 0])]
theorem buildB (lo hi : Int) (w : World) : (Instr.build 27 (pB lo hi)).run Try.prog w = .ok (.agg (sty (gl (sB 0 0 1 lo 1 hi)))) w := by kernel_rfl
theorem wz (n : Int) (h : -9223372036854775808 ≤ n ∧ n ≤ 9223372036854775807) : wrap64 (n - 0) = n := by rw [Int.sub_zero, w64 n h]
theorem upd_gl (l : List Int) (j : Nat) (v : Int) (hj : j < l.length) : upd (gl l) j v = gl (l.set j v) := by
  funext i
  unfold upd gl
  simp only [List.getD_eq_getElem?_getD, List.getElem?_set]
  by_cases e : i = j
  · subst e; simp [hj]
  · have e' : ¬ j = i := fun h => e h.symm
    simp [e, e']

/-- A width between its bounds. -/
def W3 (wv lo hi : Int) : Int := if (if hi < wv then hi else wv) < lo then lo else if hi < wv then hi else wv

theorem width_B (k n lo hi wv b : Int) (t : Bool) (w : World) (hk : wide_Side.f k n b = some (n, t)) (hwv : (if t then n else b) = wv)
    (l0 : 0 ≤ lo) (l1 : lo ≤ 65535) (h0 : 0 ≤ hi) (h1 : hi ≤ 65535) (w0 : 0 ≤ wv) (w1 : wv ≤ 65535) (b0 : 0 ≤ b) (b1 : b ≤ 65535) :
    Calls Try.prog 6 #[.agg (sty (gl (sB k n 1 lo 1 hi))), .int .i64 b] w fun e w' =>
      e = .returned (.agg #[.int .i64 0, .int .i64 (W3 wv lo hi), .int .i64 (b - W3 wv lo hi)]) ∧ Below w.heap.size w w' := by
  have hb : 0 ≤ W3 wv lo hi ∧ W3 wv lo hi ≤ 65535 := by unfold W3; (repeat' split) <;> omega
  have hcl : size_Clamp.f wv lo hi = some (W3 wv lo hi) := by
    unfold size_Clamp.f
    rw [if_pos h0]
    have e : mx (mn wv hi) lo = W3 wv lo hi := rfl
    rw [e]
    unfold mx
    rw [if_neg (by omega)]
  have hmin : size_of.f 1 lo b = some (lo, true) := by
    unfold size_of.f mx; rw [if_pos rfl, if_neg (by omega)]
  have hmax : size_of.f 1 hi b = some (hi, true) := by
    unfold size_of.f mx; rw [if_pos rfl, if_neg (by omega)]
  have hz : wrap64 (0 + 0) = 0 := by rw [w64 _ (by omega)]; rfl
  have hov : wrap64 (wrap64 (wrap64 (wrap64 (wrap64 (b - W3 wv lo hi) - 0) - 0) - 0) - 0) = b - W3 wv lo hi := by
    rw [w64 (b - W3 wv lo hi) (by omega), wz (b - W3 wv lo hi) (by omega), wz (b - W3 wv lo hi) (by omega), wz (b - W3 wv lo hi) (by omega), wz (b - W3 wv lo hi) (by omega)]
  have hb4 : wrap64 (wrap64 (wrap64 (wrap64 (b - 0) - 0) - 0) - 0) = b := by
    rw [wz b (by omega), wz b (by omega), wz b (by omega), wz b (by omega)]
  have hsh : wide_shared.f 1 0 (W3 wv lo hi) 0 (b - W3 wv lo hi) (!true) (!true) = some (0, W3 wv lo hi, b - W3 wv lo hi) := by
    unfold wide_shared.f
    split <;> (simp only [wide_shared.j0, Bool.not_true, Bool.not_false, if_true]; rw [w64 _ (by omega)]; simp)
  have h := width_calls (gl (sB k n 1 lo 1 hi)) b 0 0 lo hi hi n wv (W3 wv lo hi) 0 (W3 wv lo hi) (b - W3 wv lo hi) 1 true true true true t w
    (by rfl) (by rfl) hmin hmax rfl hk (by
      have e1 : gl (sB k n 1 lo 1 hi) 34 = 0 := rfl
      have e2 : gl (sB k n 1 lo 1 hi) 38 = 0 := rfl
      have e3 : gl (sB k n 1 lo 1 hi) 32 = 0 := rfl
      have e4 : gl (sB k n 1 lo 1 hi) 36 = 0 := rfl
      rw [e1, e2, e3, e4, hz, hb4]; exact hwv) hcl (by
      have e1 : gl (sB k n 1 lo 1 hi) 34 = 0 := rfl
      have e2 : gl (sB k n 1 lo 1 hi) 38 = 0 := rfl
      have e3 : gl (sB k n 1 lo 1 hi) 32 = 0 := rfl
      have e4 : gl (sB k n 1 lo 1 hi) 36 = 0 := rfl
      rw [e1, e2, e3, e4, hz, hov]; exact hsh)
  have hR : widthR t (W3 wv lo hi) wv 0 0 0 (W3 wv lo hi) (b - W3 wv lo hi) = .agg #[.int .i64 0, .int .i64 (W3 wv lo hi), .int .i64 (b - W3 wv lo hi)] := by
    unfold widthR
    split
    · rename_i hc
      obtain ⟨rfl, hc⟩ := hc
      have : b = wv := by simpa using hwv
      rw [hc, this]; simp
    · rfl
  rw [hR] at h
  exact h

theorem width_B2 (k n wv b : Int) (t : Bool) (w : World) (hk : wide_Side.f k n b = some (n, t)) (hwv : (if t then n else b) = wv)
    (w0 : 0 ≤ wv) (w1 : wv ≤ 65535) (b0 : 0 ≤ b) (b1 : b ≤ 65535) :
    Calls Try.prog 6 #[.agg (sty (gl (sB k n 1 0 0 0))), .int .i64 b] w fun e w' =>
      e = .returned (.agg #[.int .i64 0, .int .i64 wv, .int .i64 (b - wv)]) ∧ Below w.heap.size w w' := by
  have hcl : size_Clamp.f wv 0 (-1) = some wv := by
    unfold size_Clamp.f mx
    rw [if_neg (by omega), if_neg (by omega : ¬ wv < 0), if_neg (by omega : ¬ wv < 0)]
  have hz : wrap64 (0 + 0) = 0 := by rw [w64 _ (by omega)]; rfl
  have hov : wrap64 (wrap64 (wrap64 (wrap64 (wrap64 (b - wv) - 0) - 0) - 0) - 0) = b - wv := by
    rw [w64 (b - wv) (by omega), wz (b - wv) (by omega), wz (b - wv) (by omega), wz (b - wv) (by omega), wz (b - wv) (by omega)]
  have hb4 : wrap64 (wrap64 (wrap64 (wrap64 (b - 0) - 0) - 0) - 0) = b := by
    rw [wz b (by omega), wz b (by omega), wz b (by omega), wz b (by omega)]
  have hsh : wide_shared.f 1 0 wv 0 (b - wv) (!true) (!true) = some (0, wv, b - wv) := by
    unfold wide_shared.f
    split <;> (simp only [wide_shared.j0, Bool.not_true, Bool.not_false, if_true]; rw [w64 _ (by omega)]; simp)
  have h := width_calls (gl (sB k n 1 0 0 0)) b 0 0 0 (-1) 0 n wv wv 0 wv (b - wv) 1 true true true false t w
    (by rfl) (by rfl) (by rfl) (by rfl) rfl hk (by
      have e1 : gl (sB k n 1 0 0 0) 34 = 0 := rfl
      have e2 : gl (sB k n 1 0 0 0) 38 = 0 := rfl
      have e3 : gl (sB k n 1 0 0 0) 32 = 0 := rfl
      have e4 : gl (sB k n 1 0 0 0) 36 = 0 := rfl
      rw [e1, e2, e3, e4, hz, hb4]; exact hwv) hcl (by
      have e1 : gl (sB k n 1 0 0 0) 34 = 0 := rfl
      have e2 : gl (sB k n 1 0 0 0) 38 = 0 := rfl
      have e3 : gl (sB k n 1 0 0 0) 32 = 0 := rfl
      have e4 : gl (sB k n 1 0 0 0) 36 = 0 := rfl
      rw [e1, e2, e3, e4, hz, hov]; exact hsh)
  have hR : widthR t wv wv 0 0 0 wv (b - wv) = .agg #[.int .i64 0, .int .i64 wv, .int .i64 (b - wv)] := by
    unfold widthR
    split
    · rename_i hc
      obtain ⟨rfl, hc⟩ := hc
      have : b = wv := by simpa using hwv
      rw [this]; simp
    · rfl
  rw [hR] at h
  exact h


set_option maxHeartbeats 1000000 in
set_option maxRecDepth 100000 in
theorem bounds_true (x y z v a lo hi b M : Int) (w : World) (h1 : bits .and .i64 x 65535 = a) (h2 : bits .and .i64 y 65535 = lo) (h3 : bits .and .i64 z 65535 = hi) (h4 : bits .and .i64 v 65535 = b)
    (a0 : 0 ≤ a) (a1 : a ≤ 65535) (l0 : 0 ≤ lo) (l1 : lo ≤ 65535) (i0 : 0 ≤ hi) (i1 : hi ≤ 65535) (b0 : 0 ≤ b) (b1 : b ≤ 65535)
    (hM : (if (if hi < a then hi else a) < lo then lo else if hi < a then hi else a) = M) (M0 : 0 ≤ M) (M1 : M ≤ 65535) :
    Calls Try.prog 4 #[.int .i64 x, .int .i64 y, .int .i64 z, .int .i64 v, .bool true] w fun e w' => e = .returned (.bool true) ∧ Below w.heap.size w w' := by
  have hw : ∀ W : World, Calls Try.prog 6 #[.agg (sty (gl (sB 1 a 1 lo 1 hi))), .int .i64 b] W fun e w' =>
      e = .returned (.agg #[.int .i64 0, .int .i64 M, .int .i64 (b - M)]) ∧ Below W.heap.size W w' := fun W => by
    have h := width_B 1 a lo hi a b true W (by rfl) rfl l0 l1 i0 i1 (by omega) (by omega) b0 b1
    have e : W3 a lo hi = M := hM
    rw [e] at h
    exact h
  have hw2 : ∀ W : World, Calls Try.prog 6 #[.agg (sty (gl (sB 1 a 1 0 0 0))), .int .i64 b] W fun e w' =>
      e = .returned (.agg #[.int .i64 0, .int .i64 a, .int .i64 (b - a)]) ∧ Below W.heap.size W w' := fun W =>
    width_B2 1 a a b true W (by rfl) rfl (by omega) (by omega) b0 b1
  have HW := Aside0.mk hw
  have HW2 := Aside0.mk hw2
  clear hw hw2
  have B0 := Aside0.mk (Below.refl w.heap.size w)
  have mixed : Try.prog.follows .mixedOrders = true := by kernel_rfl
  go_enter Try.func4, Try.ntmps4
  go_wp2_with fail
  refine (fixB_calls _ _).mono ?_
  rintro e w1 ⟨rfl, hb1⟩
  go_wp2_with fail
  refine (fixB_calls _ _).mono ?_
  rintro e w2 ⟨rfl, hb2⟩
  go_wp2_with fail
  refine (fixB_calls _ _).mono ?_
  rintro e w2' ⟨rfl, hb2'⟩
  go_wp2_with fail
  refine (fixB_calls _ _).mono ?_
  rintro e w3 ⟨rfl, hb3⟩
  have B3 : Aside0 (Below w.heap.size w w3) := ⟨below_step (below_step (below_step hb1 hb2) hb2') hb3⟩
  clear hb1 hb2 hb2' hb3 B0
  go_wp2_with (first | ((with_reducible refine gate_op (.build 27 #[(11, .tmp 26), (13, .tmp 29), (16, .tmp 34)]) rfl ?_); refine wpList_build rfl 27 #[(11, .tmp 26), (13, .tmp 29), (16, .tmp 34)] rfl (pB lo hi) ?hv _ (buildB lo hi _) ?_; (case hv => simp [Act.eval, pB])) | ((with_reducible refine gate_op (.store 27 (.tmp 12) (.tmp 35)) rfl ?_); refine wpList_store_sty rfl (.tmp 12) (.tmp 35) rfl w3.heap.size (gl (sB 0 0 1 lo 1 hi)) rfl rfl _ (heap_alloc_new w3 _) rfl ?_; intro w4 E1 E2; have B4 := Aside0.mk (E2.below _ _ (below_alloc B3.out _) B3.out.size)) | ((with_reducible refine gate_op (.load 27 (.tmp 12)) rfl ?_); refine wpList_load_sty rfl _ rfl w3.heap.size rfl (gl (sB 0 0 1 lo 1 hi)) (by assumption) ?_))
  refine (fixB_calls _ _).mono ?_
  rintro e w5 ⟨rfl, hb5⟩
  have E1 := E1.below hb5
  have B5 : Aside0 (Below w.heap.size w w5) := ⟨below_step B4.out hb5⟩
  clear hb5 B4 E2
  have c9 := E1.cell 9 (by omega)
  have c10 := E1.cell 10 (by omega)
  have f9 := E1.f 9
  have f10 := E1.f 10
  have E5 : RowIs ((w5.setCell ⟨w3.heap.size, 9, none⟩ (.int .i64 1)).setCell ⟨w3.heap.size, 10, none⟩ (.int .i64 a)) w3.heap.size (gl (sB 1 a 1 lo 1 hi)) := by
    have hE := (E1.set 9 1).set 10 a
    rw [upd_gl _ _ _ (by simp [sB]), upd_gl _ _ _ (by simp [sB])] at hE
    exact hE
  go_wp2_with ((with_reducible refine gate_op (.load 27 (.tmp 12)) rfl ?_); refine wpList_load_sty rfl _ rfl w3.heap.size rfl (gl (sB 1 a 1 lo 1 hi)) E5 ?_)
  have B5 : Aside0 (Below w.heap.size w _) := ⟨below_set (below_set B5.out (j := 9) (v := .int .i64 1) B3.out.size) (j := 10) (v := .int .i64 a) B3.out.size⟩
  clear c9 c10 f9 f10 E1
  refine (HW.out _).mono ?_
  rintro e w6 ⟨rfl, hb6⟩
  have E6 := E5.below hb6
  have B6 : Aside0 (Below w.heap.size w w6) := ⟨below_step B5.out hb6⟩
  clear hb6 E5 B5 HW
  have X6 := Three.new w6 0 M (b - M)
  have E6' := E6.alloc (.cells #[.int .i64 0, .int .i64 M, .int .i64 (b - M)] 29)
  have B6' := Aside0.mk (below_alloc B6.out (.cells #[.int .i64 0, .int .i64 M, .int .i64 (b - M)] 29))
  have ne := Aside0.mk E6.lt
  clear E6
  go_wp2_with fail
  refine (fixB_calls _ _).mono ?_
  rintro e w7 ⟨rfl, hb7⟩
  have E7 := E6'.below hb7
  have X7 := X6.below hb7
  have B7 : Aside0 (Below w.heap.size w w7) := ⟨below_step B6'.out hb7⟩
  clear hb7 E6' X6 B6'
  have c13 := E7.cell 13 (by omega)
  have c14 := E7.cell 14 (by omega)
  have c17 := E7.cell 17 (by omega)
  have c18 := E7.cell 18 (by omega)
  have f13 := E7.f 13
  have f14 := E7.f 14
  have f17 := E7.f 17
  have f18 := E7.f 18
  have E8 : RowIs ((((w7.setCell ⟨w3.heap.size, 13, none⟩ (.int .i64 1)).setCell ⟨w3.heap.size, 14, none⟩ (.int .i64 0)).setCell ⟨w3.heap.size, 17, none⟩ (.int .i64 0)).setCell ⟨w3.heap.size, 18, none⟩ (.int .i64 0)) w3.heap.size (gl (sB 1 a 1 0 0 0)) := by
    have hE := (((E7.set 13 1).set 14 0).set 17 0).set 18 0
    rw [upd_gl _ _ _ (by simp [sB]), upd_gl _ _ _ (by simp [sB]), upd_gl _ _ _ (by simp [sB]), upd_gl _ _ _ (by simp [sB])] at hE
    exact hE
  have X8 := (((X7.other ⟨w3.heap.size, 13, none⟩ (.int .i64 1) (by have := ne.out; simp; omega)).other ⟨w3.heap.size, 14, none⟩ (.int .i64 0) (by have := ne.out; simp; omega)).other ⟨w3.heap.size, 17, none⟩ (.int .i64 0) (by have := ne.out; simp; omega)).other ⟨w3.heap.size, 18, none⟩ (.int .i64 0) (by have := ne.out; simp; omega)
  have B8 : Aside0 (Below w.heap.size w _) := ⟨below_set (below_set (below_set (below_set B7.out (j := 13) (v := .int .i64 1) B3.out.size) (j := 14) (v := .int .i64 0) B3.out.size) (j := 17) (v := .int .i64 0) B3.out.size) (j := 18) (v := .int .i64 0) B3.out.size⟩
  clear E7 X7 B7
  go_wp2_with ((with_reducible refine gate_op (.load 27 (.tmp 12)) rfl ?_); refine wpList_load_sty rfl _ rfl w3.heap.size rfl (gl (sB 1 a 1 0 0 0)) E8 ?_)
  refine (HW2.out _).mono ?_
  rintro e w9 ⟨rfl, hb9⟩
  have X9 := (X8.below hb9).alloc (.cells #[.int .i64 0, .int .i64 a, .int .i64 (b - a)] 29)
  have Y9 := Three.new w9 0 a (b - a)
  have B9 : Aside0 (Below w.heap.size w (w9.alloc (.cells #[.int .i64 0, .int .i64 a, .int .i64 (b - a)] 29))) := ⟨below_alloc (below_step B8.out hb9) _⟩
  clear hb9 X8 B8 E8 HW2 c13 c14 c17 c18 f13 f14 f17 f18
  have x0 := X9.c0
  have x1 := X9.c1
  have x2 := X9.c2
  have y1 := Y9.c1
  clear X9 Y9
  go_wp2_with fail
  all_goals
    refine (awake_calls _).mono ?_
    rintro e w10 ⟨rfl, hb10⟩
    have B10 : Aside0 (Below w.heap.size w w10) := ⟨below_step B9.out hb10⟩
    clear hb10 B9
    go_wp2
    go_ret
    exact ⟨rfl, B10.out⟩

set_option maxHeartbeats 1000000 in
set_option maxRecDepth 100000 in
theorem bounds_false (x y z v a lo hi b M : Int) (w : World) (h1 : bits .and .i64 x 65535 = a) (h2 : bits .and .i64 y 65535 = lo) (h3 : bits .and .i64 z 65535 = hi) (h4 : bits .and .i64 v 65535 = b)
    (a0 : 0 ≤ a) (a1 : a ≤ 65535) (l0 : 0 ≤ lo) (l1 : lo ≤ 65535) (i0 : 0 ≤ hi) (i1 : hi ≤ 65535) (b0 : 0 ≤ b) (b1 : b ≤ 65535)
    (hM : (if (if hi < b then hi else b) < lo then lo else if hi < b then hi else b) = M) (M0 : 0 ≤ M) (M1 : M ≤ 65535) :
    Calls Try.prog 4 #[.int .i64 x, .int .i64 y, .int .i64 z, .int .i64 v, .bool false] w fun e w' => e = .returned (.bool true) ∧ Below w.heap.size w w' := by
  have hw : ∀ W : World, Calls Try.prog 6 #[.agg (sty (gl (sB 0 0 1 lo 1 hi))), .int .i64 b] W fun e w' =>
      e = .returned (.agg #[.int .i64 0, .int .i64 M, .int .i64 (b - M)]) ∧ Below W.heap.size W w' := fun W => by
    have h := width_B 0 0 lo hi b b false W (by rfl) rfl l0 l1 i0 i1 (by omega) (by omega) b0 b1
    have e : W3 b lo hi = M := hM
    rw [e] at h
    exact h
  have hw2 : ∀ W : World, Calls Try.prog 6 #[.agg (sty (gl (sB 0 0 1 0 0 0))), .int .i64 b] W fun e w' =>
      e = .returned (.agg #[.int .i64 0, .int .i64 b, .int .i64 (b - b)]) ∧ Below W.heap.size W w' := fun W =>
    width_B2 0 0 b b false W (by rfl) rfl (by omega) (by omega) b0 b1
  have HW := Aside0.mk hw
  have HW2 := Aside0.mk hw2
  clear hw hw2
  have B0 := Aside0.mk (Below.refl w.heap.size w)
  have mixed : Try.prog.follows .mixedOrders = true := by kernel_rfl
  go_enter Try.func4, Try.ntmps4
  go_wp2_with fail
  refine (fixB_calls _ _).mono ?_
  rintro e w1 ⟨rfl, hb1⟩
  go_wp2_with fail
  refine (fixB_calls _ _).mono ?_
  rintro e w2 ⟨rfl, hb2⟩
  go_wp2_with fail
  refine (fixB_calls _ _).mono ?_
  rintro e w2' ⟨rfl, hb2'⟩
  go_wp2_with fail
  refine (fixB_calls _ _).mono ?_
  rintro e w3 ⟨rfl, hb3⟩
  have B3 : Aside0 (Below w.heap.size w w3) := ⟨below_step (below_step (below_step hb1 hb2) hb2') hb3⟩
  clear hb1 hb2 hb2' hb3 B0
  go_wp2_with (first | ((with_reducible refine gate_op (.build 27 #[(11, .tmp 26), (13, .tmp 29), (16, .tmp 34)]) rfl ?_); refine wpList_build rfl 27 #[(11, .tmp 26), (13, .tmp 29), (16, .tmp 34)] rfl (pB lo hi) ?hv _ (buildB lo hi _) ?_; (case hv => simp [Act.eval, pB])) | ((with_reducible refine gate_op (.store 27 (.tmp 12) (.tmp 35)) rfl ?_); refine wpList_store_sty rfl (.tmp 12) (.tmp 35) rfl w3.heap.size (gl (sB 0 0 1 lo 1 hi)) rfl rfl _ (heap_alloc_new w3 _) rfl ?_; intro w4 E1 E2; have B4 := Aside0.mk (E2.below _ _ (below_alloc B3.out _) B3.out.size)) | ((with_reducible refine gate_op (.load 27 (.tmp 12)) rfl ?_); refine wpList_load_sty rfl _ rfl w3.heap.size rfl (gl (sB 0 0 1 lo 1 hi)) (by assumption) ?_))
  have B5 := B4
  have E5 := E1
  clear B4 E1 E2
  refine (HW.out _).mono ?_
  rintro e w6 ⟨rfl, hb6⟩
  have E6 := E5.below hb6
  have B6 : Aside0 (Below w.heap.size w w6) := ⟨below_step B5.out hb6⟩
  clear hb6 E5 B5 HW
  have X6 := Three.new w6 0 M (b - M)
  have E6' := E6.alloc (.cells #[.int .i64 0, .int .i64 M, .int .i64 (b - M)] 29)
  have B6' := Aside0.mk (below_alloc B6.out (.cells #[.int .i64 0, .int .i64 M, .int .i64 (b - M)] 29))
  have ne := Aside0.mk E6.lt
  clear E6
  go_wp2_with fail
  refine (fixB_calls _ _).mono ?_
  rintro e w7 ⟨rfl, hb7⟩
  have E7 := E6'.below hb7
  have X7 := X6.below hb7
  have B7 : Aside0 (Below w.heap.size w w7) := ⟨below_step B6'.out hb7⟩
  clear hb7 E6' X6 B6'
  have c13 := E7.cell 13 (by omega)
  have c14 := E7.cell 14 (by omega)
  have c17 := E7.cell 17 (by omega)
  have c18 := E7.cell 18 (by omega)
  have f13 := E7.f 13
  have f14 := E7.f 14
  have f17 := E7.f 17
  have f18 := E7.f 18
  have E8 : RowIs ((((w7.setCell ⟨w3.heap.size, 13, none⟩ (.int .i64 1)).setCell ⟨w3.heap.size, 14, none⟩ (.int .i64 0)).setCell ⟨w3.heap.size, 17, none⟩ (.int .i64 0)).setCell ⟨w3.heap.size, 18, none⟩ (.int .i64 0)) w3.heap.size (gl (sB 0 0 1 0 0 0)) := by
    have hE := (((E7.set 13 1).set 14 0).set 17 0).set 18 0
    rw [upd_gl _ _ _ (by simp [sB]), upd_gl _ _ _ (by simp [sB]), upd_gl _ _ _ (by simp [sB]), upd_gl _ _ _ (by simp [sB])] at hE
    exact hE
  have X8 := (((X7.other ⟨w3.heap.size, 13, none⟩ (.int .i64 1) (by have := ne.out; simp; omega)).other ⟨w3.heap.size, 14, none⟩ (.int .i64 0) (by have := ne.out; simp; omega)).other ⟨w3.heap.size, 17, none⟩ (.int .i64 0) (by have := ne.out; simp; omega)).other ⟨w3.heap.size, 18, none⟩ (.int .i64 0) (by have := ne.out; simp; omega)
  have B8 : Aside0 (Below w.heap.size w _) := ⟨below_set (below_set (below_set (below_set B7.out (j := 13) (v := .int .i64 1) B3.out.size) (j := 14) (v := .int .i64 0) B3.out.size) (j := 17) (v := .int .i64 0) B3.out.size) (j := 18) (v := .int .i64 0) B3.out.size⟩
  clear E7 X7 B7
  go_wp2_with ((with_reducible refine gate_op (.load 27 (.tmp 12)) rfl ?_); refine wpList_load_sty rfl _ rfl w3.heap.size rfl (gl (sB 0 0 1 0 0 0)) E8 ?_)
  refine (HW2.out _).mono ?_
  rintro e w9 ⟨rfl, hb9⟩
  have X9 := (X8.below hb9).alloc (.cells #[.int .i64 0, .int .i64 b, .int .i64 (0)] 29)
  have Y9 := Three.new w9 0 b (0)
  have B9 : Aside0 (Below w.heap.size w (w9.alloc (.cells #[.int .i64 0, .int .i64 b, .int .i64 (0)] 29))) := ⟨below_alloc (below_step B8.out hb9) _⟩
  clear hb9 X8 B8 E8 HW2 c13 c14 c17 c18 f13 f14 f17 f18
  have x0 := X9.c0
  have x1 := X9.c1
  have x2 := X9.c2
  have y1 := Y9.c1
  clear X9 Y9
  go_wp2_with fail
  all_goals
    refine (awake_calls _).mono ?_
    rintro e w10 ⟨rfl, hb10⟩
    have B10 : Aside0 (Below w.heap.size w w10) := ⟨below_step B9.out hb10⟩
    clear hb10 B9
    go_wp2
    go_ret
    exact ⟨rfl, B10.out⟩

theorem bounds_walk (x y z v : Int) (told : Bool) (w : World) :
    Calls Try.prog 4 #[.int .i64 x, .int .i64 y, .int .i64 z, .int .i64 v, .bool told] w fun e w' => e = .returned (.bool true) ∧ Below w.heap.size w w' := by
  have h1 := and_65535 x
  have h2 := and_65535 y
  have h3 := and_65535 z
  have h4 := and_65535 v
  have hb : ∀ n : Int, 0 ≤ n % 65536 ∧ n % 65536 ≤ 65535 := fun n => by omega
  have hW : ∀ a lo hi : Int, 0 ≤ a ∧ a ≤ 65535 → 0 ≤ lo ∧ lo ≤ 65535 → 0 ≤ hi ∧ hi ≤ 65535 → 0 ≤ W3 a lo hi ∧ W3 a lo hi ≤ 65535 := by
    intro a lo hi h1 h2 h3
    unfold W3; (repeat' split) <;> omega
  cases told
  · exact bounds_false x y z v _ _ _ _ _ w h1 h2 h3 h4 (hb x).1 (hb x).2 (hb y).1 (hb y).2 (hb z).1 (hb z).2 (hb v).1 (hb v).2 rfl (hW _ _ _ (hb v) (hb y) (hb z)).1 (hW _ _ _ (hb v) (hb y) (hb z)).2
  · exact bounds_true x y z v _ _ _ _ _ w h1 h2 h3 h4 (hb x).1 (hb x).2 (hb y).1 (hb y).2 (hb z).1 (hb z).2 (hb v).1 (hb v).2 rfl (hW _ _ _ (hb x) (hb y) (hb z)).1 (hW _ _ _ (hb x) (hb y) (hb z)).2
end Go.Proofs.Ytcealidhhkdmjaa
