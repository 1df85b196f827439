import Derived.Test.YtcealidhhkdmjaaWideD
namespace Go.Proofs.Ytcealidhhkdmjaa
open Go.Sort Go.RowKit Go.Proofs.YtcealidhhkdmjaaW.PrintWords Go.Proofs.YtcealidhhkdmjaaW.PrintLast Go.Proofs.YtcealidhhkdmjaaW.PrintMore
open PWideAdds

theorem and_mask (n : Int) (k : Nat) (hk : k < 63) : bits .and .i64 n ((2 ^ k - 1 : Nat) : Int) = n % ((2 ^ k : Nat) : Int) := by
  have hp : (2 ^ k : Nat) ≤ 2 ^ 62 := Nat.pow_le_pow_right (by omega) (by omega)
  have hp0 : 0 < (2 ^ k : Nat) := Nat.two_pow_pos k
  have hd : ((2 ^ k : Nat) : Int) ∣ ((2 ^ 64 : Nat) : Int) := Int.natCast_dvd_natCast.2 (Nat.pow_dvd_pow 2 (by omega))
  have hm : (BitVec.ofInt 64 ((2 ^ k - 1 : Nat) : Int)).toNat = 2 ^ k - 1 := by
    rw [BitVec.toNat_ofInt]
    generalize (2 ^ k : Nat) = q at *
    omega
  have key : (BitVec.ofInt 64 n &&& BitVec.ofInt 64 ((2 ^ k - 1 : Nat) : Int)).toNat = (n % ((2 ^ 64 : Nat) : Int)).toNat % 2 ^ k := by
    rw [BitVec.toNat_and, BitVec.toNat_ofInt, hm, Nat.and_two_pow_sub_one_eq_mod]
  show IntKind.i64.wrap ((BitVec.ofInt 64 n &&& BitVec.ofInt 64 ((2 ^ k - 1 : Nat) : Int)).toNat : Nat) = _
  rw [key, IntKind.wrap_i64]
  have h1 : (((n % ((2 ^ 64 : Nat) : Int)).toNat % 2 ^ k : Nat) : Int) = n % ((2 ^ k : Nat) : Int) := by
    rw [Int.natCast_emod, Int.toNat_of_nonneg (Int.emod_nonneg _ (by decide)), Int.emod_emod_of_dvd _ hd]
  rw [h1]
  have h2 := Int.emod_nonneg n (b := ((2 ^ k : Nat) : Int)) (by omega)
  have h3 := Int.emod_lt_of_pos n (b := ((2 ^ k : Nat) : Int)) (by omega)
  generalize n % ((2 ^ k : Nat) : Int) = r at *
  generalize (2 ^ k : Nat) = q at *
  omega
theorem and_65535 (n : Int) : bits .and .i64 n 65535 = n % 65536 := and_mask n 16 (by decide)
theorem and_255 (n : Int) : bits .and .i64 n 255 = n % 256 := and_mask n 8 (by decide)

def upd (g : Nat → Int) (j : Nat) (v : Int) (i : Nat) : Int := if i = j then v else g i
theorem sty_set (g : Nat → Int) (j : Nat) (v : Int) : (sty g).setIfInBounds j (.int .i64 v) = sty (upd g j v) := by
  apply Array.ext_getElem?
  intro i
  by_cases hi : i < 43
  · rw [sty_at _ _ hi, Array.getElem?_setIfInBounds, sty_size, sty_at _ _ hi]
    unfold upd
    by_cases e : j = i
    · subst e; simp [hi]
    · have e' : ¬ i = j := fun h => e h.symm
      simp [e, e']
  · rw [Array.getElem?_eq_none (by rw [Array.size_setIfInBounds, sty_size]; omega), Array.getElem?_eq_none (by rw [sty_size]; omega)]
theorem RowIs.set {W : World} {b : Nat} {g : Nat → Int} (h : RowIs W b g) (j : Nat) (v : Int) : RowIs (W.setCell ⟨b, j, none⟩ (.int .i64 v)) b (upd g j v) := by
  have := heap_setCell_same W b j _ 27 (.int .i64 v) h
  rw [sty_set] at this
  exact this

def sC (a p : Int) : List Int := [0,0,0,0,0,0,0,0,0, 1,a, 0,0, 1,0, 0,0, 0,0, 0,0, 0,0, 1,0,1,0,1,0,1,0, 0,p,0,p, 0,0,0,0, 0,0,0, 0]
def pC (a p : Int) : Array (Nat × Value) := #[(9, .agg #[.int .i64 1, .int .i64 a]), (17, .agg #[.int .i64 0, .int .i64 p, .int .i64 0, .int .i64 p]),
  (16, .agg #[.int .i64 1, .int .i64 0, .int .i64 1, .int .i64 0, .int .i64 1, .int .i64 0, .int .i64 1, .int .i64 0]), (11, .agg #[.int .i64 1, .int .i64 0])]
theorem buildC (a p : Int) (w : World) : (Instr.build 27 (pC a p)).run Try.prog w = .ok (.agg (sty (gl (sC a p)))) w := by kernel_rfl

theorem RowIs.f {W : World} {b : Nat} {g : Nat → Int} (h : RowIs W b g) (j : Nat) : W.frozen? ⟨b, j, none⟩ = false := frozen_of_row W b j _ _ h

/-- The style of WideCenters, its margins' kinds told. -/
def gC (a p kl kr : Int) (i : Nat) : Int := if i = 29 then kl else if i = 25 then kr else gl (sC a p) i
theorem gC_11 (a p : Int) : gl (sC a p) = gC a p 1 1 := by
  funext i
  unfold gC
  by_cases h : i = 29
  · subst h; rfl
  · by_cases h2 : i = 25
    · subst h2; rfl
    · rw [if_neg h, if_neg h2]
theorem gC_set29 (a p kl kr : Int) : upd (upd (gC a p kl kr) 29 0) 30 0 = gC a p 0 kr := by
  funext i
  unfold upd gC
  by_cases h : i = 30
  · subst h; rfl
  · by_cases h2 : i = 29
    · subst h2; rfl
    · rw [if_neg h, if_neg h2, if_neg h2, if_neg h2]
theorem gC_set25 (a p kl kr : Int) : upd (upd (gC a p kl kr) 25 0) 26 0 = gC a p kl 0 := by
  funext i
  unfold upd gC
  by_cases h : i = 26
  · subst h; rfl
  · by_cases h2 : i = 25
    · subst h2; rfl
    · rw [if_neg h, if_neg h2]
      by_cases h3 : i = 29
      · rw [if_pos h3, if_pos h3]
      · rw [if_neg h3, if_neg h3, if_neg h2, if_neg h2]

/-- What WideCenters wants. -/
def wantC (a p b : Int) (left right : Bool) : Int := if 0 < b - a - 2 * p ∧ left = true then (if right then (b - a - 2 * p) / 2 else b - a - 2 * p) else 0
theorem w64 (n : Int) (h : -9223372036854775808 ≤ n ∧ n ≤ 9223372036854775807) : wrap64 n = n := IntWalk.wrap64_in n h

theorem width_C (a p b : Int) (left right : Bool) (w : World) (a0 : 0 ≤ a) (a1 : a ≤ 65535) (p0 : 0 ≤ p) (p1 : p ≤ 255) (b0 : 0 ≤ b) (b1 : b ≤ 65535) :
    Calls Try.prog 6 #[.agg (sty (gC a p (if left then 0 else 1) (if right then 0 else 1))), .int .i64 b] w fun e w' =>
      e = .returned (.agg #[.int .i64 (wantC a p b left right), .int .i64 a, .int .i64 (b - a - 2 * p - wantC a p b left right)]) ∧ Below w.heap.size w w' := by
  have hpp : wrap64 (wrap64 (wrap64 (wrap64 (wrap64 (b - a) - wrap64 (p + 0)) - wrap64 (p + 0)) - 0) - 0) = b - a - 2 * p := by
    rw [w64 (p + 0) (by omega), w64 (b - a) (by omega), w64 (b - a - (p + 0)) (by omega), w64 (b - a - (p + 0) - (p + 0)) (by omega), w64 (b - a - (p + 0) - (p + 0) - 0) (by omega), w64 _ (by omega)]; omega
  have hside : ∀ (t : Bool), wide_Side.f (if t then 0 else 1) 0 b = some (0, !t) := by intro t; cases t <;> rfl
  have hcl : size_Clamp.f a 0 (-1) = some a := by
    unfold size_Clamp.f mx
    rw [if_neg (by omega)]
    rw [if_neg (by omega : ¬ a < 0), if_neg (by omega : ¬ a < 0)]
  have hsh : wide_shared.f 1 0 a 0 (b - a - 2 * p) (!!left) (!!right) = some (wantC a p b left right, a, b - a - 2 * p - wantC a p b left right) := by
    unfold wide_shared.f wantC
    by_cases h : b - a - 2 * p < 0
    · rw [if_pos h, if_neg (by omega)]
      simp only [wide_shared.j0, if_true]
      rw [w64 _ (by omega)]
      simp
    · rw [if_neg h]
      cases left <;> cases right <;> simp only [wide_shared.j0, Bool.not_true, Bool.not_false, if_true, if_false, Bool.false_eq_true, and_false, and_true]
      · rw [w64 _ (by omega)]; simp
      · rw [w64 _ (by omega)]; simp
      · rw [w64 _ (by omega)]
        split
        · simp
        · have : b - a - 2 * p = 0 := by omega
          rw [this]; simp
      · rw [w64 _ (by omega)]
        split
        · rfl
        · have : b - a - 2 * p = 0 := by omega
          rw [this]; simp
  have h := width_calls (gC a p (if left then 0 else 1) (if right then 0 else 1)) b 0 0 0 (-1) 0 a a a (wantC a p b left right) a (b - a - 2 * p - wantC a p b left right) 1 (!left) (!right) true false true w
    (hside left) (hside right) (by rfl) (by rfl) rfl (by rfl) rfl hcl (by
      have e1 : gC a p (if left then 0 else 1) (if right then 0 else 1) 34 = p := rfl
      have e2 : gC a p (if left then 0 else 1) (if right then 0 else 1) 38 = 0 := rfl
      have e3 : gC a p (if left then 0 else 1) (if right then 0 else 1) 32 = p := rfl
      have e4 : gC a p (if left then 0 else 1) (if right then 0 else 1) 36 = 0 := rfl
      rw [e1, e2, e3, e4, hpp]; exact hsh)
  simpa [widthR] using h

theorem gate_op {P : Program} {ops : Array Oper} {rest : List Oper} {o : Oper} {a : Act} {w : World} {Q : Exit → Act → World → Prop} (op : Op) (_ho : o.op = op) (h : wpList P ops Q (o :: rest) a w) : wpList P ops Q (o :: rest) a w := h

set_option maxHeartbeats 400000 in
set_option maxRecDepth 100000 in
theorem centers_true_true_pos (x y z a p b : Int) (w : World) (h1 : bits .and .i64 x 65535 = a) (h2 : bits .and .i64 y 255 = p) (h3 : bits .and .i64 z 65535 = b)
    (a0 : 0 ≤ a) (a1 : a ≤ 65535) (p0 : 0 ≤ p) (p1 : p ≤ 255) (b0 : 0 ≤ b) (b1 : b ≤ 65535) (hf : 0 < b - a - 2 * p) :
    Calls Try.prog 3 #[.int .i64 x, .int .i64 y, .int .i64 z, .bool true, .bool true] w fun e w' => e = .returned (.bool true) ∧ Below w.heap.size w w' := by
  have hw : ∀ W : World, Calls Try.prog 6 #[.agg (sty (gC a p 0 0)), .int .i64 b] W fun e w' =>
      e = .returned (.agg #[.int .i64 ((b - a - 2 * p) / 2), .int .i64 a, .int .i64 (b - a - 2 * p - ((b - a - 2 * p) / 2))]) ∧ Below W.heap.size W w' := fun W => by
    have hwant : wantC a p b true true = (b - a - 2 * p) / 2 := by unfold wantC; rw [if_pos ⟨hf, rfl⟩]; rfl
    have h := width_C a p b true true W a0 a1 p0 p1 b0 b1
    rw [hwant] at h
    exact h
  have HW := Aside0.mk hw
  clear hw
  have B0 := Aside0.mk (Below.refl w.heap.size w)
  go_enter Try.func3, Try.ntmps3
  go_wp2_with (first | ((with_reducible refine gate_op (.build 27 #[(9, .tmp 24), (17, .tmp 27), (16, .tmp 32), (11, .tmp 33)]) rfl ?_); refine wpList_build rfl 27 #[(9, .tmp 24), (17, .tmp 27), (16, .tmp 32), (11, .tmp 33)] rfl (pC a p) ?hv _ (buildC a p _) ?_; (case hv => simp [Act.eval, pC])) | ((with_reducible refine gate_op (.store 27 (.tmp 12) (.tmp 34)) rfl ?_); refine wpList_store_sty rfl (.tmp 12) (.tmp 34) rfl (w.heap.size + 1) (gl (sC a p)) rfl rfl _ (heap_alloc2_new w _ _) rfl ?_; intro w4 E1 E2; have B4 := Aside0.mk (E2.below _ _ (below_alloc (below_alloc B0.out _) _) (by simp)); have c29 := E1.cell 29 (by omega); have c30 := E1.cell 30 (by omega); have c25 := E1.cell 25 (by omega); have c26 := E1.cell 26 (by omega); have f29 := E1.f 29; have f30 := E1.f 30; have f25 := E1.f 25; have f26 := E1.f 26) | ((with_reducible refine gate_op (.load 27 (.tmp 12)) rfl ?_); refine wpList_load_sty rfl _ rfl (w.heap.size + 1) rfl (gC a p 0 0) ?hr ?_; (case hr => (have hE := E1; rw [gC_11] at hE; have hE := (hE.set 29 0).set 30 0; rw [gC_set29] at hE; have hE := (hE.set 25 0).set 26 0; rw [gC_set25] at hE; exact hE))))
  refine (HW.out _).mono ?_
  rintro e w5 ⟨rfl, hb5⟩
  have B5 : Aside0 (Below w.heap.size w w5) := ⟨by refine below_step ?_ hb5; repeat (first | exact B4.out | refine below_set ?_ (by simp))⟩
  clear hb5 HW E1 E2 B4 B0 c29 c30 c25 c26 f29 f30 f25 f26
  go_wp2_with fail
  refine (awake_calls _).mono ?_
  rintro e w6 ⟨rfl, hb6⟩
  have B6 : Aside0 (Below w.heap.size w w6) := ⟨by refine below_step ?_ hb6; repeat (first | exact B5.out | refine below_set ?_ (by first | exact B5.out.size | simp) | apply below_alloc)⟩
  clear hb6 B5
  go_wp2
  go_ret
  exact ⟨rfl, B6.out⟩

set_option maxHeartbeats 400000 in
set_option maxRecDepth 100000 in
theorem centers_true_true_neg (x y z a p b : Int) (w : World) (h1 : bits .and .i64 x 65535 = a) (h2 : bits .and .i64 y 255 = p) (h3 : bits .and .i64 z 65535 = b)
    (a0 : 0 ≤ a) (a1 : a ≤ 65535) (p0 : 0 ≤ p) (p1 : p ≤ 255) (b0 : 0 ≤ b) (b1 : b ≤ 65535) (hf : ¬ 0 < b - a - 2 * p) :
    Calls Try.prog 3 #[.int .i64 x, .int .i64 y, .int .i64 z, .bool true, .bool true] w fun e w' => e = .returned (.bool true) ∧ Below w.heap.size w w' := by
  have hw : ∀ W : World, Calls Try.prog 6 #[.agg (sty (gC a p 0 0)), .int .i64 b] W fun e w' =>
      e = .returned (.agg #[.int .i64 (0), .int .i64 a, .int .i64 (b - a - 2 * p - (0))]) ∧ Below W.heap.size W w' := fun W => by
    have hwant : wantC a p b true true = 0 := by unfold wantC; rw [if_neg (fun h => hf h.1)]
    have h := width_C a p b true true W a0 a1 p0 p1 b0 b1
    rw [hwant] at h
    exact h
  have HW := Aside0.mk hw
  clear hw
  have B0 := Aside0.mk (Below.refl w.heap.size w)
  go_enter Try.func3, Try.ntmps3
  go_wp2_with (first | ((with_reducible refine gate_op (.build 27 #[(9, .tmp 24), (17, .tmp 27), (16, .tmp 32), (11, .tmp 33)]) rfl ?_); refine wpList_build rfl 27 #[(9, .tmp 24), (17, .tmp 27), (16, .tmp 32), (11, .tmp 33)] rfl (pC a p) ?hv _ (buildC a p _) ?_; (case hv => simp [Act.eval, pC])) | ((with_reducible refine gate_op (.store 27 (.tmp 12) (.tmp 34)) rfl ?_); refine wpList_store_sty rfl (.tmp 12) (.tmp 34) rfl (w.heap.size + 1) (gl (sC a p)) rfl rfl _ (heap_alloc2_new w _ _) rfl ?_; intro w4 E1 E2; have B4 := Aside0.mk (E2.below _ _ (below_alloc (below_alloc B0.out _) _) (by simp)); have c29 := E1.cell 29 (by omega); have c30 := E1.cell 30 (by omega); have c25 := E1.cell 25 (by omega); have c26 := E1.cell 26 (by omega); have f29 := E1.f 29; have f30 := E1.f 30; have f25 := E1.f 25; have f26 := E1.f 26) | ((with_reducible refine gate_op (.load 27 (.tmp 12)) rfl ?_); refine wpList_load_sty rfl _ rfl (w.heap.size + 1) rfl (gC a p 0 0) ?hr ?_; (case hr => (have hE := E1; rw [gC_11] at hE; have hE := (hE.set 29 0).set 30 0; rw [gC_set29] at hE; have hE := (hE.set 25 0).set 26 0; rw [gC_set25] at hE; exact hE))))
  refine (HW.out _).mono ?_
  rintro e w5 ⟨rfl, hb5⟩
  have B5 : Aside0 (Below w.heap.size w w5) := ⟨by refine below_step ?_ hb5; repeat (first | exact B4.out | refine below_set ?_ (by simp))⟩
  clear hb5 HW E1 E2 B4 B0 c29 c30 c25 c26 f29 f30 f25 f26
  go_wp2_with fail
  refine (awake_calls _).mono ?_
  rintro e w6 ⟨rfl, hb6⟩
  have B6 : Aside0 (Below w.heap.size w w6) := ⟨by refine below_step ?_ hb6; repeat (first | exact B5.out | refine below_set ?_ (by first | exact B5.out.size | simp) | apply below_alloc)⟩
  clear hb6 B5
  go_wp2
  go_ret
  exact ⟨rfl, B6.out⟩

set_option maxHeartbeats 400000 in
set_option maxRecDepth 100000 in
theorem centers_true_false_pos (x y z a p b : Int) (w : World) (h1 : bits .and .i64 x 65535 = a) (h2 : bits .and .i64 y 255 = p) (h3 : bits .and .i64 z 65535 = b)
    (a0 : 0 ≤ a) (a1 : a ≤ 65535) (p0 : 0 ≤ p) (p1 : p ≤ 255) (b0 : 0 ≤ b) (b1 : b ≤ 65535) (hf : 0 < b - a - 2 * p) :
    Calls Try.prog 3 #[.int .i64 x, .int .i64 y, .int .i64 z, .bool true, .bool false] w fun e w' => e = .returned (.bool true) ∧ Below w.heap.size w w' := by
  have hw : ∀ W : World, Calls Try.prog 6 #[.agg (sty (gC a p 0 1)), .int .i64 b] W fun e w' =>
      e = .returned (.agg #[.int .i64 (b - a - 2 * p), .int .i64 a, .int .i64 (b - a - 2 * p - (b - a - 2 * p))]) ∧ Below W.heap.size W w' := fun W => by
    have hwant : wantC a p b true false = b - a - 2 * p := by unfold wantC; rw [if_pos ⟨hf, rfl⟩]; rfl
    have h := width_C a p b true false W a0 a1 p0 p1 b0 b1
    rw [hwant] at h
    exact h
  have HW := Aside0.mk hw
  clear hw
  have B0 := Aside0.mk (Below.refl w.heap.size w)
  go_enter Try.func3, Try.ntmps3
  go_wp2_with (first | ((with_reducible refine gate_op (.build 27 #[(9, .tmp 24), (17, .tmp 27), (16, .tmp 32), (11, .tmp 33)]) rfl ?_); refine wpList_build rfl 27 #[(9, .tmp 24), (17, .tmp 27), (16, .tmp 32), (11, .tmp 33)] rfl (pC a p) ?hv _ (buildC a p _) ?_; (case hv => simp [Act.eval, pC])) | ((with_reducible refine gate_op (.store 27 (.tmp 12) (.tmp 34)) rfl ?_); refine wpList_store_sty rfl (.tmp 12) (.tmp 34) rfl (w.heap.size + 1) (gl (sC a p)) rfl rfl _ (heap_alloc2_new w _ _) rfl ?_; intro w4 E1 E2; have B4 := Aside0.mk (E2.below _ _ (below_alloc (below_alloc B0.out _) _) (by simp)); have c29 := E1.cell 29 (by omega); have c30 := E1.cell 30 (by omega); have c25 := E1.cell 25 (by omega); have c26 := E1.cell 26 (by omega); have f29 := E1.f 29; have f30 := E1.f 30; have f25 := E1.f 25; have f26 := E1.f 26) | ((with_reducible refine gate_op (.load 27 (.tmp 12)) rfl ?_); refine wpList_load_sty rfl _ rfl (w.heap.size + 1) rfl (gC a p 0 1) ?hr ?_; (case hr => (have hE := E1; rw [gC_11] at hE; have hE := (hE.set 29 0).set 30 0; rw [gC_set29] at hE; exact hE))))
  refine (HW.out _).mono ?_
  rintro e w5 ⟨rfl, hb5⟩
  have B5 : Aside0 (Below w.heap.size w w5) := ⟨by refine below_step ?_ hb5; repeat (first | exact B4.out | refine below_set ?_ (by simp))⟩
  clear hb5 HW E1 E2 B4 B0 c29 c30 c25 c26 f29 f30 f25 f26
  go_wp2_with fail
  refine (awake_calls _).mono ?_
  rintro e w6 ⟨rfl, hb6⟩
  have B6 : Aside0 (Below w.heap.size w w6) := ⟨by refine below_step ?_ hb6; repeat (first | exact B5.out | refine below_set ?_ (by first | exact B5.out.size | simp) | apply below_alloc)⟩
  clear hb6 B5
  go_wp2
  go_ret
  exact ⟨rfl, B6.out⟩

set_option maxHeartbeats 400000 in
set_option maxRecDepth 100000 in
theorem centers_true_false_neg (x y z a p b : Int) (w : World) (h1 : bits .and .i64 x 65535 = a) (h2 : bits .and .i64 y 255 = p) (h3 : bits .and .i64 z 65535 = b)
    (a0 : 0 ≤ a) (a1 : a ≤ 65535) (p0 : 0 ≤ p) (p1 : p ≤ 255) (b0 : 0 ≤ b) (b1 : b ≤ 65535) (hf : ¬ 0 < b - a - 2 * p) :
    Calls Try.prog 3 #[.int .i64 x, .int .i64 y, .int .i64 z, .bool true, .bool false] w fun e w' => e = .returned (.bool true) ∧ Below w.heap.size w w' := by
  have hw : ∀ W : World, Calls Try.prog 6 #[.agg (sty (gC a p 0 1)), .int .i64 b] W fun e w' =>
      e = .returned (.agg #[.int .i64 (0), .int .i64 a, .int .i64 (b - a - 2 * p - (0))]) ∧ Below W.heap.size W w' := fun W => by
    have hwant : wantC a p b true false = 0 := by unfold wantC; rw [if_neg (fun h => hf h.1)]
    have h := width_C a p b true false W a0 a1 p0 p1 b0 b1
    rw [hwant] at h
    exact h
  have HW := Aside0.mk hw
  clear hw
  have B0 := Aside0.mk (Below.refl w.heap.size w)
  go_enter Try.func3, Try.ntmps3
  go_wp2_with (first | ((with_reducible refine gate_op (.build 27 #[(9, .tmp 24), (17, .tmp 27), (16, .tmp 32), (11, .tmp 33)]) rfl ?_); refine wpList_build rfl 27 #[(9, .tmp 24), (17, .tmp 27), (16, .tmp 32), (11, .tmp 33)] rfl (pC a p) ?hv _ (buildC a p _) ?_; (case hv => simp [Act.eval, pC])) | ((with_reducible refine gate_op (.store 27 (.tmp 12) (.tmp 34)) rfl ?_); refine wpList_store_sty rfl (.tmp 12) (.tmp 34) rfl (w.heap.size + 1) (gl (sC a p)) rfl rfl _ (heap_alloc2_new w _ _) rfl ?_; intro w4 E1 E2; have B4 := Aside0.mk (E2.below _ _ (below_alloc (below_alloc B0.out _) _) (by simp)); have c29 := E1.cell 29 (by omega); have c30 := E1.cell 30 (by omega); have c25 := E1.cell 25 (by omega); have c26 := E1.cell 26 (by omega); have f29 := E1.f 29; have f30 := E1.f 30; have f25 := E1.f 25; have f26 := E1.f 26) | ((with_reducible refine gate_op (.load 27 (.tmp 12)) rfl ?_); refine wpList_load_sty rfl _ rfl (w.heap.size + 1) rfl (gC a p 0 1) ?hr ?_; (case hr => (have hE := E1; rw [gC_11] at hE; have hE := (hE.set 29 0).set 30 0; rw [gC_set29] at hE; exact hE))))
  refine (HW.out _).mono ?_
  rintro e w5 ⟨rfl, hb5⟩
  have B5 : Aside0 (Below w.heap.size w w5) := ⟨by refine below_step ?_ hb5; repeat (first | exact B4.out | refine below_set ?_ (by simp))⟩
  clear hb5 HW E1 E2 B4 B0 c29 c30 c25 c26 f29 f30 f25 f26
  go_wp2_with fail
  refine (awake_calls _).mono ?_
  rintro e w6 ⟨rfl, hb6⟩
  have B6 : Aside0 (Below w.heap.size w w6) := ⟨by refine below_step ?_ hb6; repeat (first | exact B5.out | refine below_set ?_ (by first | exact B5.out.size | simp) | apply below_alloc)⟩
  clear hb6 B5
  go_wp2
  go_ret
  exact ⟨rfl, B6.out⟩

set_option maxHeartbeats 400000 in
set_option maxRecDepth 100000 in
theorem centers_false_true_pos (x y z a p b : Int) (w : World) (h1 : bits .and .i64 x 65535 = a) (h2 : bits .and .i64 y 255 = p) (h3 : bits .and .i64 z 65535 = b)
    (a0 : 0 ≤ a) (a1 : a ≤ 65535) (p0 : 0 ≤ p) (p1 : p ≤ 255) (b0 : 0 ≤ b) (b1 : b ≤ 65535) (hf : 0 < b - a - 2 * p) :
    Calls Try.prog 3 #[.int .i64 x, .int .i64 y, .int .i64 z, .bool false, .bool true] w fun e w' => e = .returned (.bool true) ∧ Below w.heap.size w w' := by
  have hw : ∀ W : World, Calls Try.prog 6 #[.agg (sty (gC a p 1 0)), .int .i64 b] W fun e w' =>
      e = .returned (.agg #[.int .i64 (0), .int .i64 a, .int .i64 (b - a - 2 * p - (0))]) ∧ Below W.heap.size W w' := fun W => by
    have hwant : wantC a p b false true = 0 := by unfold wantC; rw [if_neg (fun h => by cases h.2)]
    have h := width_C a p b false true W a0 a1 p0 p1 b0 b1
    rw [hwant] at h
    exact h
  have HW := Aside0.mk hw
  clear hw
  have B0 := Aside0.mk (Below.refl w.heap.size w)
  go_enter Try.func3, Try.ntmps3
  go_wp2_with (first | ((with_reducible refine gate_op (.build 27 #[(9, .tmp 24), (17, .tmp 27), (16, .tmp 32), (11, .tmp 33)]) rfl ?_); refine wpList_build rfl 27 #[(9, .tmp 24), (17, .tmp 27), (16, .tmp 32), (11, .tmp 33)] rfl (pC a p) ?hv _ (buildC a p _) ?_; (case hv => simp [Act.eval, pC])) | ((with_reducible refine gate_op (.store 27 (.tmp 12) (.tmp 34)) rfl ?_); refine wpList_store_sty rfl (.tmp 12) (.tmp 34) rfl (w.heap.size + 1) (gl (sC a p)) rfl rfl _ (heap_alloc2_new w _ _) rfl ?_; intro w4 E1 E2; have B4 := Aside0.mk (E2.below _ _ (below_alloc (below_alloc B0.out _) _) (by simp)); have c29 := E1.cell 29 (by omega); have c30 := E1.cell 30 (by omega); have c25 := E1.cell 25 (by omega); have c26 := E1.cell 26 (by omega); have f29 := E1.f 29; have f30 := E1.f 30; have f25 := E1.f 25; have f26 := E1.f 26) | ((with_reducible refine gate_op (.load 27 (.tmp 12)) rfl ?_); refine wpList_load_sty rfl _ rfl (w.heap.size + 1) rfl (gC a p 1 0) ?hr ?_; (case hr => (have hE := E1; rw [gC_11] at hE; have hE := (hE.set 25 0).set 26 0; rw [gC_set25] at hE; exact hE))))
  refine (HW.out _).mono ?_
  rintro e w5 ⟨rfl, hb5⟩
  have B5 : Aside0 (Below w.heap.size w w5) := ⟨by refine below_step ?_ hb5; repeat (first | exact B4.out | refine below_set ?_ (by simp))⟩
  clear hb5 HW E1 E2 B4 B0 c29 c30 c25 c26 f29 f30 f25 f26
  go_wp2_with fail
  refine (awake_calls _).mono ?_
  rintro e w6 ⟨rfl, hb6⟩
  have B6 : Aside0 (Below w.heap.size w w6) := ⟨by refine below_step ?_ hb6; repeat (first | exact B5.out | refine below_set ?_ (by first | exact B5.out.size | simp) | apply below_alloc)⟩
  clear hb6 B5
  go_wp2
  go_ret
  exact ⟨rfl, B6.out⟩

set_option maxHeartbeats 400000 in
set_option maxRecDepth 100000 in
theorem centers_false_true_neg (x y z a p b : Int) (w : World) (h1 : bits .and .i64 x 65535 = a) (h2 : bits .and .i64 y 255 = p) (h3 : bits .and .i64 z 65535 = b)
    (a0 : 0 ≤ a) (a1 : a ≤ 65535) (p0 : 0 ≤ p) (p1 : p ≤ 255) (b0 : 0 ≤ b) (b1 : b ≤ 65535) (hf : ¬ 0 < b - a - 2 * p) :
    Calls Try.prog 3 #[.int .i64 x, .int .i64 y, .int .i64 z, .bool false, .bool true] w fun e w' => e = .returned (.bool true) ∧ Below w.heap.size w w' := by
  have hw : ∀ W : World, Calls Try.prog 6 #[.agg (sty (gC a p 1 0)), .int .i64 b] W fun e w' =>
      e = .returned (.agg #[.int .i64 (0), .int .i64 a, .int .i64 (b - a - 2 * p - (0))]) ∧ Below W.heap.size W w' := fun W => by
    have hwant : wantC a p b false true = 0 := by unfold wantC; rw [if_neg (fun h => by cases h.2)]
    have h := width_C a p b false true W a0 a1 p0 p1 b0 b1
    rw [hwant] at h
    exact h
  have HW := Aside0.mk hw
  clear hw
  have B0 := Aside0.mk (Below.refl w.heap.size w)
  go_enter Try.func3, Try.ntmps3
  go_wp2_with (first | ((with_reducible refine gate_op (.build 27 #[(9, .tmp 24), (17, .tmp 27), (16, .tmp 32), (11, .tmp 33)]) rfl ?_); refine wpList_build rfl 27 #[(9, .tmp 24), (17, .tmp 27), (16, .tmp 32), (11, .tmp 33)] rfl (pC a p) ?hv _ (buildC a p _) ?_; (case hv => simp [Act.eval, pC])) | ((with_reducible refine gate_op (.store 27 (.tmp 12) (.tmp 34)) rfl ?_); refine wpList_store_sty rfl (.tmp 12) (.tmp 34) rfl (w.heap.size + 1) (gl (sC a p)) rfl rfl _ (heap_alloc2_new w _ _) rfl ?_; intro w4 E1 E2; have B4 := Aside0.mk (E2.below _ _ (below_alloc (below_alloc B0.out _) _) (by simp)); have c29 := E1.cell 29 (by omega); have c30 := E1.cell 30 (by omega); have c25 := E1.cell 25 (by omega); have c26 := E1.cell 26 (by omega); have f29 := E1.f 29; have f30 := E1.f 30; have f25 := E1.f 25; have f26 := E1.f 26) | ((with_reducible refine gate_op (.load 27 (.tmp 12)) rfl ?_); refine wpList_load_sty rfl _ rfl (w.heap.size + 1) rfl (gC a p 1 0) ?hr ?_; (case hr => (have hE := E1; rw [gC_11] at hE; have hE := (hE.set 25 0).set 26 0; rw [gC_set25] at hE; exact hE))))
  refine (HW.out _).mono ?_
  rintro e w5 ⟨rfl, hb5⟩
  have B5 : Aside0 (Below w.heap.size w w5) := ⟨by refine below_step ?_ hb5; repeat (first | exact B4.out | refine below_set ?_ (by simp))⟩
  clear hb5 HW E1 E2 B4 B0 c29 c30 c25 c26 f29 f30 f25 f26
  go_wp2_with fail
  refine (awake_calls _).mono ?_
  rintro e w6 ⟨rfl, hb6⟩
  have B6 : Aside0 (Below w.heap.size w w6) := ⟨by refine below_step ?_ hb6; repeat (first | exact B5.out | refine below_set ?_ (by first | exact B5.out.size | simp) | apply below_alloc)⟩
  clear hb6 B5
  go_wp2
  go_ret
  exact ⟨rfl, B6.out⟩

set_option maxHeartbeats 400000 in
set_option maxRecDepth 100000 in
theorem centers_false_false_pos (x y z a p b : Int) (w : World) (h1 : bits .and .i64 x 65535 = a) (h2 : bits .and .i64 y 255 = p) (h3 : bits .and .i64 z 65535 = b)
    (a0 : 0 ≤ a) (a1 : a ≤ 65535) (p0 : 0 ≤ p) (p1 : p ≤ 255) (b0 : 0 ≤ b) (b1 : b ≤ 65535) (hf : 0 < b - a - 2 * p) :
    Calls Try.prog 3 #[.int .i64 x, .int .i64 y, .int .i64 z, .bool false, .bool false] w fun e w' => e = .returned (.bool true) ∧ Below w.heap.size w w' := by
  have hw : ∀ W : World, Calls Try.prog 6 #[.agg (sty (gC a p 1 1)), .int .i64 b] W fun e w' =>
      e = .returned (.agg #[.int .i64 (0), .int .i64 a, .int .i64 (b - a - 2 * p - (0))]) ∧ Below W.heap.size W w' := fun W => by
    have hwant : wantC a p b false false = 0 := by unfold wantC; rw [if_neg (fun h => by cases h.2)]
    have h := width_C a p b false false W a0 a1 p0 p1 b0 b1
    rw [hwant] at h
    exact h
  have HW := Aside0.mk hw
  clear hw
  have B0 := Aside0.mk (Below.refl w.heap.size w)
  go_enter Try.func3, Try.ntmps3
  go_wp2_with (first | ((with_reducible refine gate_op (.build 27 #[(9, .tmp 24), (17, .tmp 27), (16, .tmp 32), (11, .tmp 33)]) rfl ?_); refine wpList_build rfl 27 #[(9, .tmp 24), (17, .tmp 27), (16, .tmp 32), (11, .tmp 33)] rfl (pC a p) ?hv _ (buildC a p _) ?_; (case hv => simp [Act.eval, pC])) | ((with_reducible refine gate_op (.store 27 (.tmp 12) (.tmp 34)) rfl ?_); refine wpList_store_sty rfl (.tmp 12) (.tmp 34) rfl (w.heap.size + 1) (gl (sC a p)) rfl rfl _ (heap_alloc2_new w _ _) rfl ?_; intro w4 E1 E2; have B4 := Aside0.mk (E2.below _ _ (below_alloc (below_alloc B0.out _) _) (by simp)); have c29 := E1.cell 29 (by omega); have c30 := E1.cell 30 (by omega); have c25 := E1.cell 25 (by omega); have c26 := E1.cell 26 (by omega); have f29 := E1.f 29; have f30 := E1.f 30; have f25 := E1.f 25; have f26 := E1.f 26) | ((with_reducible refine gate_op (.load 27 (.tmp 12)) rfl ?_); refine wpList_load_sty rfl _ rfl (w.heap.size + 1) rfl (gC a p 1 1) ?hr ?_; (case hr => (have hE := E1; rw [gC_11] at hE; exact hE))))
  refine (HW.out _).mono ?_
  rintro e w5 ⟨rfl, hb5⟩
  have B5 : Aside0 (Below w.heap.size w w5) := ⟨by refine below_step ?_ hb5; repeat (first | exact B4.out | refine below_set ?_ (by simp))⟩
  clear hb5 HW E1 E2 B4 B0 c29 c30 c25 c26 f29 f30 f25 f26
  go_wp2_with fail
  refine (awake_calls _).mono ?_
  rintro e w6 ⟨rfl, hb6⟩
  have B6 : Aside0 (Below w.heap.size w w6) := ⟨by refine below_step ?_ hb6; repeat (first | exact B5.out | refine below_set ?_ (by first | exact B5.out.size | simp) | apply below_alloc)⟩
  clear hb6 B5
  go_wp2
  go_ret
  exact ⟨rfl, B6.out⟩

set_option maxHeartbeats 400000 in
set_option maxRecDepth 100000 in
theorem centers_false_false_neg (x y z a p b : Int) (w : World) (h1 : bits .and .i64 x 65535 = a) (h2 : bits .and .i64 y 255 = p) (h3 : bits .and .i64 z 65535 = b)
    (a0 : 0 ≤ a) (a1 : a ≤ 65535) (p0 : 0 ≤ p) (p1 : p ≤ 255) (b0 : 0 ≤ b) (b1 : b ≤ 65535) (hf : ¬ 0 < b - a - 2 * p) :
    Calls Try.prog 3 #[.int .i64 x, .int .i64 y, .int .i64 z, .bool false, .bool false] w fun e w' => e = .returned (.bool true) ∧ Below w.heap.size w w' := by
  have hw : ∀ W : World, Calls Try.prog 6 #[.agg (sty (gC a p 1 1)), .int .i64 b] W fun e w' =>
      e = .returned (.agg #[.int .i64 (0), .int .i64 a, .int .i64 (b - a - 2 * p - (0))]) ∧ Below W.heap.size W w' := fun W => by
    have hwant : wantC a p b false false = 0 := by unfold wantC; rw [if_neg (fun h => by cases h.2)]
    have h := width_C a p b false false W a0 a1 p0 p1 b0 b1
    rw [hwant] at h
    exact h
  have HW := Aside0.mk hw
  clear hw
  have B0 := Aside0.mk (Below.refl w.heap.size w)
  go_enter Try.func3, Try.ntmps3
  go_wp2_with (first | ((with_reducible refine gate_op (.build 27 #[(9, .tmp 24), (17, .tmp 27), (16, .tmp 32), (11, .tmp 33)]) rfl ?_); refine wpList_build rfl 27 #[(9, .tmp 24), (17, .tmp 27), (16, .tmp 32), (11, .tmp 33)] rfl (pC a p) ?hv _ (buildC a p _) ?_; (case hv => simp [Act.eval, pC])) | ((with_reducible refine gate_op (.store 27 (.tmp 12) (.tmp 34)) rfl ?_); refine wpList_store_sty rfl (.tmp 12) (.tmp 34) rfl (w.heap.size + 1) (gl (sC a p)) rfl rfl _ (heap_alloc2_new w _ _) rfl ?_; intro w4 E1 E2; have B4 := Aside0.mk (E2.below _ _ (below_alloc (below_alloc B0.out _) _) (by simp)); have c29 := E1.cell 29 (by omega); have c30 := E1.cell 30 (by omega); have c25 := E1.cell 25 (by omega); have c26 := E1.cell 26 (by omega); have f29 := E1.f 29; have f30 := E1.f 30; have f25 := E1.f 25; have f26 := E1.f 26) | ((with_reducible refine gate_op (.load 27 (.tmp 12)) rfl ?_); refine wpList_load_sty rfl _ rfl (w.heap.size + 1) rfl (gC a p 1 1) ?hr ?_; (case hr => (have hE := E1; rw [gC_11] at hE; exact hE))))
  refine (HW.out _).mono ?_
  rintro e w5 ⟨rfl, hb5⟩
  have B5 : Aside0 (Below w.heap.size w w5) := ⟨by refine below_step ?_ hb5; repeat (first | exact B4.out | refine below_set ?_ (by simp))⟩
  clear hb5 HW E1 E2 B4 B0 c29 c30 c25 c26 f29 f30 f25 f26
  go_wp2_with fail
  refine (awake_calls _).mono ?_
  rintro e w6 ⟨rfl, hb6⟩
  have B6 : Aside0 (Below w.heap.size w w6) := ⟨by refine below_step ?_ hb6; repeat (first | exact B5.out | refine below_set ?_ (by first | exact B5.out.size | simp) | apply below_alloc)⟩
  clear hb6 B5
  go_wp2
  go_ret
  exact ⟨rfl, B6.out⟩


theorem centers_walk (x y z : Int) (left right : Bool) (w : World) :
    Calls Try.prog 3 #[.int .i64 x, .int .i64 y, .int .i64 z, .bool left, .bool right] w fun e w' => e = .returned (.bool true) ∧ Below w.heap.size w w' := by
  have h1 := and_65535 x
  have h2 := and_255 y
  have h3 := and_65535 z
  have a0 : 0 ≤ x % 65536 := by omega
  have a1 : x % 65536 ≤ 65535 := by omega
  have p0 : 0 ≤ y % 256 := by omega
  have p1 : y % 256 ≤ 255 := by omega
  have b0 : 0 ≤ z % 65536 := by omega
  have b1 : z % 65536 ≤ 65535 := by omega
  by_cases hf : 0 < z % 65536 - x % 65536 - 2 * (y % 256)
  · cases left <;> cases right
    · exact centers_false_false_pos x y z _ _ _ w h1 h2 h3 a0 a1 p0 p1 b0 b1 hf
    · exact centers_false_true_pos x y z _ _ _ w h1 h2 h3 a0 a1 p0 p1 b0 b1 hf
    · exact centers_true_false_pos x y z _ _ _ w h1 h2 h3 a0 a1 p0 p1 b0 b1 hf
    · exact centers_true_true_pos x y z _ _ _ w h1 h2 h3 a0 a1 p0 p1 b0 b1 hf
  · cases left <;> cases right
    · exact centers_false_false_neg x y z _ _ _ w h1 h2 h3 a0 a1 p0 p1 b0 b1 hf
    · exact centers_false_true_neg x y z _ _ _ w h1 h2 h3 a0 a1 p0 p1 b0 b1 hf
    · exact centers_true_false_neg x y z _ _ _ w h1 h2 h3 a0 a1 p0 p1 b0 b1 hf
    · exact centers_true_true_neg x y z _ _ _ w h1 h2 h3 a0 a1 p0 p1 b0 b1 hf
end Go.Proofs.Ytcealidhhkdmjaa
