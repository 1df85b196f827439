import Derived.Test.YtkokdkhpcdjihaaFreeB
namespace Go.Proofs.Ytkokdkhpcdjihaa
open Go.Sort Go.RowKit Go.Proofs.YtkokdkhpcdjihaaW.PrintWords Go.Proofs.YtkokdkhpcdjihaaW.PrintLast Go.Proofs.YtkokdkhpcdjihaaW.PrintMore
open QFree
set_option linter.unusedSimpArgs false
set_option linter.unusedVariables false

def smH (xs : List S26) : Nat → Int
  | 0 => 0
  | i + 1 => wrap64 (smH xs i + wrap64 (hyp0 (xs.getD i z26) + (xs.getD i z26).f5))
def hyT (xs : List S26) : Nat → List Int
  | 0 => []
  | i + 1 => hyT xs i ++ [hyp0 (xs.getD i z26)]
theorem hyT_length (xs : List S26) (i : Nat) : (hyT xs i).length = i := by
  induction i with
  | zero => rfl
  | succ i ih => simp [hyT, ih]
def fxT (gr : Bool) (xs : List S26) : Nat → List Bool
  | 0 => List.replicate xs.length false
  | i + 1 => (fxT gr xs i).set i (fx0 gr (xs.getD i z26))
theorem fxT_length (gr : Bool) (xs : List S26) (i : Nat) : (fxT gr xs i).length = xs.length := by
  induction i with
  | zero => simp [fxT]
  | succ i ih => simp [fxT, ih]
/-- The turns, at most so many. -/
def runT (ks : Nat) (xs : List S26) (gr : Bool) (inner : Int) : Nat → List Int → List Bool → Option (List Int)
  | 0, _, _ => none
  | f + 1, sz, fz =>
    match unit_Share.f ks (if gr != decide (0 < accP xs sz fz inner xs.length) then 0 else accP xs sz fz inner xs.length) (wts gr xs fz xs.length) with
    | none => none
    | some P => if P.length = xs.length then (if mrT fz xs.length then runT ks xs gr inner f (szT xs fz P sz xs.length) (fzT (smT xs fz P xs.length) (wrT xs fz P xs.length) fz xs.length) else some (szT xs fz P sz xs.length)) else none

theorem cell_move {w w' : World} {b j : Nat} {v : Value} (h : w'.heap[b]? = w.heap[b]?) (hc : w.cell? ⟨b, j, none⟩ = some v) : w'.cell? ⟨b, j, none⟩ = some v := (World.cell?_of_block (a := ⟨b, j, none⟩) h).trans hc
theorem frozen_move {w w' : World} {b j : Nat} {v : Bool} (h : w'.heap[b]? = w.heap[b]?) (hc : w.frozen? ⟨b, j, none⟩ = v) : w'.frozen? ⟨b, j, none⟩ = v := (World.frozen?_of_block (a := ⟨b, j, none⟩) h).trans hc
theorem info4 : (Try.prog.info? 4).map (fun i => (i.zero, i.size, i.bytes)) = some (some (.bool false), 1, 1) := by kernel_rfl
theorem heap26 : Kd.Heap k26 := Kd.heap_iso _ (Kd.heap_pair (Kd.heap_int _) (Kd.heap_pair (Kd.heap_int _) (Kd.heap_pair (Kd.heap_int _) (Kd.heap_pair (Kd.heap_int _) (Kd.heap_pair (Kd.heap_int _) (Kd.heap_int _))))))
theorem rowV_R {W : World} {base b c : Nat} {r : List Int} (h : RowV W b 2 (ints r)) (hz : RowC W b 2 c) (h1 : r.length ≤ c) (h2 : c ≤ maxLen) (hb : base ≤ b) : Kd.R (Kd.int .i64) 2 W base (fun _ => True) (.slice (some ⟨b, 0, none⟩) r.length c) r := by
  obtain ⟨cur, hc, hv⟩ := h
  obtain ⟨cur', hc', hs⟩ := hz
  obtain rfl : cur = cur' := by rw [hc] at hc'; injection hc' with hc'; injection hc'
  have hl : (ints r).length = r.length := by simp [ints]
  have ht : cur.toList.take r.length = ints r := by
    apply List.ext_getElem?
    intro j
    by_cases hj : j < r.length
    · rw [List.getElem?_take, if_pos hj, Array.getElem?_toList, hv j _ (List.getElem?_eq_getElem (by omega)), List.getElem?_eq_getElem (by omega)]
    · rw [List.getElem?_take, if_neg hj, List.getElem?_eq_none (by omega)]
  refine ⟨fun _ _ => trivial, ints r, ⟨by rw [hl]; exact (Nat.mul_one _).symm, .inr ⟨b, c, cur, rfl, hb, hc, h1, h2, by rw [hs]; exact (Nat.mul_one _).symm, by show cur.toList.take (r.length * 1) = _; rw [Nat.mul_one]; exact ht⟩⟩, by rw [hl]; exact (Nat.mul_one _).symm, fun j x hj => ?_⟩
  have hjl := (List.getElem?_eq_some_iff.1 hj).1
  show ((ints r).drop (j * 1)).take 1 = [.int .i64 x]
  rw [Nat.mul_one]
  have : (ints r)[j]? = some (.int .i64 x) := by simp [ints, hj]
  rw [List.drop_eq_getElem_cons (by omega)]
  simp only [List.take_succ_cons, List.take_zero]
  rw [List.getElem?_eq_getElem (by omega)] at this
  injection this with this
  rw [this]
/-- The solver's block alone. -/
def Gs (W : World) (g : Nat) (ad : Addr) (n c0 : Nat) (gr : Bool) (v2 : Value) (bf cf : Nat) : Prop := W.heap[g]? = some (.cells #[.slice (some ad) n c0, .bool gr, v2, .slice (some ⟨bf, 0, none⟩) n cf] 37 (0, 0))

set_option linter.unusedSimpArgs false
set_option maxHeartbeats 4000000 in
set_option maxRecDepth 100000 in
theorem resolve_calls (ks fu : Nat) (ad : Addr) (c0 : Nat) (xs : List S26) (inner : Int) (r : List Int) (w : World)
    (hr : Kd.C k26 w (some ad) xs.length xs) (hc : xs.length ≤ c0) (hn : xs.length ≤ 1000) (hn0 : 0 < xs.length) (hok : free_Ok.f ks xs = some true) (hlo : -8796093022208 ≤ inner) (hhi : inner ≤ 36028797018963968)
    (h : runT ks xs (decide (smH xs xs.length < inner)) inner fu (hyT xs xs.length) (fxT (decide (smH xs xs.length < inner)) xs xs.length) = some r) :
    Calls Try.prog 5 #[.slice (some ad) xs.length c0, .int .i64 inner] w fun e w' => ∃ v0 : Value, e = .returned v0 ∧ Kd.R (Kd.int .i64) 2 w' w.heap.size (fun _ => True) v0 r ∧ Below w.heap.size w w' := by
  have H := Aside0.mk h
  have HC := Aside0.mk hr
  have HCc := Aside0.mk hc
  have HOK := Aside0.mk hok
  clear h hr hc hok
  obtain ⟨n, hN⟩ : ∃ n, n = xs.length := ⟨_, rfl⟩
  have HN := Aside0.mk hN
  rw [← hN] at hn hn0 ⊢
  clear hN
  go_enter Try.func5, Try.ntmps5
  go_wp2_with fail
  have hCl := free_Ok.calls ks (some ad) c0 xs true w HC.out HCc.out HOK.out
  rw [← HN.out] at hCl
  refine hCl.mono ?_
  rintro e w1 ⟨rfl, hb1⟩
  clear hCl
  have hni : (n == 0) = false := beq_eq_false_iff_ne.2 (by omega)
  have hnz : ((n : Int) == 0) = false := beq_eq_false_iff_ne.2 (by omega)
  have hl1 : decide (inner < -8796093022208) = false := decide_eq_false (by omega)
  have hl2 : decide (36028797018963968 < inner) = false := decide_eq_false (by omega)
  have hmk := run_make_row' (P := Try.prog) 35 4 (.bool false) 1 Try.underlying35 info4 rfl .i64 .i64 n (by omega) (by omega)
  go_wp2_with fail
  have hws := hb1.size
  have hg0 : Gs ((w1.alloc (.cells (madeCells #[.bool false] n) 4)).alloc (.cells #[.slice (some ad) n c0, .bool false, .slice none 0 0, .slice (some ⟨w1.heap.size, 0, none⟩) n n] 37)) (w1.heap.size + 1) ad n c0 false (.slice none 0 0) w1.heap.size n := by
    unfold Gs
    rw [show w1.heap.size + 1 = (w1.alloc (.cells (madeCells #[.bool false] n) 4)).heap.size by simp]
    exact blk_new _ _
  have hf0 : RowV ((w1.alloc (.cells (madeCells #[.bool false] n) 4)).alloc (.cells #[.slice (some ad) n c0, .bool false, .slice none 0 0, .slice (some ⟨w1.heap.size, 0, none⟩) n n] 37)) w1.heap.size 4 (bools (List.replicate n false)) := RowV.alloc ⟨_, blk_new _ _, fun j v hj => by rw [← Array.getElem?_toList, toList_madeCells_one]; simpa [bools] using hj⟩ _
  have hB0 : Below w.heap.size w ((w1.alloc (.cells (madeCells #[.bool false] n) 4)).alloc (.cells #[.slice (some ad) n c0, .bool false, .slice none 0 0, .slice (some ⟨w1.heap.size, 0, none⟩) n n] 37)) := (hb1.alloc hws _).alloc (by simp; omega) _
  clear hb1
  generalize (w1.alloc (.cells (madeCells #[.bool false] n) 4)).alloc (.cells #[.slice (some ad) n c0, .bool false, .slice none 0 0, .slice (some ⟨w1.heap.size, 0, none⟩) n n] 37) = W0 at *
  generalize w1.heap.size = bf at *
  have HG0 := Aside0.mk hg0
  have HF0 := Aside0.mk hf0
  have HB0 := Aside0.mk hB0
  clear hg0 hf0 hB0
  obtain ⟨g, hg⟩ : ∃ g, g = bf + 1 := ⟨_, rfl⟩
  rw [← hg] at HG0 ⊢
  have hgb : g ≠ bf := by omega
  have HGE := Aside0.mk hg
  clear hg
  go_loopg [6, 35] n (fun kq v6 v35 wr => ∃ (k : Nat) (v2 : Value), k ≤ n ∧ n - k ≤ kq ∧ v6 = .int .i64 (smH xs k) ∧ v35 = .int .i64 k ∧ Aside0 (Gs wr g ad n c0 false v2 bf n) ∧ Aside0 (Kd.R (Kd.int .i64) 2 wr w.heap.size (fun b => b ≠ g ∧ b ≠ bf) v2 (hyT xs k)) ∧ Aside0 (RowV wr bf 4 (bools (List.replicate n false))) ∧ Aside0 (Below w.heap.size w wr))
  case atStart =>
    exact ⟨0, .slice none 0 0, Nat.zero_le _, by omega, rfl, rfl, HG0, ⟨Kd.R_nil _ _ _ _ _⟩, HF0, HB0⟩
  case round =>
    obtain ⟨k, v2, hk, hkq, rfl, rfl, HG, HR, HF, HB⟩ := hrel
    by_cases hlt : k < n
    · have hltz : (k : Int) < (n : Int) := by omega
      have hk0 : (0 : Int) ≤ (k : Int) := by omega
      obtain ⟨x, hx⟩ : ∃ x, x = xs.getD k z26 := ⟨_, rfl⟩
      obtain ⟨ad', ea, i0, i1, i2, i3, i4, i5⟩ := at_T26 (Kd.C_below HC.out HB.out) (k : Int) hk0 (by have := HN.out; omega)
      have hrd : rd_T26 xs (k : Int) = x := by rw [hx]; rfl
      rw [hrd] at i0 i1 i2 i3 i4 i5
      cases ea
      have HX := Aside0.mk hx
      clear hx hrd
      rw [Int.toNat_natCast] at i0 i1 i2 i3 i4 i5
      go_wp2_with fail
      have hX := blk_new wr (.cells #[.int .i64 x.f0, .int .i64 x.f1, .int .i64 x.f2, .int .i64 x.f3, .int .i64 x.f4, .int .i64 x.f5] 26)
      have hbx : Below wr.heap.size wr (wr.alloc (.cells #[.int .i64 x.f0, .int .i64 x.f1, .int .i64 x.f2, .int .i64 x.f3, .int .i64 x.f4, .int .i64 x.f5] 26)) := (Below.refl wr.heap.size wr).alloc (Nat.le_refl _) _
      have hgl : g < wr.heap.size := (Array.getElem?_eq_some_iff.1 HG.out).1
      have hfl : bf < wr.heap.size := HF.out.lt
      have hwl := HB.out.size
      have HR1 := Aside0.mk (Kd.R_below HR.out hbx)
      have HB1 := Aside0.mk (HB.out.trans (hbx.mono hwl))
      have HF1 := Aside0.mk (HF.out.below hbx)
      have hG1 : Gs (wr.alloc (.cells #[.int .i64 x.f0, .int .i64 x.f1, .int .i64 x.f2, .int .i64 x.f3, .int .i64 x.f4, .int .i64 x.f5] 26)) g ad n c0 false v2 bf n := (hbx.block g hgl).trans HG.out
      have gv2 : some g ≠ v2.ownBlock := fun e => (HR.out.1 g e.symm).1 rfl
      have fv2 : some bf ≠ v2.ownBlock := fun e => (HR.out.1 bf e.symm).2 rfl
      have xv2 : some wr.heap.size ≠ v2.ownBlock := fun e => absurd ((Kd.R_bound HR.out).1 _ e.symm).2.2.1 (Nat.lt_irrefl _)
      have xl1 : wr.heap.size < (wr.alloc (.cells #[.int .i64 x.f0, .int .i64 x.f1, .int .i64 x.f2, .int .i64 x.f3, .int .i64 x.f4, .int .i64 x.f5] 26)).heap.size := by simp
      clear hbx HG HR HB HF i0 i1 i2 i3 i4 i5
      generalize wr.alloc (.cells #[.int .i64 x.f0, .int .i64 x.f1, .int .i64 x.f2, .int .i64 x.f3, .int .i64 x.f4, .int .i64 x.f5] 26) = W1 at *
      generalize wr.heap.size = X at *
      have y0 : W1.cell? ⟨X, 0, none⟩ = some (.int .i64 x.f0) := (blk_cell hX 0).trans rfl
      have y1 : W1.cell? ⟨X, 1, none⟩ = some (.int .i64 x.f1) := (blk_cell hX 1).trans rfl
      have y2 : W1.cell? ⟨X, 2, none⟩ = some (.int .i64 x.f2) := (blk_cell hX 2).trans rfl
      have y3 : W1.cell? ⟨X, 3, none⟩ = some (.int .i64 x.f3) := (blk_cell hX 3).trans rfl
      have y4 : W1.cell? ⟨X, 4, none⟩ = some (.int .i64 x.f4) := (blk_cell hX 4).trans rfl
      have y5 : W1.cell? ⟨X, 5, none⟩ = some (.int .i64 x.f5) := (blk_cell hX 5).trans rfl
      have gl1 : g < W1.heap.size := (Array.getElem?_eq_some_iff.1 hG1).1
      have fl1 := HF1.out.lt
      have c2 : W1.cell? ⟨g, 2, none⟩ = some v2 := cell_of_row W1 g 2 _ _ _ hG1
      have gfr : W1.frozen? ⟨g, 2, none⟩ = false := frozen_of_row W1 g 2 _ _ hG1
      obtain ⟨hyx, hhy⟩ : ∃ h, h = hyp0 x := ⟨_, rfl⟩
      have hyc : ∀ W, Calls Try.prog 12 #[.agg #[.int .i64 x.f0, .int .i64 x.f1, .int .i64 x.f2, .int .i64 x.f3, .int .i64 x.f4, .int .i64 x.f5]] W fun e w' => e = .returned (.int .i64 hyx) ∧ Below W.heap.size W w' := fun W => free_Hyp.calls x.f0 x.f1 x.f2 x.f3 x.f4 x.f5 hyx W (by rw [hhy]; exact hyp0_eq x)
      have HYC := Aside0.mk hyc
      have HHY := Aside0.mk hhy
      have HG1 := Aside0.mk hG1
      clear hyc hhy hX hG1
      refine start_ (n := 12) (S := fun w' => w'.cell? ⟨g, 2, none⟩ = some v2 ∧ w'.cell? ⟨X, 0, none⟩ = some (.int .i64 x.f0) ∧ w'.cell? ⟨X, 1, none⟩ = some (.int .i64 x.f1) ∧ w'.cell? ⟨X, 2, none⟩ = some (.int .i64 x.f2) ∧ w'.cell? ⟨X, 3, none⟩ = some (.int .i64 x.f3) ∧ w'.cell? ⟨X, 4, none⟩ = some (.int .i64 x.f4) ∧ w'.cell? ⟨X, 5, none⟩ = some (.int .i64 x.f5)) (ds := [11]) #[false, false, false, false, false, false, false, false, false, false, false, false] (by kernel_rfl) rfl rfl ⟨c2, y0, y1, y2, y3, y4, y5⟩ (fun hHeld => ?_)
      refine pure_ (i := 0) (N := some 39) (v := ?_) (a' := ?_) #[true, false, false, false, false, false, false, false, false, false, false, false] rfl rfl (by kernel_rfl) (fun _ _ _ h => h) (Or.inl ⟨by rfl, ?_⟩) ?_ ?_
      rotate_left
      · intro w'
        go_simp
        with_reducible rfl
      rotate_left
      · simp only [Act.put, List.setIfInBounds_toArray, List.set_cons_zero, List.set_cons_succ, i64_w, i32_w]
        rfl
      refine pure_ (i := 1) (N := some 40) (v := ?_) (a' := ?_) #[true, true, false, false, false, false, false, false, false, false, false, false] rfl rfl (by kernel_rfl) (fun _ _ _ h => h) (Or.inl ⟨by rfl, ?_⟩) ?_ ?_
      rotate_left
      · intro w'
        go_simp
        with_reducible rfl
      rotate_left
      · simp only [Act.put, List.setIfInBounds_toArray, List.set_cons_zero, List.set_cons_succ, i64_w, i32_w]
        rfl
      refine pure_ (i := 2) (N := some 41) (v := ?_) (a' := ?_) #[true, true, true, false, false, false, false, false, false, false, false, false] rfl rfl (by kernel_rfl) (fun _ _ _ h => h) (Or.inl ⟨by rfl, ?_⟩) ?_ ?_
      rotate_left
      · intro w'
        go_simp
        with_reducible rfl
      rotate_left
      · simp only [Act.put, List.setIfInBounds_toArray, List.set_cons_zero, List.set_cons_succ, i64_w, i32_w]
        rfl
      refine pure_ (i := 3) (N := some 42) (v := ?_) (a' := ?_) #[true, true, true, true, false, false, false, false, false, false, false, false] rfl rfl (by kernel_rfl) (fun _ _ _ h => h) (Or.inl ⟨by rfl, ?_⟩) ?_ ?_
      rotate_left
      · intro w'
        go_simp
        with_reducible rfl
      rotate_left
      · simp only [Act.put, List.setIfInBounds_toArray, List.set_cons_zero, List.set_cons_succ, i64_w, i32_w]
        rfl
      refine take_ (i := 4) (N := some 43) (v := ?_) (a' := ?_) #[true, true, true, true, true, false, false, false, false, false, false, false] rfl rfl (by kernel_rfl) (fun _ _ _ h => h) (Or.inl ⟨by rfl, ?_⟩) hHeld ?_ ?_
      rotate_left
      · rintro w' ⟨s0, s1, s2, s3, s4, s5, s6⟩
        go_simp
        with_reducible rfl
      rotate_left
      · simp only [Act.put, List.setIfInBounds_toArray, List.set_cons_zero, List.set_cons_succ, i64_w, i32_w]
        rfl
      refine take_ (i := 5) (N := some 44) (v := ?_) (a' := ?_) #[true, true, true, true, true, true, false, false, false, false, false, false] rfl rfl (by kernel_rfl) (fun _ _ _ h => h) (Or.inl ⟨by rfl, ?_⟩) hHeld ?_ ?_
      rotate_left
      · rintro w' ⟨s0, s1, s2, s3, s4, s5, s6⟩
        go_simp
        with_reducible rfl
      rotate_left
      · simp only [Act.put, List.setIfInBounds_toArray, List.set_cons_zero, List.set_cons_succ, i64_w, i32_w]
        rfl
      refine one_ (i := 6) (N := some 45) #[true, true, true, true, true, true, true, false, false, false, false, false] rfl rfl (by kernel_rfl) (by decide) (fun K hK => ?_)
      refine goes_ Try.func12 (by kernel_rfl) rfl #[.agg #[.int .i64 x.f0, .int .i64 x.f1, .int .i64 x.f2, .int .i64 x.f3, .int .i64 x.f4, .int .i64 x.f5]] (by rfl) rfl rfl (by simp only [List.map_toArray, List.map_cons, List.map_nil]; rfl) ?_
      with_reducible refine (HYC.out _).mono ?_
      rintro e w3 ⟨rfl, hb3⟩
      refine ⟨_, rfl, ?_⟩
      have hb4 := (Below.refl W1.heap.size W1).drew.trans hb3
      refine hK.out _ _ ⟨pw_cell_below hb4 c2, pw_cell_below hb4 y0, pw_cell_below hb4 y1, pw_cell_below hb4 y2, pw_cell_below hb4 y3, pw_cell_below hb4 y4, pw_cell_below hb4 y5⟩ (fun hHeld => ?_)
      clear hK K
      refine norm_ (a' := ?_) ?_ ?_
      rotate_left
      · show Act.put _ (some 45) _ = _
        simp only [Act.put, List.setIfInBounds_toArray, List.set_cons_zero, List.set_cons_succ, i64_w, i32_w]
        rfl
      refine one_ (i := 7) (N := some 46) #[true, true, true, true, true, true, true, true, false, false, false, false] rfl rfl (by kernel_rfl) (by decide) (fun K hK => ?_)
      refine value_ (w1 := ?_) (v := ?_) (by rfl) rfl ?_ ?_
      rotate_left 2
      · go_simp
        constructor
        · rfl
        · rfl
      refine hK.out _ _ ⟨pw_cell_below (below_alloc hb4 _) c2, pw_cell_below (below_alloc hb4 _) y0, pw_cell_below (below_alloc hb4 _) y1, pw_cell_below (below_alloc hb4 _) y2, pw_cell_below (below_alloc hb4 _) y3, pw_cell_below (below_alloc hb4 _) y4, pw_cell_below (below_alloc hb4 _) y5⟩ (fun hHeld => ?_)
      clear hK K
      refine norm_ (a' := ?_) ?_ ?_
      rotate_left
      · show Act.put _ (some 46) _ = _
        simp only [Act.put, List.setIfInBounds_toArray, List.set_cons_zero, List.set_cons_succ, i64_w, i32_w]
        rfl
      refine one_ (i := 8) (N := some 47) #[true, true, true, true, true, true, true, true, true, false, false, false] rfl rfl (by kernel_rfl) (by decide) (fun K hK => ?_)
      refine Kd.R_append_step (Kd.int .i64) w.heap.size (by rfl) (.tmp 43) (.tmp 46) 22 2 (.int .i64 0) 8 rfl Try.underlying22 info2 rfl (by decide) (by omega) v2 (hyT xs k) hyx [.int .i64 hyx] (fun b => b ≠ g ∧ b ≠ bf) (fun _ => False) rfl (by rfl) ?aP (fun _ hk => hk.elim) ?aF (Kd.R_below HR1.out hb4) (HB1.out.trans (hb4.mono (by have := HB1.out.size; omega))) ?aS ?aL ?_
      · exact rfl
      · exact fun b hb => by have := hb4.size; omega
      · have := hb4.size; omega
      · rw [hyT_length]; omega
      intro v1 w4 ho hbw hg4 hat
      obtain ⟨A1, q1, hv1⟩ := Kd.R_slice ho
      rw [List.length_append, List.length_singleton, hyT_length] at hv1
      subst hv1
      have hk4 : ∀ b, b < W1.heap.size → some b ≠ v2.ownBlock → w4.heap[b]? = W1.heap[b]? := fun b hb hne => (hg4.block b (by have := hb4.size; omega) hne).trans (hb4.block b hb)
      refine hK.out _ _ ⟨(cell_move (hk4 g gl1 gv2) c2), (cell_move (hk4 X xl1 xv2) y0), (cell_move (hk4 X xl1 xv2) y1), (cell_move (hk4 X xl1 xv2) y2), (cell_move (hk4 X xl1 xv2) y3), (cell_move (hk4 X xl1 xv2) y4), (cell_move (hk4 X xl1 xv2) y5)⟩ (fun hHeld => ?_)
      clear hK K
      refine norm_ (a' := ?_) ?_ ?_
      rotate_left
      · show Act.put _ (some 47) _ = _
        simp only [Act.put, List.setIfInBounds_toArray, List.set_cons_zero, List.set_cons_succ, i64_w, i32_w]
        rfl
      refine pure_ (i := 9) (N := some 48) (v := ?_) (a' := ?_) #[true, true, true, true, true, true, true, true, true, true, false, false] rfl rfl (by kernel_rfl) (fun _ _ _ h => h) (Or.inl ⟨by rfl, ?_⟩) ?_ ?_
      rotate_left
      · intro w'
        go_simp
        with_reducible rfl
      rotate_left
      · simp only [Act.put, List.setIfInBounds_toArray, List.set_cons_zero, List.set_cons_succ, i64_w, i32_w]
        rfl
      refine pure_ (i := 10) (N := some 49) (v := ?_) (a' := ?_) #[true, true, true, true, true, true, true, true, true, true, true, false] rfl rfl (by kernel_rfl) (fun _ _ _ h => h) (Or.inl ⟨by rfl, ?_⟩) ?_ ?_
      rotate_left
      · intro w'
        go_simp
        with_reducible rfl
      rotate_left
      · simp only [Act.put, List.setIfInBounds_toArray, List.set_cons_zero, List.set_cons_succ, i64_w, i32_w]
        rfl
      refine last_ (i := 11) (N := none) #[true, true, true, true, true, true, true, true, true, true, true, true] rfl rfl (by kernel_rfl) (by decide) (fun K hK => ?_)
      have gc := cell_move (hk4 g gl1 gv2) c2
      have gf := (frozen_move (hk4 g gl1 gv2) gfr)
      refine skip_ (w1 := ?_) (by rfl) rfl ?_ ?_
      rotate_left
      · go_simp
        rfl
      refine hK.out _ _ ?_
      clear hK K
      refine done_ (by kernel_rfl) ?_

      have hv1e : Kd.R (Kd.int .i64) 2 (w4.setCell ⟨g, 2, none⟩ (.slice A1 (k + 1) q1)) w.heap.size (fun b => b ≠ g ∧ b ≠ bf) (.slice A1 (k + 1) q1) (hyT xs (k + 1)) := by
        simp only [hyT]
        rw [← HX.out, ← HHY.out]
        exact Kd.R_far ho (p := ⟨g, 2, none⟩) (fun b hb => hb.1) _
      have hg5 : Gs (w4.setCell ⟨g, 2, none⟩ (.slice A1 (k + 1) q1)) g ad n c0 false (.slice A1 (k + 1) q1) bf n :=
        heap_setCell_same w4 g 2 _ _ (.slice A1 (k + 1) q1) ((hk4 g gl1 gv2).trans HG1.out)
      have hf5 := (HF1.out.move (hk4 bf fl1 fv2)).other ⟨g, 2, none⟩ (.slice A1 (k + 1) q1) hgb.symm
      have hb5 := hbw.setCell (p := ⟨g, 2, none⟩) (by have := HGE.out; show w.heap.size ≤ g; omega) (.slice A1 (k + 1) q1)
      have hy5 : ∀ j v, W1.cell? ⟨X, j, none⟩ = some v → (w4.setCell ⟨g, 2, none⟩ (.slice A1 (k + 1) q1)).cell? ⟨X, j, none⟩ = some v := fun j v h => cell_move (Below.heap_setCell w4 ⟨g, 2, none⟩ _ X (by show X ≠ g; omega)) (cell_move (hk4 X xl1 xv2) h)
      have z0 := hy5 _ _ y0
      have z1 := hy5 _ _ y1
      have z2 := hy5 _ _ y2
      have z3 := hy5 _ _ y3
      have z4 := hy5 _ _ y4
      have z5 := hy5 _ _ y5
      have HR5 := Aside0.mk hv1e
      have HG5 := Aside0.mk hg5
      have HF5 := Aside0.mk hf5
      have HB5 := Aside0.mk hb5
      clear hv1e hg5 hf5 hb5 hy5 hbw hg4 hat hk4 y0 y1 y2 y3 y4 y5 c2 gfr gc gf ho hHeld hb3 hb4 HR1 HB1 HF1 HG1
      generalize w4.setCell ⟨g, 2, none⟩ (.slice A1 (k + 1) q1) = W5 at *
      go_wp2_with fail
      have qq0 := cell_regrown z0
      have qq1 := cell_regrown z1
      have qq2 := cell_regrown z2
      have qq3 := cell_regrown z3
      have qq4 := cell_regrown z4
      have qq5 := cell_regrown z5
      have k1 : ∀ d os, Calls Try.prog 12 #[.agg #[.int .i64 x.f0, .int .i64 x.f1, .int .i64 x.f2, .int .i64 x.f3, .int .i64 x.f4, .int .i64 x.f5]] (grow (redrawn W5 d) os) fun e w'' => e = .returned (.int .i64 hyx) ∧ ∃ p : Regrown, w'' = grow (redrawn W5 p.d) p.os :=
        fun d os => Calls.regrown_of (HYC.out _)
      refine wp_region_quiet_below (by kernel_rfl) (by kernel_rfl) ?_
      repeat (quiet_step (exact k1 _ _))
      refine wpQuiet_nil ?_
      rintro w5 ⟨⟨dq, osq⟩, hw5⟩
      have hb6 : Below W5.heap.size W5 w5 := hw5 ▸ below_regrown W5 dq osq
      clear hw5 k1 qq0 qq1 qq2 qq3 qq4 qq5
      go_wp2
      go_roundg (n - (k + 1))
      case measure => omega
      case rel => exact ⟨k + 1, _, by omega, Nat.le_refl _, by simp only [smH, i64_w]; rw [← HX.out, ← HHY.out], by go_num, ⟨(hb6.block g (Array.getElem?_eq_some_iff.1 HG5.out).1).trans HG5.out⟩, ⟨Kd.R_below HR5.out hb6⟩, ⟨HF5.out.below hb6⟩, ⟨HB5.out.trans (hb6.mono HB5.out.size)⟩⟩
    · have hkn : k = n := by omega
      subst hkn
      have hltz : ¬ (k : Int) < (k : Int) := by omega
      have c1 : wr.cell? ⟨g, 1, none⟩ = some (.bool false) := cell_of_row wr g 1 _ _ _ HG.out
      have f1 : wr.frozen? ⟨g, 1, none⟩ = false := frozen_of_row wr g 1 _ _ HG.out
      go_wp2_with fail
      obtain ⟨bs, cs, rfl, hbs, hrs, hrz, hcs1, hcs2⟩ := Kd.R_rowV HR.out (by rw [hyT_length]; exact hn0)
      rw [hyT_length] at hcs1
      rw [hyT_length] at HR HG
      have hcs : k ≤ cs := (Kd.R_reads' HR.out).2.1
      have hsg : bs ≠ g := (HR.out.1 bs rfl).1
      have hsf : bs ≠ bf := (HR.out.1 bs rfl).2
      obtain ⟨gr, hgr⟩ : ∃ b, b = decide (smH xs k < inner) := ⟨_, rfl⟩
      rw [← hgr]
      have hS0 : Sol w.heap.size (wr.setCell ⟨g, 1, none⟩ (.bool gr)) g bs bf ad c0 cs k xs gr (hyT xs k) (fxT gr xs 0) :=
        ⟨by rw [← HN.out]; exact heap_setCell_same wr g 1 _ _ (.bool gr) HG.out,
         fun W' h' => Kd.Heap.C heap26 (fun j hj => ((h' j hj).trans (Below.heap_setCell wr ⟨g, 1, none⟩ _ j (by have := HGE.out; show j ≠ g; omega))).trans (HB.out.block j hj)) HC.out,
         hrs.other ⟨g, 1, none⟩ _ hsg, by rw [hyT_length]; exact HN.out, by rw [HN.out] at HF; exact HF.out.other ⟨g, 1, none⟩ _ (fun e => hgb e.symm), by rw [fxT_length], by have := HGE.out; omega, hbs, hws, fun e => hsg e.symm, hgb, hsf, hrz.other ⟨g, 1, none⟩ _ hsg, ⟨by rw [← HN.out]; exact hcs1, hcs2⟩⟩
      have HS0 := Aside0.mk hS0
      have HB0 := Aside0.mk (HB.out.setCell (p := ⟨g, 1, none⟩) (by have := HGE.out; show w.heap.size ≤ g; omega) (.bool gr))
      have HGR := Aside0.mk hgr
      clear hS0 hrs hrz HR HG HF HB hgr c1 f1
      generalize wr.setCell ⟨g, 1, none⟩ (.bool gr) = W0 at *
      go_loopg [66] k (fun kq v66 wr => ∃ i : Nat, i ≤ k ∧ k - i ≤ kq ∧ v66 = .int .i64 i ∧ Aside0 (Sol w.heap.size wr g bs bf ad c0 cs k xs gr (hyT xs k) (fxT gr xs i)) ∧ Aside0 (Below w.heap.size w wr))
      case atStart => exact ⟨0, Nat.zero_le _, by omega, rfl, HS0, HB0⟩
      case round =>
        clear HS0 HB0
        obtain ⟨i, hi, hiq, rfl, HS, HB⟩ := hrel
        by_cases hlt2 : i < k
        · have hltz2 : (i : Int) < (k : Int) := by omega
          have hk0 : (0 : Int) ≤ (i : Int) := by omega
          obtain ⟨x, hx⟩ : ∃ x, x = xs.getD i z26 := ⟨_, rfl⟩
          obtain ⟨ad', ea, i0, i1, i2, i3, i4, i5⟩ := at_T26 (HS.out.items _ (fun _ _ => rfl)) (i : Int) hk0 (by have := HN.out; omega)
          have hrd : rd_T26 xs (i : Int) = x := by rw [hx]; rfl
          rw [hrd] at i0 i1 i2 i3 i4 i5
          cases ea
          have HX := Aside0.mk hx
          clear hx hrd
          rw [Int.toNat_natCast] at i0 i1 i2 i3 i4 i5
          go_wp2_with fail
          have hX := blk_new wr (.cells #[.int .i64 x.f0, .int .i64 x.f1, .int .i64 x.f2, .int .i64 x.f3, .int .i64 x.f4, .int .i64 x.f5] 26)
          have hbx : Below wr.heap.size wr (wr.alloc (.cells #[.int .i64 x.f0, .int .i64 x.f1, .int .i64 x.f2, .int .i64 x.f3, .int .i64 x.f4, .int .i64 x.f5] 26)) := (Below.refl wr.heap.size wr).alloc (Nat.le_refl _) _
          have hwl := HB.out.size
          have hgl := HS.out.lt
          have HS1 := Aside0.mk (HS.out.below hbx)
          have HB1 := Aside0.mk (HB.out.trans (hbx.mono hwl))
          have xl1 : wr.heap.size < (wr.alloc (.cells #[.int .i64 x.f0, .int .i64 x.f1, .int .i64 x.f2, .int .i64 x.f3, .int .i64 x.f4, .int .i64 x.f5] 26)).heap.size := by simp
          clear hbx HS HB i0 i1 i2 i3 i4 i5
          generalize wr.alloc (.cells #[.int .i64 x.f0, .int .i64 x.f1, .int .i64 x.f2, .int .i64 x.f3, .int .i64 x.f4, .int .i64 x.f5] 26) = W1 at *
          generalize wr.heap.size = X at *
          have y0 : W1.cell? ⟨X, 0, none⟩ = some (.int .i64 x.f0) := (blk_cell hX 0).trans rfl
          have y1 : W1.cell? ⟨X, 1, none⟩ = some (.int .i64 x.f1) := (blk_cell hX 1).trans rfl
          have y2 : W1.cell? ⟨X, 2, none⟩ = some (.int .i64 x.f2) := (blk_cell hX 2).trans rfl
          have y3 : W1.cell? ⟨X, 3, none⟩ = some (.int .i64 x.f3) := (blk_cell hX 3).trans rfl
          have y4 : W1.cell? ⟨X, 4, none⟩ = some (.int .i64 x.f4) := (blk_cell hX 4).trans rfl
          have y5 : W1.cell? ⟨X, 5, none⟩ = some (.int .i64 x.f5) := (blk_cell hX 5).trans rfl
          have q1 := HS1.out.e1
          have q3 := HS1.out.e3
          rw [← HN.out] at q3
          have qb : ∀ w3, Below W1.heap.size W1 w3 → w3.cell? ⟨g, 3, none⟩ = some (.slice (some ⟨bf, 0, none⟩) k k) := fun w3 hb => pw_cell_below hb q3
          have qf : ∀ w3, Below W1.heap.size W1 w3 → w3.frozen? ⟨bf, i, none⟩ = false := fun w3 hb => (HS1.out.below hb).rf.f i
          have qc : ∀ w3, Below W1.heap.size W1 w3 → w3.cell? ⟨bf, i, none⟩ = some (.bool ((fxT gr xs i)[i]?.getD false)) := fun w3 hb => by
            rw [← List.getD_eq_getElem?_getD]
            exact (HS1.out.below hb).rf.cell (bools_at _ i (by have := HS1.out.fzl; have := HN.out; omega))
          have QC := Aside0.mk qc
          have QB := Aside0.mk qb
          have QF := Aside0.mk qf
          have hCl := Aside0.mk (fixed_calls g gr x.f0 x.f1 x.f2 x.f3 x.f4 x.f5 W1.drew q1)
          clear hX qb qf qc q1
          generalize hfx : fx0 gr (⟨x.f0, x.f1, x.f2, x.f3, x.f4, x.f5⟩ : S26) = fx at *
          have HFX := Aside0.mk hfx
          clear hfx
          go_region_with (go_at_call 13; refine (hCl.out).mono ?_; rintro e w3 ⟨rfl, hb3⟩; have hb4 := (Below.refl W1.heap.size W1).drew.trans hb3; have q5 := QB.out _ hb4; have q6 := QF.out _ hb4; have q7 := QC.out _ hb4)
          all_goals
            go_wp2
            go_roundg (k - (i + 1))
            case measure => omega
            case rel =>
              refine ⟨i + 1, by omega, Nat.le_refl _, by go_num, ⟨?_⟩, ⟨(HB1.out.trans (hb4.mono (by have := HB1.out.size; omega))).setCell (p := ⟨bf, i, none⟩) hws _⟩⟩
              simp only [fxT]
              rw [← HX.out]
              have := (HS1.out.below hb4).setF i fx
              rw [← HFX.out] at this ⊢
              exact this
        · have hik : i = k := by omega
          subst hik
          have hltz2 : ¬ (i : Int) < (i : Int) := by omega
          have hrun : runT ks xs gr inner fu (hyT xs i) (fxT gr xs i) = some r := by have := H.out; rw [← HN.out, ← HGR.out] at this; exact this
          have HRUN := Aside0.mk hrun
          clear hrun
          go_wp2_with fail
          go_loopg [] fu (fun kq wr => ∃ (f : Nat) (sz : List Int) (fz : List Bool), f ≤ kq ∧ Aside0 (runT ks xs gr inner f sz fz = some r) ∧ Aside0 (Sol w.heap.size wr g bs bf ad c0 cs i xs gr sz fz) ∧ Aside0 (Below w.heap.size w wr))
          case atStart => exact ⟨fu, _, _, Nat.le_refl _, HRUN, HS, HB⟩
          case round =>
            clear HRUN HS HB
            obtain ⟨f, sz, fz, hfq, HRUN, HS, HB⟩ := hrel
            cases f with
            | zero => exact absurd HRUN.out (by simp [runT])
            | succ f =>
              obtain ⟨P, hP, hPl, hrest⟩ : ∃ P, unit_Share.f ks (if gr != decide (0 < accP xs sz fz inner xs.length) then 0 else accP xs sz fz inner xs.length) (wts gr xs fz xs.length) = some P ∧ P.length = xs.length ∧ (if mrT fz xs.length then runT ks xs gr inner f (szT xs fz P sz xs.length) (fzT (smT xs fz P xs.length) (wrT xs fz P xs.length) fz xs.length) else some (szT xs fz P sz xs.length)) = some r := by
                have h1 := HRUN.out
                unfold runT at h1
                split at h1
                · cases h1
                · rename_i P hP
                  split at h1
                  · rename_i hl
                    exact ⟨P, hP, hl, h1⟩
                  · cases h1
              have hT := turn_calls ks w.heap.size g bs bf ad c0 cs i xs gr sz fz inner P wr HS.out (by rw [← HN.out]; exact hn) (by rw [← HN.out]; exact hn0) hPl hP
              have HT := Aside0.mk hT
              have HREST := Aside0.mk hrest
              clear hT hP hPl hrest HRUN
              cases hm : mrT fz xs.length with
              | true =>
                have HM := Aside0.mk hm
                clear hm
                go_wp2_with fail
                refine HT.out.mono ?_
                rintro e w3 ⟨rfl, hS3, hB3⟩
                rw [HM.out]
                go_wp2
                go_roundg f
                case measure => omega
                case rel => exact ⟨f, _, _, Nat.le_refl _, ⟨by have := HREST.out; rw [HM.out] at this; exact this⟩, ⟨hS3⟩, ⟨HB.out.trans hB3⟩⟩
              | false =>
                have HM := Aside0.mk hm
                clear hm
                go_wp2_with fail
                refine HT.out.mono ?_
                rintro e w3 ⟨rfl, hS3, hB3⟩
                rw [HM.out]
                have e2 := hS3.e2
                have HS3 := Aside0.mk hS3
                clear hS3
                go_wp2
                go_ret
                have hr' : szT xs fz P sz xs.length = r := by have := HREST.out; rw [HM.out] at this; simpa using this
                have hS3 := HS3.out
                rw [hr'] at hS3
                exact ⟨_, rfl, by rw [HN.out, ← hS3.szl]; exact rowV_R hS3.rs hS3.rz (by rw [hS3.szl]; exact hS3.cb.1) hS3.cb.2 hbs, HB.out.trans hB3⟩
end Go.Proofs.Ytkokdkhpcdjihaa
