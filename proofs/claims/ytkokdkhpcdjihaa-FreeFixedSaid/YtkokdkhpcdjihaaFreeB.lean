import Derived.Test.YtkokdkhpcdjihaaFreeA
import Derived.StillTailTactics
import Derived.Deep.RegionWith
namespace Go.Proofs.Ytkokdkhpcdjihaa
open Go.Sort Go.RowKit Go.Proofs.YtkokdkhpcdjihaaW.PrintWords Go.Proofs.YtkokdkhpcdjihaaW.PrintLast Go.Proofs.YtkokdkhpcdjihaaW.PrintMore
open QFree

/-- A quiet walk in the class of one world is a still walk: so the cheap step serves the head of a region that ends in a store. -/
theorem still_of_quiet {P : Program} {ops : Array Oper} {W : World} {Q : Act → Prop} : ∀ (l : List Oper) (a : Act), wpQuiet P ops (fun w' => w' = W) Q l a → wpStill P ops W Q l a
  | [], _, h => h
  | o :: rest, a, h => by
    unfold wpQuiet at h
    unfold wpStill
    split at h
    · rename_i hw
      rw [if_pos hw]
      obtain ⟨v, h1, h2⟩ := h
      have h3 := h1 W rfl
      have h4 := still_of_quiet rest _ h2
      unfold Oper.quietAt at h3
      unfold Oper.still
      generalize (execOp a.eval o).run P W = r at *
      cases r with
      | ok n w' =>
        cases n <;> simp only [Oper.quietUpon, Oper.stillUpon] at h3 ⊢
        case value u => obtain ⟨e1, rfl⟩ := h3; exact ⟨e1, h4⟩
        case skip => obtain ⟨e1, rfl⟩ := h3; exact ⟨e1, h4⟩
        case enter f args => exact ⟨h3.1, v, h3.2, h4⟩
      | halt x w' => simp only [Oper.quietUpon] at h3
    · rename_i hw
      rw [if_neg hw]
      exact still_of_quiet rest _ h
theorem wp_region_quiet_tail {P : Program} {id : Nat} {Q : Exit → Act → World → Prop} {a : Act} {w : World} {l : List Oper} (n : Nat) (hm : P.follows .mixedOrders = true) (hB : Region.lexTailB .any l.toArray n = true)
    (h : wpQuiet P l.toArray (fun w' => w' = w.drew) (fun a' => wpList P l.toArray Q (l.drop n) a' w.drew) (l.take n) a) : (Code.region id l.toArray true).wp P Q a w :=
  wp_region_still_tail n hm hB (still_of_quiet _ _ h)

def tN (x : S26) (p : Int) : Int := wrap64 (x.f0 + p)
def szT (xs : List S26) (fz : List Bool) (P sz : List Int) : Nat → List Int
  | 0 => sz
  | i + 1 => if fz.getD i false then szT xs fz P sz i else (szT xs fz P sz i).set i (clamp0 (xs.getD i z26) (tN (xs.getD i z26) (P.getD i 0)))
def wrT (xs : List S26) (fz : List Bool) (P : List Int) : Nat → List Int
  | 0 => List.replicate xs.length 0
  | i + 1 => if fz.getD i false then wrT xs fz P i else (wrT xs fz P i).set i (wrap64 (clamp0 (xs.getD i z26) (tN (xs.getD i z26) (P.getD i 0)) - tN (xs.getD i z26) (P.getD i 0)))
def smT (xs : List S26) (fz : List Bool) (P : List Int) : Nat → Int
  | 0 => 0
  | i + 1 => if fz.getD i false then smT xs fz P i else wrap64 (smT xs fz P i + wrap64 (clamp0 (xs.getD i z26) (tN (xs.getD i z26) (P.getD i 0)) - tN (xs.getD i z26) (P.getD i 0)))
def mrT (fz : List Bool) : Nat → Bool
  | 0 => false
  | i + 1 => if fz.getD i false then mrT fz i else true
def fzN (s w : Int) (f : Bool) : Bool := f || decide (s = 0) || (decide (s > 0) && decide (w > 0)) || (decide (s < 0) && decide (w < 0))
def fzT (s : Int) (wr : List Int) (fz : List Bool) : Nat → List Bool
  | 0 => fz
  | i + 1 => (fzT s wr fz i).set i (fzN s (wr.getD i 0) (fz.getD i false))
theorem szT_length (xs : List S26) (fz : List Bool) (P sz : List Int) (i : Nat) : (szT xs fz P sz i).length = sz.length := by
  induction i with
  | zero => rfl
  | succ i ih => simp only [szT]; split <;> simp [ih]
theorem wrT_length (xs : List S26) (fz : List Bool) (P : List Int) (i : Nat) : (wrT xs fz P i).length = xs.length := by
  induction i with
  | zero => simp [wrT]
  | succ i ih => simp only [wrT]; split <;> simp [ih]
theorem fzT_length (s : Int) (wr : List Int) (fz : List Bool) (i : Nat) : (fzT s wr fz i).length = fz.length := by
  induction i with
  | zero => rfl
  | succ i ih => simp only [fzT]; simp [ih]
theorem fzT_same (s : Int) (wr : List Int) (fz : List Bool) (i j : Nat) (h : i ≤ j) : (fzT s wr fz i).getD j false = fz.getD j false := by
  induction i with
  | zero => rfl
  | succ i ih =>
    have := ih (by omega)
    simp only [fzT, List.getD_eq_getElem?_getD] at this ⊢
    rw [List.getElem?_set_ne (by omega)]; exact this
theorem Kd.R_rowV {W : World} {base : Nat} {ok : Nat → Prop} {v : Value} {r : List Int} (h : Kd.R (Kd.int .i64) 2 W base ok v r) (hn : 0 < r.length) : ∃ b c, v = .slice (some ⟨b, 0, none⟩) r.length c ∧ base ≤ b ∧ RowV W b 2 (ints r) ∧ RowC W b 2 c ∧ r.length ≤ c ∧ c ≤ maxLen := by
  obtain ⟨_, inner, ho, hr⟩ := h
  rcases ho.2 with ⟨_, h0⟩ | ⟨g, cap, cur, rfl, hg, hh, hnc, hcm, hcs, ht⟩
  · omega
  · refine ⟨g, cap, rfl, hg, ⟨cur, hh, fun j v hj => ?_⟩, ⟨cur, hh, by rw [hcs]; exact Nat.mul_one _⟩, hnc, hcm⟩
    have h1 : j < r.length := by
      have := (List.getElem?_eq_some_iff.1 hj).1
      simpa [ints] using this
    have h2 : v = .int .i64 r[j] := by
      simp [ints, h1] at hj; exact hj.symm
    have h3 := hr.2 j r[j] (by simp [h1])
    have h4 : inner[j]? = some v := by
      have h5 : ((inner.drop (j * 1)).take 1) = [.int .i64 r[j]] := h3
      have h6 : ((inner.drop (j * 1)).take 1)[0]? = some (.int .i64 r[j]) := by rw [h5]; rfl
      rw [List.getElem?_take, List.getElem?_drop] at h6
      simpa [h2] using h6
    rw [← ht] at h4
    rw [List.getElem?_take] at h4
    split at h4
    · simpa using h4
    · cases h4

set_option maxHeartbeats 4000000 in
set_option maxRecDepth 100000 in
theorem turn_calls (ks m : Nat) (g bs bf : Nat) (ad : Addr) (c0 cs cf : Nat) (xs : List S26) (gr : Bool) (sz : List Int) (fz : List Bool) (inner : Int) (P : List Int) (w : World)
    (hs : Sol m w g bs bf ad c0 cs cf xs gr sz fz) (hn : xs.length ≤ 1000) (hn0 : 0 < xs.length) (hP : P.length = xs.length)
    (h : unit_Share.f ks (if gr != decide (0 < accP xs sz fz inner xs.length) then 0 else accP xs sz fz inner xs.length) (wts gr xs fz xs.length) = some P) :
    Calls Try.prog 14 #[.pointer (some ⟨g, 0, none⟩), .int .i64 inner] w fun e w' => e = .returned (.bool (mrT fz xs.length)) ∧ Sol m w' g bs bf ad c0 cs cf xs gr (szT xs fz P sz xs.length) (fzT (smT xs fz P xs.length) (wrT xs fz P xs.length) fz xs.length) ∧ Below m w w' := by
  have H := Aside0.mk h
  have S := Aside0.mk hs
  have hP1 := Aside0.mk hP
  clear h hP
  have hg := hs.lt
  have hbs := hs.rs.lt
  have hbf := hs.rf.lt
  clear hs
  obtain ⟨n, hN⟩ : ∃ n, n = xs.length := ⟨_, rfl⟩
  have HN := Aside0.mk hN
  rw [← hN] at hn hn0 ⊢
  clear hN
  go_enter Try.func14, Try.ntmps14
  go_wp2_with fail
  refine (parts_calls ks m g bs bf ad c0 cs cf xs gr sz fz inner P _ S.out (by rw [← HN.out]; exact hn) H.out).mono ?_
  rintro e w1 ⟨v0, rfl, ho, hb1⟩
  obtain ⟨bp, cp, rfl, hbp, hRP, _⟩ := Kd.R_rowV ho (by rw [hP1.out, ← HN.out]; exact hn0)
  rw [hP1.out, ← HN.out]
  have RP := Aside0.mk hRP
  have S1 := Aside0.mk (S.out.below hb1)
  have hsz := hb1.size
  have hbpl := hRP.lt
  have B1 : Aside0 (Below m w w1) := ⟨hb1.mono (by have := S.out.mg; omega)⟩
  clear hb1 ho hRP H
  have e0 := S1.out.e0
  have e0a := (S1.out.below ((Below.refl w1.heap.size w1).alloc (Nat.le_refl _) (.cells (madeCells #[.int .i64 0] n) 2))).e0
  rw [← HN.out] at e0 e0a
  have hmk := run_make_row' (P := Try.prog) 22 2 (.int .i64 0) 8 Try.underlying22 info2 rfl .i64 .i64 n (by omega) (by omega)
  go_wp2
  go_loopg [7, 8, 27] n (fun kq v7 v8 v27 wr => ∃ k : Nat, k ≤ n ∧ n - k ≤ kq ∧ v7 = .int .i64 (smT xs fz P k) ∧ v8 = .bool (mrT fz k) ∧ v27 = .int .i64 k ∧ Aside0 (Sol m wr g bs bf ad c0 cs cf xs gr (szT xs fz P sz k) fz) ∧ Aside0 (RowV wr bp 2 (ints P)) ∧ Aside0 (RowV wr w1.heap.size 2 (ints (wrT xs fz P k))) ∧ Aside0 (Below m w wr))
  case atStart =>
    refine ⟨0, Nat.zero_le _, by omega, rfl, rfl, rfl, ⟨S1.out.below ((Below.refl _ _).alloc (Nat.le_refl _) _)⟩, ⟨RP.out.alloc _⟩, ⟨⟨_, blk_new _ _, fun j v hj => ?_⟩⟩, ⟨B1.out.alloc (by have := S1.out.mg; have := S1.out.lt; omega) _⟩⟩
    rw [← Array.getElem?_toList, toList_madeCells_one]
    simpa [ints, wrT, HN.out] using hj
  case round =>
    obtain ⟨k, hk, hkq, rfl, rfl, rfl, HS, HP, HW, HB⟩ := hrel
    clear S1 RP B1 e0 e0a hmk S
    by_cases hlt : k < n
    · have hltz : (k : Int) < (n : Int) := by omega
      have hk0 : (0 : Int) ≤ (k : Int) := by omega
      obtain ⟨x, hx⟩ : ∃ x, x = xs.getD k z26 := ⟨_, rfl⟩
      obtain ⟨ad', ea, i0, i1, i2, i3, i4, i5⟩ := at_T26 (HS.out.items _ (fun _ _ => rfl)) (k : Int) hk0 (by have := HN.out; omega)
      have hrd : rd_T26 xs (k : Int) = x := by rw [hx]; rfl
      rw [hrd] at i0 i1 i2 i3 i4 i5
      cases ea
      have HX := Aside0.mk hx
      clear hx hrd
      rw [Int.toNat_natCast] at i0 i1 i2 i3 i4 i5
      have o3 := (HS.out.below ((Below.refl wr.heap.size wr).alloc (Nat.le_refl _) (.cells #[.int .i64 x.f0, .int .i64 x.f1, .int .i64 x.f2, .int .i64 x.f3, .int .i64 x.f4, .int .i64 x.f5] 26))).e3
      have o5 := (HS.out.below ((Below.refl wr.heap.size wr).alloc (Nat.le_refl _) (.cells #[.int .i64 x.f0, .int .i64 x.f1, .int .i64 x.f2, .int .i64 x.f3, .int .i64 x.f4, .int .i64 x.f5] 26))).rf.cell (bools_at fz k (by have := HS.out.fzl; have := HN.out; omega))
      rw [← HN.out] at o3
      cases hf : fz.getD k false with
      | true =>
        rw [hf] at o5
        have HF := Aside0.mk hf
        clear hf
        go_wp2
        go_roundg (n - (k + 1))
        case measure => omega
        case rel => exact ⟨k + 1, by omega, Nat.le_refl _, by simp only [smT]; rw [if_pos HF.out], by simp only [mrT]; rw [if_pos HF.out], by go_num, ⟨by simp only [szT]; rw [if_pos HF.out]; exact HS.out.below ((Below.refl wr.heap.size wr).alloc (Nat.le_refl _) _)⟩, ⟨HP.out.alloc _⟩, ⟨by simp only [wrT]; rw [if_pos HF.out]; exact HW.out.alloc _⟩, ⟨HB.out.alloc (by have := HS.out.mg; have := HS.out.lt; omega) _⟩⟩
      | false =>
        rw [hf] at o5
        have HF := Aside0.mk hf
        clear hf
        go_wp2_with fail
        have hX := blk_new wr (.cells #[.int .i64 x.f0, .int .i64 x.f1, .int .i64 x.f2, .int .i64 x.f3, .int .i64 x.f4, .int .i64 x.f5] 26)
        have hbx : Below wr.heap.size wr (wr.alloc (.cells #[.int .i64 x.f0, .int .i64 x.f1, .int .i64 x.f2, .int .i64 x.f3, .int .i64 x.f4, .int .i64 x.f5] 26)) := (Below.refl wr.heap.size wr).alloc (Nat.le_refl _) _
        have hg2 := HS.out.lt
        have hmg := HS.out.mg
        have hms := HS.out.ms
        have hs2 := HS.out.rs.lt
        have hf2 := HS.out.rf.lt
        have hw2 := HW.out.lt
        have HSx := Aside0.mk (HS.out.below hbx)
        have HPx := Aside0.mk (HP.out.below hbx)
        have HWx := Aside0.mk (HW.out.below hbx)
        have HBx := Aside0.mk (HB.out.trans (hbx.mono (Nat.le_trans hmg (Nat.le_of_lt hg2))))
        have hxs : wr.heap.size < (wr.alloc (.cells #[.int .i64 x.f0, .int .i64 x.f1, .int .i64 x.f2, .int .i64 x.f3, .int .i64 x.f4, .int .i64 x.f5] 26)).heap.size := by simp
        clear hbx HS HP HW HB i0 i1 i2 i3 i4 i5 o3 o5
        generalize wr.alloc (.cells #[.int .i64 x.f0, .int .i64 x.f1, .int .i64 x.f2, .int .i64 x.f3, .int .i64 x.f4, .int .i64 x.f5] 26) = W1 at *
        generalize wr.heap.size = X at *
        have x0 : W1.cell? ⟨X, 0, none⟩ = some (.int .i64 x.f0) := (blk_cell hX 0).trans rfl
        have x1 : W1.cell? ⟨X, 1, none⟩ = some (.int .i64 x.f1) := (blk_cell hX 1).trans rfl
        have x2 : W1.cell? ⟨X, 2, none⟩ = some (.int .i64 x.f2) := (blk_cell hX 2).trans rfl
        have x3 : W1.cell? ⟨X, 3, none⟩ = some (.int .i64 x.f3) := (blk_cell hX 3).trans rfl
        have x4 : W1.cell? ⟨X, 4, none⟩ = some (.int .i64 x.f4) := (blk_cell hX 4).trans rfl
        have x5 : W1.cell? ⟨X, 5, none⟩ = some (.int .i64 x.f5) := (blk_cell hX 5).trans rfl
        have p0 := HPx.out.cell (ints_at P k (by have := hP1.out; have := HN.out; omega))
        obtain ⟨pk, hpk⟩ : ∃ p, p = P.getD k 0 := ⟨_, rfl⟩
        rw [← hpk] at p0
        have HPK := Aside0.mk hpk
        clear hpk
        go_quiet (fail)
        go_wp2_with fail
        have q0 := HSx.out.e2
        rw [← HN.out] at q0
        have hCl := Aside0.mk (fun W => (free_clamp.calls x.f0 x.f1 x.f2 x.f3 x.f4 x.f5 (wrap64 (x.f0 + pk)) (clamp0 x (wrap64 (x.f0 + pk))) W (clamp0_eq x _)))
        clear hX p0
        generalize hW2 : W1.drewN _ = W2 at *
        have hh2 : W2.heap = W1.heap := by rw [← hW2]; rfl
        have HS2 := Aside0.mk (HSx.out.move (fun k _ => by rw [hh2]) : Sol m W2 g bs bf ad c0 cs cf xs gr (szT xs fz P sz k) fz)
        have y0 : W2.cell? ⟨X, 0, none⟩ = some (.int .i64 x.f0) := by rw [← hW2]; exact x0
        have y1 : W2.cell? ⟨X, 1, none⟩ = some (.int .i64 x.f1) := by rw [← hW2]; exact x1
        have y2 : W2.cell? ⟨X, 2, none⟩ = some (.int .i64 x.f2) := by rw [← hW2]; exact x2
        have y3 : W2.cell? ⟨X, 3, none⟩ = some (.int .i64 x.f3) := by rw [← hW2]; exact x3
        have y4 : W2.cell? ⟨X, 4, none⟩ = some (.int .i64 x.f4) := by rw [← hW2]; exact x4
        have y5 : W2.cell? ⟨X, 5, none⟩ = some (.int .i64 x.f5) := by rw [← hW2]; exact x5
        have q2 : W2.cell? ⟨g, 2, none⟩ = some (.slice (some ⟨bs, 0, none⟩) n cs) := by rw [← hW2]; exact q0
        have qb : ∀ w3, Below W2.heap.size W2 w3 → w3.cell? ⟨g, 2, none⟩ = some (.slice (some ⟨bs, 0, none⟩) n cs) := fun w3 hb => pw_cell_below hb q2
        have qf : ∀ w3, Below W2.heap.size W2 w3 → w3.frozen? ⟨bs, k, none⟩ = false := fun w3 hb => (HS2.out.below hb).rs.f k
        have qc : ∀ w3, Below W2.heap.size W2 w3 → w3.cell? ⟨bs, k, none⟩ = some (.int .i64 ((szT xs fz P sz k)[k]?.getD 0)) := fun w3 hb => by
          rw [← List.getD_eq_getElem?_getD]
          exact (HS2.out.below hb).rs.cell (ints_at _ k (by have := HS2.out.szl; have := HN.out; omega))
        have QC := Aside0.mk qc
        have QB := Aside0.mk qb
        have QF := Aside0.mk qf
        have HB2 := Aside0.mk (show Below W1.heap.size W1 W2 from ⟨by rw [← hW2]; rfl, by rw [← hW2]; rfl, by rw [← hW2]; rfl, by rw [hh2]; exact Nat.le_refl _, fun _ _ => by rw [hh2]⟩)
        clear qb qf qc hW2 hh2 x0 x1 x2 x3 x4 x5 q0
        have hkb : k < (szT xs fz P sz k).length := by rw [szT_length]; have := HS2.out.szl; rw [szT_length] at this; have := HN.out; omega
        have hkw : k < (wrT xs fz P k).length := by rw [wrT_length]; have := HN.out; omega
        generalize hcl : clamp0 x (wrap64 (x.f0 + pk)) = cl at *
        have HCL := Aside0.mk hcl
        clear hcl
        go_region_with (go_at_call 19; refine (hCl.out _).mono ?_; rintro e w3 ⟨rfl, hb3⟩; have hb4 := (Below.refl W2.heap.size W2).drew.trans hb3; have q3 := QB.out _ hb4; have q4 := QF.out _ hb4; have q5 := QC.out _ hb4)
        all_goals
          have hS4 := (HS2.out.below hb4).setS k cl
          have hb5 := HB2.out.trans (hb4.mono (by have := HB2.out.size; omega))
          have hP4 := (HPx.out.below hb5).other ⟨bs, k, none⟩ (.int .i64 cl) (by show bp ≠ bs; omega)
          have hW4 := (HWx.out.below hb5).other ⟨bs, k, none⟩ (.int .i64 cl) (by show w1.heap.size ≠ bs; omega)
          have hB4 := (HBx.out.trans (hb5.mono (by omega))).setCell (p := ⟨bs, k, none⟩) hms (.int .i64 cl)
          clear hb3 hb4 hb5 q3 q4 q5 q2 y0 y1 y2 y3 y4 y5
          generalize hWW : w3.setCell ⟨bs, k, none⟩ (.int .i64 cl) = W4 at *
          have z1 := hS4.e2
          rw [← HN.out] at z1
          have z2 : W4.cell? ⟨bs, k, none⟩ = some (.int .i64 cl) := by
            have := hS4.rs.cell (ints_at _ k (by rw [List.length_set]; exact hkb))
            simpa [hkb] using this
          have z3 := hW4.f k
          have z4 := hW4.cell (ints_at _ k hkw)
          rw [List.getD_eq_getElem?_getD] at z4
          clear hWW
          go_wp2_with fail
          go_roundg (n - (k + 1))
          case measure => omega
          case rel =>
            refine ⟨k + 1, by omega, Nat.le_refl _, ?_, ?_, by go_num, ⟨?_⟩, ⟨hP4.other ⟨w1.heap.size, k, none⟩ _ (by show bp ≠ w1.heap.size; omega)⟩, ⟨?_⟩, ⟨hB4.setCell (p := ⟨w1.heap.size, k, none⟩) (by show m ≤ w1.heap.size; omega) _⟩⟩
            · simp only [smT]; rw [if_neg (by rw [HF.out]; decide), ← HX.out, ← HPK.out]; simp only [tN]; rw [HCL.out]
            · simp only [mrT]; rw [if_neg (by rw [HF.out]; decide)]
            · simp only [szT]; rw [if_neg (by rw [HF.out]; decide), ← HX.out, ← HPK.out]; simp only [tN]; rw [HCL.out]
              exact hS4.other ⟨w1.heap.size, k, none⟩ _ (by show m ≤ w1.heap.size; omega) (by show w1.heap.size ≠ g; omega) (by show w1.heap.size ≠ bs; omega) (by show w1.heap.size ≠ bf; omega)
            · simp only [wrT]; rw [if_neg (by rw [HF.out]; decide), ← HX.out, ← HPK.out]; simp only [tN]; rw [HCL.out, ← ints_set]
              exact hW4.set k _
    · have hkn : k = n := by omega
      subst hkn
      have hltz : ¬ (k : Int) < (k : Int) := by omega
      have e0 := HS.out.e0
      rw [← HN.out] at e0
      obtain ⟨s, hs⟩ : ∃ s, s = smT xs fz P k := ⟨_, rfl⟩
      have HSM := Aside0.mk hs
      rw [← hs]
      clear hs
      go_wp2
      go_loopg [79] k (fun kq v79 wr => ∃ i : Nat, i ≤ k ∧ k - i ≤ kq ∧ v79 = .int .i64 i ∧ Aside0 (Sol m wr g bs bf ad c0 cs cf xs gr (szT xs fz P sz k) (fzT s (wrT xs fz P k) fz i)) ∧ Aside0 (RowV wr w1.heap.size 2 (ints (wrT xs fz P k))) ∧ Aside0 (Below m w wr))
      case atStart => exact ⟨0, Nat.zero_le _, by omega, rfl, HS, HW, HB⟩
      case round =>
        clear HS HP HW HB e0
        obtain ⟨i, hi, hiq, rfl, HS, HW, HB⟩ := hrel
        by_cases hlt2 : i < k
        · have hltz2 : (i : Int) < (k : Int) := by omega
          have t3 := HS.out.e3
          rw [← HN.out] at t3
          have ti := HS.out.rf.cell (bools_at _ i (by rw [fzT_length]; have := HS.out.fzl; rw [fzT_length] at this; have := HN.out; omega))
          rw [fzT_same _ _ _ _ _ (Nat.le_refl i)] at ti
          have tf := HS.out.rf.f i
          have tw := HW.out.cell (ints_at _ i (by rw [wrT_length]; have := HN.out; omega))
          obtain ⟨f, hf⟩ : ∃ f, f = fz.getD i false := ⟨_, rfl⟩
          obtain ⟨v, hv⟩ : ∃ v, v = (wrT xs fz P k).getD i 0 := ⟨_, rfl⟩
          rw [← hf] at ti
          rw [← hv] at tw
          have HF := Aside0.mk hf
          have HV := Aside0.mk hv
          clear hf hv
          have fin : ∀ u : Bool, u = fzN s v f → Sol m (wr.setCell ⟨bf, i, none⟩ (.bool u)) g bs bf ad c0 cs cf xs gr (szT xs fz P sz k) (fzT s (wrT xs fz P k) fz (i + 1)) := by
            rintro u rfl
            simp only [fzT]
            rw [← HF.out, ← HV.out]
            exact HS.out.setF i _
          have FIN := Aside0.mk fin
          have hmf := HS.out.mf
          have hwb : w1.heap.size ≠ bf := by have := HS.out.rf.lt; omega
          clear fin
          cases f with
          | true =>
            go_wp2_with fail
            refine wp_region_quiet_tail 39 (by kernel_rfl) (by kernel_rfl) ?_
            simp only [List.take_succ_cons, List.take_zero, List.drop_succ_cons, List.drop_zero]
            repeat (go_big_quiet_step (fail))
            refine wpQuiet_nil ?_
            go_wp2
            go_roundg (k - (i + 1))
            case measure => omega
            case rel => exact ⟨i + 1, by omega, Nat.le_refl _, by go_num, ⟨(FIN.out _ (by simp [fzN])).move (fun _ _ => rfl)⟩, ⟨(HW.out.other ⟨bf, i, none⟩ _ hwb).move rfl⟩, ⟨(HB.out.setCell (p := ⟨bf, i, none⟩) hmf _).drew⟩⟩
          | false =>
            by_cases h0 : s = 0
            · subst h0
              go_wp2_with fail
              refine wp_region_quiet_tail 39 (by kernel_rfl) (by kernel_rfl) ?_
              simp only [List.take_succ_cons, List.take_zero, List.drop_succ_cons, List.drop_zero]
              repeat (go_big_quiet_step (fail))
              refine wpQuiet_nil ?_
              go_wp2
              go_roundg (k - (i + 1))
              case measure => omega
              case rel => exact ⟨i + 1, by omega, Nat.le_refl _, by go_num, ⟨(FIN.out _ (by simp [fzN])).move (fun _ _ => rfl)⟩, ⟨(HW.out.other ⟨bf, i, none⟩ _ hwb).move rfl⟩, ⟨(HB.out.setCell (p := ⟨bf, i, none⟩) hmf _).drew⟩⟩
            · have h0b : (s == 0) = false := beq_eq_false_iff_ne.2 h0
              by_cases h1 : 0 < s
              · have h1b : decide (0 < s) = true := decide_eq_true h1
                by_cases h3 : 0 < v
                · have h3b : decide (0 < v) = true := decide_eq_true h3
                  go_wp2_with fail
                  refine wp_region_quiet_tail 39 (by kernel_rfl) (by kernel_rfl) ?_
                  simp only [List.take_succ_cons, List.take_zero, List.drop_succ_cons, List.drop_zero]
                  repeat (go_big_quiet_step (fail))
                  refine wpQuiet_nil ?_
                  go_wp2
                  go_roundg (k - (i + 1))
                  case measure => omega
                  case rel => exact ⟨i + 1, by omega, Nat.le_refl _, by go_num, ⟨(FIN.out _ (by simp [fzN, h0, h1, h3])).move (fun _ _ => rfl)⟩, ⟨(HW.out.other ⟨bf, i, none⟩ _ hwb).move rfl⟩, ⟨(HB.out.setCell (p := ⟨bf, i, none⟩) hmf _).drew⟩⟩
                · have h3b : decide (0 < v) = false := decide_eq_false h3
                  have h4b : decide (s < 0) = false := decide_eq_false (by omega)
                  go_wp2_with fail
                  refine wp_region_quiet_tail 39 (by kernel_rfl) (by kernel_rfl) ?_
                  simp only [List.take_succ_cons, List.take_zero, List.drop_succ_cons, List.drop_zero]
                  repeat (go_big_quiet_step (fail))
                  refine wpQuiet_nil ?_
                  go_wp2
                  go_roundg (k - (i + 1))
                  case measure => omega
                  case rel => exact ⟨i + 1, by omega, Nat.le_refl _, by go_num, ⟨(FIN.out _ (by simp [fzN]; omega)).move (fun _ _ => rfl)⟩, ⟨(HW.out.other ⟨bf, i, none⟩ _ hwb).move rfl⟩, ⟨(HB.out.setCell (p := ⟨bf, i, none⟩) hmf _).drew⟩⟩
              · have h1b : decide (0 < s) = false := decide_eq_false h1
                have h2 : s < 0 := by omega
                have h2b : decide (s < 0) = true := decide_eq_true h2
                go_wp2_with fail
                refine wp_region_quiet_tail 39 (by kernel_rfl) (by kernel_rfl) ?_
                simp only [List.take_succ_cons, List.take_zero, List.drop_succ_cons, List.drop_zero]
                repeat (go_big_quiet_step (fail))
                refine wpQuiet_nil ?_
                go_wp2
                go_roundg (k - (i + 1))
                case measure => omega
                case rel => exact ⟨i + 1, by omega, Nat.le_refl _, by go_num, ⟨(FIN.out _ (by simp [fzN, h0, h2]; intros; omega)).move (fun _ _ => rfl)⟩, ⟨(HW.out.other ⟨bf, i, none⟩ _ hwb).move rfl⟩, ⟨(HB.out.setCell (p := ⟨bf, i, none⟩) hmf _).drew⟩⟩
        · have hik : i = k := by omega
          subst hik
          have hltz2 : ¬ (i : Int) < (i : Int) := by omega
          go_wp2
          go_ret
          exact ⟨rfl, by have := HS.out; rw [HSM.out] at this; exact this, HB.out⟩
end Go.Proofs.Ytkokdkhpcdjihaa
