import Derived.Test.YtppapffkidkonaaDoorPoolW
import Derived.Test.YtppapffkidkonaaDoorPoolT
namespace Go.Proofs.YtppapffkidkonaaDoor
open Go.RowKit
set_option linter.unusedVariables false
set_option linter.unusedSimpArgs false

/-- The reference's places: the program's, and those that were never taken. -/
def ext (n : Nat) (ps : List (Int × Bool)) : List (Int × Bool) := ps ++ List.replicate (n - ps.length) (0, false)
theorem ext_len {n : Nat} {ps : List (Int × Bool)} (h : ps.length ≤ n) : (ext n ps).length = n := by simp [ext]; omega
theorem ext_nil (n : Nat) : ext n [] = List.replicate n (0, false) := by simp [ext]
theorem ext_get (n : Nat) (ps : List (Int × Bool)) (i : Nat) (h : i < ps.length) : (ext n ps)[i]? = ps[i]? := by
  unfold ext; rw [List.getElem?_append_left h]
theorem ext_get2 (n : Nat) (ps : List (Int × Bool)) (i : Nat) (h : ps.length ≤ i) (hn : i < n) : (ext n ps)[i]? = some (0, false) := by
  unfold ext; rw [List.getElem?_append_right h, List.getElem?_replicate, if_pos (by omega)]
theorem cn_rep (k : Nat) : cn (List.replicate k ((0 : Int), false)) = 0 := by
  induction k with
  | zero => rfl
  | succ k ih => rw [List.replicate_succ]; simp [cn, ih]
theorem cn_app : ∀ (l m : List (Int × Bool)), cn (l ++ m) = cn l + cn m
  | [], m => by simp [cn]
  | p :: l, m => by simp only [List.cons_append, cn, cn_app l m]; omega
theorem cn_ext (n : Nat) (ps : List (Int × Bool)) : cn (ext n ps) = cn ps := by rw [ext, cn_app, cn_rep]; rfl
theorem lf_ext {n : Nat} {ps : List (Int × Bool)} (h : ps.length ≤ n) : lf (ext n ps) = lf ps := by
  have hle := lf_le ps
  by_cases hl : lf ps < ps.length
  · refine lf_eq _ _ (by rw [ext_len h]; omega) ?_ (fun i hi hik => ?_)
    · have h1 := ext_get n ps (lf ps) hl
      rw [List.getElem?_eq_getElem hl, List.getElem?_eq_getElem (by rw [ext_len h]; omega)] at h1
      rw [Option.some.inj h1]; exact lf_free ps hl
    · have hi' : i < ps.length := by omega
      have h1 := ext_get n ps i hi'
      rw [List.getElem?_eq_getElem hi', List.getElem?_eq_getElem hi] at h1
      rw [Option.some.inj h1]; exact lf_taken ps i hi' hik
  · have e : lf ps = ps.length := by omega
    by_cases hn : ps.length < n
    · refine lf_eq _ _ (by rw [ext_len h]; omega) ?_ (fun i hi hik => ?_)
      · have h1 := ext_get2 n ps (lf ps) (by omega) (by omega)
        rw [List.getElem?_eq_getElem (by rw [ext_len h]; omega)] at h1
        rw [Option.some.inj h1]
      · have hi' : i < ps.length := by omega
        have h1 := ext_get n ps i hi'
        rw [List.getElem?_eq_getElem hi', List.getElem?_eq_getElem hi] at h1
        rw [Option.some.inj h1]; exact lf_taken ps i hi' hik
    · have : ext n ps = ps := by unfold ext; rw [show n - ps.length = 0 by omega]; simp
      rw [this]
theorem hasB_ext (n : Nat) (ps : List (Int × Bool)) (a t : Int) : hasB (ext n ps) a t = hasB ps a t := by
  by_cases h0 : 0 ≤ a
  · obtain ⟨i, rfl⟩ : ∃ i : Nat, a = i := ⟨a.toNat, by omega⟩
    rw [Bool.eq_iff_iff, hasB_iff, hasB_iff]
    by_cases hi : i < ps.length
    · rw [ext_get n ps i hi]
    · constructor
      · intro h
        by_cases hn : i < n
        · rw [ext_get2 n ps i (by omega) hn] at h; simp at h
        · rw [List.getElem?_eq_none (by unfold ext; simp; omega)] at h; cases h
      · intro h
        rw [List.getElem?_eq_none (by omega)] at h; cases h
  · unfold hasB
    rw [decide_eq_false h0]; rfl
theorem ext_set (n : Nat) (ps : List (Int × Bool)) (i : Nat) (h : i < ps.length) (x : Int × Bool) : (ext n ps).set i x = ext n (ps.set i x) := by
  unfold ext; rw [List.set_append_left _ _ h, List.length_set]
theorem ext_take {n : Nat} {ps : List (Int × Bool)} (h : ps.length ≤ n) (hf : lf ps ≠ n) : (ext n ps)[lf ps]? = some (tkT ps - 1, false) ∧ (ext n ps).set (lf ps) (tkT ps, true) = ext n (tk ps) := by
  have hle := lf_le ps
  by_cases hl : lf ps < ps.length
  · constructor
    · rw [ext_get n ps _ hl]
      rcases tk_old ps with ⟨e, _⟩ | e
      · rw [List.getElem?_eq_getElem hl] at e; cases e
      · exact e
    · rw [ext_set n ps _ hl]
      unfold tk tkT
      rw [dif_pos hl, dif_pos hl]
  · have e : lf ps = ps.length := by omega
    have e1 : tkT ps = 1 := by unfold tkT; rw [dif_neg hl]
    have e2 : tk ps = ps ++ [(1, true)] := by unfold tk; rw [dif_neg hl]
    constructor
    · rw [ext_get2 n ps _ (by omega) (by omega), e1]; rfl
    · rw [e1, e2, e]
      unfold ext
      rw [List.set_append_right _ _ (Nat.le_refl _), Nat.sub_self, List.append_assoc]
      congr 1
      rw [show n - ps.length = (n - (ps ++ [((1 : Int), true)]).length) + 1 by simp; omega, List.replicate_succ]
      rfl

/-- The program's places behind some steps. -/
structure Pn (n : Nat) (ps : List (Int × Bool)) (s : Nat) : Prop where
  len : ps.length ≤ n
  lens : ps.length ≤ s
  tb : ∀ p ∈ ps, 0 ≤ p.1 ∧ p.1 ≤ (s : Int)
theorem Pn.start (n : Nat) : Pn n [] 0 := ⟨by simp, by simp, by simp⟩
theorem Pn.mono {n s s' : Nat} {ps : List (Int × Bool)} (h : Pn n ps s) (hs : s ≤ s') : Pn n ps s' := ⟨h.len, by have := h.lens; omega, fun p hp => by have := h.tb p hp; omega⟩
theorem Pn.tkT {n s : Nat} {ps : List (Int × Bool)} (h : Pn n ps s) : 1 ≤ tkT ps ∧ tkT ps ≤ (s : Int) + 1 := by
  rcases tk_old ps with ⟨_, e⟩ | e
  · rw [e]; omega
  · have := h.tb _ (List.mem_of_getElem? e)
    simp only at this
    omega
theorem Pn.take {n s : Nat} {ps : List (Int × Bool)} (h : Pn n ps s) (hM : lf ps ≠ n) : Pn n (tk ps) (s + 1) := by
  have hT := h.tkT
  refine ⟨(tk_len ps n h.len hM).1, ?_, fun p hp => ?_⟩
  · have := h.lens
    unfold tk
    split <;> simp <;> omega
  · obtain ⟨i, hi, rfl⟩ := List.mem_iff_getElem.1 hp
    have hg := tk_get ps i
    rw [List.getElem?_eq_getElem hi] at hg
    split at hg
    · injection hg with hg
      rw [hg]
      simp only
      omega
    · have := h.tb _ (List.mem_of_getElem? hg.symm)
      omega
theorem Pn.free {n s : Nat} {ps : List (Int × Bool)} (h : Pn n ps s) (i : Nat) (t : Int) (hp : ps[i]? = some (t, true)) : Pn n (ps.set i (t, false)) s := by
  refine ⟨by rw [List.length_set]; exact h.len, by rw [List.length_set]; exact h.lens, fun p hp' => ?_⟩
  rcases List.mem_or_eq_of_mem_set hp' with hp' | hp'
  · exact h.tb _ hp'
  · have := h.tb _ (List.mem_of_getElem? hp)
    rw [hp']; exact this

/-- The law's state: its pool, the reference's, its row of handles. -/
structure Ps (B : Nat) (w wr : World) (g gr r1 r2 n : Nat) (ps : List (Int × Bool)) (v va : Value) (all : List (Int × Int)) : Prop where
  pl : Pl B wr g v (n : Int) ps (cn ps : Nat)
  rp : Rp B wr gr r1 r2 n (ext n ps)
  ra : wr.ownsRow B 27 2 va all.length (pC all)
  na : ∀ k, va.ownBlock = some k → k ≠ g ∧ v.ownBlock ≠ some k ∧ k ≠ gr ∧ k ≠ r1 ∧ k ≠ r2
  np : ∀ k, (k = gr ∨ k = r1 ∨ k = r2) → k ≠ g ∧ v.ownBlock ≠ some k
  below : Below B w wr
theorem Rp.mono {B B' : Nat} {W : World} {gr r1 r2 n : Nat} {qs : List (Int × Bool)} (h : Rp B' W gr r1 r2 n qs) (hb : B ≤ B') : Rp B W gr r1 r2 n qs :=
  ⟨h.len, h.blk, h.b1, h.b2, ⟨Nat.le_trans hb h.ge.1, Nat.le_trans hb h.ge.2.1, Nat.le_trans hb h.ge.2.2⟩, h.ne⟩
/-- A block of its own beside them. -/
structure Far (B : Nat) (wr : World) (g gr r1 r2 : Nat) (v va : Value) (H : Nat) (a t : Int) : Prop where
  blk : wr.heap[H]? = some (.cells #[.int .i64 a, .int .i64 t] 27 (0, 0))
  ge : B ≤ H
  ne : H ≠ g ∧ H ≠ gr ∧ H ≠ r1 ∧ H ≠ r2 ∧ v.ownBlock ≠ some H ∧ va.ownBlock ≠ some H
section
variable {B : Nat} {w wr wr' : World} {g gr r1 r2 n : Nat} {ps : List (Int × Bool)} {v va : Value} {all : List (Int × Int)} {H : Nat} {a t : Int}
theorem Ps.under (h : Ps B w wr g gr r1 r2 n ps v va all) (hb : Below wr.heap.size wr wr') (hB : B ≤ w.heap.size) : Ps B w wr' g gr r1 r2 n ps v va all :=
  ⟨h.pl.below hb, h.rp.below hb, row_move h.ra (fun k e => hb.block k (h.ra.lt k e).2), h.na, h.np, h.below.trans (hb.mono (Nat.le_trans hB h.below.size))⟩
theorem Ps.pool (h : Ps B w wr g gr r1 r2 n ps v va all) {v' : Value} {ps' : List (Int × Bool)} (hv : ∀ k, v'.ownBlock = some k → v.ownBlock = some k ∨ wr.heap.size ≤ k) (hP : Pl B wr' g v' (n : Int) ps' (cn ps' : Nat)) (hk : Kp wr wr' (fun k => k = g ∨ v.ownBlock = some k)) (hB : B ≤ w.heap.size) :
    Rp B wr' gr r1 r2 n (ext n ps) ∧ ∀ wq, Kp wr' wq (fun k => k = r1 ∨ k = r2) → Rp B wq gr r1 r2 n (ext n ps') → Ps B w wq g gr r1 r2 n ps' v' va all := by
  have hlt := h.rp.lt
  have hna' : ∀ k, va.ownBlock = some k → v'.ownBlock ≠ some k := fun k e e' => by
    rcases hv k e' with e2 | e2
    · exact (h.na k e).2.1 e2
    · have := (h.ra.lt k e).2; omega
  have hnp' : ∀ k, (k = gr ∨ k = r1 ∨ k = r2) → v'.ownBlock ≠ some k := fun k e e' => by
    rcases hv k e' with e2 | e2
    · exact (h.np k e).2 e2
    · rcases e with rfl | rfl | rfl <;> omega
  refine ⟨h.rp.move (fun k e => hk.block k (by rcases e with rfl | rfl | rfl <;> omega) (fun hs => hs.elim (h.np k e).1 (h.np k e).2)), fun wq hq hR => ⟨?_, hR, ?_, ?_, ?_, ?_⟩⟩
  · refine hP.move (fun k e => hq.block k ?_ (fun hs => ?_))
    · rcases e with rfl | e
      · exact hP.lt
      · exact (hP.rlt k e).2
    · have hs' : k = gr ∨ k = r1 ∨ k = r2 := .inr hs
      rcases e with e | e
      · exact (h.np k hs').1 e
      · exact hnp' k hs' e
  · refine row_move h.ra (fun k e => ?_)
    have e1 := hk.block k (h.ra.lt k e).2 (fun hs => hs.elim (h.na k e).1 (h.na k e).2.1)
    refine (hq.block k ?_ (fun hs => hs.elim (h.na k e).2.2.2.1 (h.na k e).2.2.2.2)).trans e1
    have := (h.ra.lt k e).2
    have := hk.size
    omega
  · exact fun k e => ⟨(h.na k e).1, hna' k e, (h.na k e).2.2⟩
  · exact fun k e => ⟨(h.np k e).1, hnp' k e⟩
  · have b1 := hk.toBelow h.below (fun k hs => by
      rcases hs with hs | hs
      · rw [hs]; exact h.pl.gB
      · exact (h.pl.rlt k hs).1) hB
    exact hq.toBelow b1 (fun k hs => by have := h.rp.ge; rcases hs with rfl | rfl <;> omega) hB
theorem Ps.grownA (h : Ps B w wr g gr r1 r2 n ps v va all) {o : Obj} {r cap na : Nat} {p : Int × Int} (hB : B ≤ wr.heap.size) (hn : na = all.length) (hown : wr'.ownsRow B 27 2 (.slice (some ⟨r, 0, none⟩) (na + 1) cap) (na + 1) (pC all ++ [.int .i64 p.1, .int .i64 p.2])) (hgrow : (wr.alloc o).grownBy wr' va.ownBlock) (hat : va.ownBlock = some r ∨ r = wr.heap.size + 1) : Ps B w wr' g gr r1 r2 n ps v (.slice (some ⟨r, 0, none⟩) (na + 1) cap) (all ++ [p]) := by
  have old := grown_old hgrow
  have hgl := h.pl.lt
  have hlt := h.rp.lt
  refine ⟨h.pl.move (fun k e => ?_), h.rp.move (fun k e => old k (by rcases e with rfl | rfl | rfl <;> omega) (fun e' => ?_)), ?_, fun k e => ?_, h.np, grown_below h.below (fun k e => (h.ra.lt k e).1) hB hgrow⟩
  · rcases e with e | e
    · subst e; exact old _ hgl (fun e' => (h.na _ e').1 rfl)
    · exact old _ (h.pl.rlt k e).2 (fun e' => (h.na _ e').2.1 e)
  · have := (h.na k e').2.2
    rcases e with rfl | rfl | rfl
    · exact this.1 rfl
    · exact this.2.1 rfl
    · exact this.2.2 rfl
  · rw [pC_snoc, List.length_append, List.length_singleton, ← hn]
    exact hown
  · have e : r = k := Option.some.inj e
    subst e
    rcases hat with e | e
    · exact h.na r e
    · exact ⟨by omega, fun e' => by have := (h.pl.rlt r e').2; omega, by omega, by omega, by omega⟩
theorem Ps.cellsA {ra cap m : Nat} (h : Ps B w wr g gr r1 r2 n ps v (.slice (some ⟨ra, 0, none⟩) m cap) all) (hn : m = all.length) (k : Nat) (hk : k < all.length) :
    wr.cell? ⟨ra, k * 2, none⟩ = some (.int .i64 all[k].1) ∧ wr.cell? ⟨ra, k * 2 + 1, none⟩ = some (.int .i64 all[k].2) := by
  have hr := h.ra
  subst hn
  exact ⟨(hr.cellAt (k * 2) (by omega)).trans (pC_one all k hk), (hr.cellAt (k * 2 + 1) (by omega)).trans (pC_two all k hk)⟩
/-- A handle laid into the block of its own. -/
theorem Far.store (h : Far B wr g gr r1 r2 v va H a t) (a' t' : Int) : Far B ((wr.setCell ⟨H, 0, none⟩ (.int .i64 a')).setCell ⟨H, 1, none⟩ (.int .i64 t')) g gr r1 r2 v va H a' t' := by
  refine ⟨?_, h.ge, h.ne⟩
  simp [World.setCell, Array.getElem?_modify, h.blk]
theorem Ps.far (h : Ps B w wr g gr r1 r2 n ps v va all) (hf : Far B wr g gr r1 r2 v va H a t) (u u' : Value) : Ps B w ((wr.setCell ⟨H, 0, none⟩ u).setCell ⟨H, 1, none⟩ u') g gr r1 r2 n ps v va all := by
  have far : ∀ c, c ≠ H → ((wr.setCell ⟨H, 0, none⟩ u).setCell ⟨H, 1, none⟩ u').heap[c]? = wr.heap[c]? := fun c hc => (Below.heap_setCell _ ⟨H, 1, none⟩ _ c hc).trans (Below.heap_setCell wr ⟨H, 0, none⟩ _ c hc)
  obtain ⟨n1, n2, n3, n4, n5, n6⟩ := hf.ne
  refine ⟨h.pl.move (fun k e => far k (fun e' => ?_)), h.rp.move (fun k e => far k (fun e' => ?_)), row_move h.ra (fun k e => far k (fun e' => n6 (e' ▸ e))), h.na, h.np, ?_⟩
  · subst e'
    rcases e with e | e
    · exact n1 e
    · exact n5 e
  · subst e'
    rcases e with e | e | e
    · exact n2 e
    · exact n3 e
    · exact n4 e
  · refine ⟨h.below.os, h.below.tape, h.below.output, ?_, fun c hc => (far c (by have := hf.ge; omega)).trans (h.below.block c hc)⟩
    simp only [World.setCell, Array.size_modify]; exact h.below.size
theorem Far.cells {a' : Int} (h : Far B wr g gr r1 r2 v va H a t) : wr.cell? ⟨H, 0, none⟩ = some (.int .i64 a) ∧ wr.cell? ⟨H, 1, none⟩ = some (.int .i64 t) ∧ wr.frozen? ⟨H, 0, none⟩ = false ∧ wr.frozen? ⟨H, 1, none⟩ = false ∧
    (wr.setCell ⟨H, 0, none⟩ (.int .i64 a')).cell? ⟨H, 1, none⟩ = some (.int .i64 t) ∧ (wr.setCell ⟨H, 0, none⟩ (.int .i64 a')).frozen? ⟨H, 1, none⟩ = false := by
  refine ⟨?_, ?_, ?_, ?_, ?_, ?_⟩ <;> simp [World.cell?, World.frozen?, World.setCell, Array.getElem?_modify, h.blk]
theorem Far.below (h : Far B wr g gr r1 r2 v va H a t) (hb : Below wr.heap.size wr wr') : Far B wr' g gr r1 r2 v va H a t :=
  ⟨(hb.block H (Array.getElem?_eq_some_iff.1 h.blk).1).trans h.blk, h.ge, h.ne⟩
theorem Ps.newFar (h : Ps B w wr g gr r1 r2 n ps v va all) (hb : wr'.heap[wr.heap.size]? = some (.cells #[.int .i64 a, .int .i64 t] 27 (0, 0))) : Far B wr' g gr r1 r2 v va wr.heap.size a t := by
  have hlt := h.rp.lt
  have hgl := h.pl.lt
  refine ⟨hb, by have := h.pl.gB; omega, by omega, by omega, by omega, by omega, fun e => by have := (h.pl.rlt _ e).2; omega, fun e => by have := (h.ra.lt _ e).2; omega⟩

theorem Kp.fromBelow {w w1 w2 : World} {S : Nat → Prop} (hb : Below w.heap.size w w1) (hk : Kp w1 w2 S) : Kp w w2 S :=
  ⟨hk.os.trans hb.os, hk.tape.trans hb.tape, hk.output.trans hb.output, Nat.le_trans hb.size hk.size, fun k h1 h2 => (hk.block k (Nat.lt_of_lt_of_le h1 hb.size) h2).trans (hb.block k h1)⟩
theorem hasB_nat {ps : List (Int × Bool)} {a t : Int} (h : hasB ps a t = true) : ∃ i : Nat, a = (i : Int) := by
  by_cases h0 : 0 ≤ a
  · exact ⟨a.toNat, by omega⟩
  · unfold hasB at h
    rw [decide_eq_false h0] at h; cases h
theorem Far.kp (h : Far B wr g gr r1 r2 v va H a t) (hk : Kp wr wr' (fun k => k = r1 ∨ k = r2)) : Far B wr' g gr r1 r2 v va H a t :=
  ⟨(hk.block H (Array.getElem?_eq_some_iff.1 h.blk).1 (fun e => e.elim h.ne.2.2.1 h.ne.2.2.2.1)).trans h.blk, h.ge, h.ne⟩
/-- The reference's pool first, then the program's. -/
theorem Ps.ref (h : Ps B w wr g gr r1 r2 n ps v va all) {ps' : List (Int × Bool)} {wq : World} (hq : Kp wr wq (fun k => k = r1 ∨ k = r2)) (hR : Rp B wq gr r1 r2 n (ext n ps')) (hB : B ≤ w.heap.size) :
    Pl B wq g v (n : Int) ps (cn ps : Nat) ∧ Below B w wq ∧ ∀ w', Pl B w' g v (n : Int) ps' (cn ps' : Nat) → Kp wq w' (fun k => k = g ∨ v.ownBlock = some k) → Ps B w w' g gr r1 r2 n ps' v va all := by
  have hlt := h.rp.lt
  have hgl := h.pl.lt
  have hP : Pl B wq g v (n : Int) ps (cn ps : Nat) := h.pl.move (fun k e => hq.block k (by
    rcases e with rfl | e
    · exact hgl
    · exact (h.pl.rlt k e).2) (fun hs => by
    have hs' : k = gr ∨ k = r1 ∨ k = r2 := .inr hs
    rcases e with e | e
    · exact (h.np k hs').1 e
    · exact (h.np k hs').2 e))
  have hb : Below B w wq := hq.toBelow h.below (fun k hs => by have := h.rp.ge; rcases hs with rfl | rfl <;> omega) hB
  refine ⟨hP, hb, fun w' hP' hk => ⟨hP', ?_, ?_, h.na, h.np, ?_⟩⟩
  · have hs := hq.size
    exact hR.move (fun k e => hk.block k (by rcases e with rfl | rfl | rfl <;> omega) (fun hs => hs.elim (h.np k e).1 (h.np k e).2))
  · refine row_move h.ra (fun k e => ?_)
    have hl := (h.ra.lt k e).2
    have hs := hq.size
    exact (hk.block k (by omega) (fun hs => hs.elim (h.na k e).1 (h.na k e).2.1)).trans (hq.block k hl (fun hs => hs.elim (h.na k e).2.2.2.1 (h.na k e).2.2.2.2))
  · exact hk.toBelow hb (fun k hs => by
      rcases hs with hs | hs
      · rw [hs]; exact h.pl.gB
      · exact (h.pl.rlt k hs).1) hB
theorem pl_free (h : Pl B wr g v (n : Int) ps (cn ps : Nat)) (hn : ps.length ≤ 60) (i : Nat) (t : Int) (hp : ps[i]? = some (t, true)) :
    Calls Tryd.prog 8 #[.pointer (some ⟨g, 0, none⟩), .agg #[.int .i64 (i : Int), .int .i64 t]] wr fun e w' => e = .returned .nilIface ∧ Pl B w' g v (n : Int) (ps.set i (t, false)) (cn (ps.set i (t, false)) : Nat) ∧ Kp wr w' (fun k => k = g ∨ v.ownBlock = some k) := by
  have hcn := cn_le ps
  obtain ⟨hi, hp'⟩ := List.getElem?_eq_some_iff.1 hp
  have hcs := cn_set ps i hi (t, false)
  rw [hp'] at hcs
  have hq : ((cn (ps.set i (t, false)) : Nat) : Int) = (cn ps : Nat) - 1 := by simp at hcs; omega
  obtain ⟨r, cap, rfl, _⟩ := h.form (by omega)
  rw [hq]
  exact (free_yes h (by omega) (by omega) (by omega) i t hi hp').mono fun e w' ⟨he, hP, hk⟩ => ⟨he, hP, hk.weaken fun k hk => hk.imp id (fun e => by rw [e]; rfl)⟩
theorem Ps.take (h : Ps B w wr g gr r1 r2 n ps v va all) {s : Nat} (hp : Pn n ps s) (hs : s ≤ 60) (hf : lf ps ≠ n) :
    Calls Tryd.prog 7 #[.pointer (some ⟨g, 0, none⟩)] wr fun e w' => e = .returned (.tuple #[.agg #[.int .i64 (lf ps : Nat), .int .i64 (tkT ps)], .nilIface]) ∧ ∃ v', (∀ k, v'.ownBlock = some k → v.ownBlock = some k ∨ wr.heap.size ≤ k) ∧ Pl B w' g v' (n : Int) (tk ps) (cn (tk ps) : Nat) ∧ Kp wr w' (fun k => k = g ∨ v.ownBlock = some k) := by
  have hcn := cn_le ps
  have hl := hp.lens
  have hq : ((cn (tk ps) : Nat) : Int) = (cn ps : Nat) + 1 := by rw [cn_tk]; rfl
  rw [hq]
  exact take_any h.pl (by omega) (by omega) (by omega) (by omega) (by omega) (fun p hp' => by have := hp.tb p hp'; omega)
end
end Go.Proofs.YtppapffkidkonaaDoor
