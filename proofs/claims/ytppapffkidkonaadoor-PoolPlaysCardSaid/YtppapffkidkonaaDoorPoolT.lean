import Derived.Test.YtppapffkidkonaaDoorPoolS
namespace Go.Proofs.YtppapffkidkonaaDoor
open Go.RowKit
set_option linter.unusedVariables false
set_option linter.unusedSimpArgs false

/-- The cells of handles. -/
def pC : List (Int × Int) → List Value
  | [] => []
  | p :: l => .int .i64 p.1 :: .int .i64 p.2 :: pC l
theorem pC_length : ∀ l, (pC l).length = l.length * 2
  | [] => rfl
  | p :: l => by simp [pC, pC_length l]; omega
theorem pC_one : ∀ (l : List (Int × Int)) (i : Nat) (h : i < l.length), (pC l)[i * 2]? = some (.int .i64 l[i].1)
  | p :: l, 0, _ => rfl
  | p :: l, i + 1, h => by
    have := pC_one l i (by simpa using h)
    simp only [pC, Nat.add_mul, Nat.one_mul]
    exact this
theorem pC_two : ∀ (l : List (Int × Int)) (i : Nat) (h : i < l.length), (pC l)[i * 2 + 1]? = some (.int .i64 l[i].2)
  | p :: l, 0, _ => rfl
  | p :: l, i + 1, h => by
    have := pC_two l i (by simpa using h)
    simp only [pC, Nat.add_mul, Nat.one_mul]
    exact this
theorem pC_snoc : ∀ (l : List (Int × Int)) (p : Int × Int), pC (l ++ [p]) = pC l ++ [.int .i64 p.1, .int .i64 p.2]
  | [], _ => rfl
  | q :: l, p => by simp [pC, pC_snoc l p]
/-- The cells of bools. -/
def bC (l : List Bool) : List Value := l.map .bool
theorem bC_get (l : List Bool) (i : Nat) (h : i < l.length) : (bC l)[i]? = some (.bool l[i]) := by simp [bC, h]
theorem bC_snoc (l : List Bool) (b : Bool) : bC (l ++ [b]) = bC l ++ [.bool b] := by simp [bC]
theorem bC_set (l : List Bool) (i : Nat) (b : Bool) : (bC l).set i (.bool b) = bC (l.set i b) := by simp [bC, List.map_set]

theorem row_form0 {w : World} {B : Nat} {e : TypeId} {s : Nat} {v : Value} {n : Nat} {xs : List Value} (h : w.ownsRow B e s v n xs) : ∃ A cap, v = .slice A n cap ∧ n ≤ cap := by
  rcases h.2 with ⟨rfl, k0⟩ | ⟨r, cap, cur, rfl, k3, k4, k5, _⟩
  · exact ⟨none, 0, by rw [k0], by omega⟩
  · exact ⟨_, _, rfl, k5⟩
theorem row_form1 {w : World} {B : Nat} {e : TypeId} {s n : Nat} {A : Option Addr} {m cap : Nat} {xs : List Value} (h : w.ownsRow B e s (.slice A m cap) n xs) (h0 : 0 < n) : ∃ r, A = some ⟨r, 0, none⟩ ∧ m = n ∧ n ≤ cap := by
  rcases h.2 with ⟨_, k0⟩ | ⟨r, cap', cur, e, k3, k4, k5, _⟩
  · omega
  · injection e with e1 e2 e3
    exact ⟨r, e1, e2, by rw [e3]; exact k5⟩

/-- The law's state: its pool, its row of handles, its row of bools. -/
structure Us (B : Nat) (w wr : World) (g : Nat) (M : Int) (ps : List (Int × Bool)) (taken : Int) (v va vb : Value) (all : List (Int × Int)) (th : List Bool) : Prop where
  pl : Pl B wr g v M ps taken
  ra : wr.ownsRow B 27 2 va all.length (pC all)
  rb : wr.ownsRow B 4 1 vb th.length (bC th)
  na : ∀ k, va.ownBlock = some k → k ≠ g ∧ v.ownBlock ≠ some k
  nb : ∀ k, vb.ownBlock = some k → k ≠ g ∧ v.ownBlock ≠ some k ∧ va.ownBlock ≠ some k
  below : Below B w wr
section
variable {B : Nat} {w wr wr' : World} {g : Nat} {M taken : Int} {ps : List (Int × Bool)} {v va vb : Value} {all : List (Int × Int)} {th : List Bool}
theorem Us.under (h : Us B w wr g M ps taken v va vb all th) (hb : Below wr.heap.size wr wr') (hB : B ≤ wr.heap.size) : Us B w wr' g M ps taken v va vb all th :=
  ⟨h.pl.below hb, row_move h.ra (fun k e => hb.block k (h.ra.lt k e).2), row_move h.rb (fun k e => hb.block k (h.rb.lt k e).2), h.na, h.nb, h.below.trans (hb.mono hB)⟩
theorem Us.pool (h : Us B w wr g M ps taken v va vb all th) {v' : Value} {ps' : List (Int × Bool)} {taken' : Int} (hv : ∀ k, v'.ownBlock = some k → v.ownBlock = some k ∨ wr.heap.size ≤ k) (hP : Pl B wr' g v' M ps' taken') (hk : Kp wr wr' (fun k => k = g ∨ v.ownBlock = some k)) (hB : B ≤ w.heap.size) : Us B w wr' g M ps' taken' v' va vb all th := by
  refine ⟨hP, row_move h.ra (fun k e => hk.block k (h.ra.lt k e).2 (fun hs => hs.elim (h.na k e).1 (h.na k e).2)), row_move h.rb (fun k e => hk.block k (h.rb.lt k e).2 (fun hs => hs.elim (h.nb k e).1 (h.nb k e).2.1)), fun k e => ⟨(h.na k e).1, fun e' => ?_⟩, fun k e => ⟨(h.nb k e).1, fun e' => ?_, (h.nb k e).2.2⟩, hk.toBelow h.below (fun k hs => ?_) hB⟩
  · rcases hv k e' with e2 | e2
    · exact (h.na k e).2 e2
    · have := (h.ra.lt k e).2; omega
  · rcases hv k e' with e2 | e2
    · exact (h.nb k e).2.1 e2
    · have := (h.rb.lt k e).2; omega
  · rcases hs with hs | hs
    · rw [hs]; exact h.pl.gB
    · exact (h.pl.rlt k hs).1
theorem grown_old {o : Obj} {row : Option Nat} (hgrow : (wr.alloc o).grownBy wr' row) : ∀ b, b < wr.heap.size → row ≠ some b → wr'.heap[b]? = wr.heap[b]? := by
  intro b hb hv
  refine (hgrow.block b (by simp; omega) (fun e => hv e.symm)).trans ?_
  show (wr.heap.push o)[b]? = _
  rw [Array.getElem?_push, if_neg (by omega)]
theorem grown_below {o : Obj} {row : Option Nat} (h : Below B w wr) (hr : ∀ k, row = some k → B ≤ k) (hB : B ≤ wr.heap.size) (hgrow : (wr.alloc o).grownBy wr' row) : Below B w wr' := by
  refine ⟨hgrow.os.trans h.os, hgrow.tape.trans h.tape, hgrow.output.trans h.output, ?_, fun k hk => (grown_old hgrow k (by omega) (fun e => by have := hr k e; omega)).trans (h.block k hk)⟩
  have := hgrow.size
  have := h.size
  simp at *
  omega
theorem Us.grownA (h : Us B w wr g M ps taken v va vb all th) {o : Obj} {r cap n : Nat} {p : Int × Int} (hB : B ≤ wr.heap.size) (hn : n = all.length) (hown : wr'.ownsRow B 27 2 (.slice (some ⟨r, 0, none⟩) (n + 1) cap) (n + 1) (pC all ++ [.int .i64 p.1, .int .i64 p.2])) (hgrow : (wr.alloc o).grownBy wr' va.ownBlock) (hat : va.ownBlock = some r ∨ r = wr.heap.size + 1) : Us B w wr' g M ps taken v (.slice (some ⟨r, 0, none⟩) (n + 1) cap) vb (all ++ [p]) th := by
  have old := grown_old hgrow
  have hgl := h.pl.lt
  refine ⟨h.pl.move (fun k e => ?_), ?_, row_move h.rb (fun k e => old k (h.rb.lt k e).2 (h.nb k e).2.2), fun k e => ?_, fun k e => ⟨(h.nb k e).1, (h.nb k e).2.1, fun e' => ?_⟩, grown_below h.below (fun k e => (h.ra.lt k e).1) hB hgrow⟩
  · rcases e with e | e
    · subst e; exact old _ hgl (fun e' => (h.na _ e').1 rfl)
    · exact old _ (h.pl.rlt k e).2 (fun e' => (h.na _ e').2 e)
  · rw [pC_snoc, List.length_append, List.length_singleton, ← hn]
    exact hown
  · have e : r = k := Option.some.inj e
    subst e
    rcases hat with e | e
    · exact h.na r e
    · exact ⟨by omega, fun e' => by have := (h.pl.rlt r e').2; omega⟩
  · have e' : r = k := Option.some.inj e'
    subst e'
    rcases hat with e2 | e2
    · exact (h.nb r e).2.2 e2
    · have := (h.rb.lt r e).2; omega
theorem Us.grownB (h : Us B w wr g M ps taken v va vb all th) {o : Obj} {r cap n : Nat} {b : Bool} (hB : B ≤ wr.heap.size) (hn : n = th.length) (hown : wr'.ownsRow B 4 1 (.slice (some ⟨r, 0, none⟩) (n + 1) cap) (n + 1) (bC th ++ [.bool b])) (hgrow : (wr.alloc o).grownBy wr' vb.ownBlock) (hat : vb.ownBlock = some r ∨ r = wr.heap.size + 1) : Us B w wr' g M ps taken v va (.slice (some ⟨r, 0, none⟩) (n + 1) cap) all (th ++ [b]) := by
  have old := grown_old hgrow
  have hgl := h.pl.lt
  refine ⟨h.pl.move (fun k e => ?_), row_move h.ra (fun k e => old k (h.ra.lt k e).2 (fun e' => (h.nb k e').2.2 e)), ?_, h.na, fun k e => ?_, grown_below h.below (fun k e => (h.rb.lt k e).1) hB hgrow⟩
  · rcases e with e | e
    · subst e; exact old _ hgl (fun e' => (h.nb _ e').1 rfl)
    · exact old _ (h.pl.rlt k e).2 (fun e' => (h.nb _ e').2.1 e)
  · rw [bC_snoc, List.length_append, List.length_singleton, ← hn]
    exact hown
  · have e : r = k := Option.some.inj e
    subst e
    rcases hat with e | e
    · exact h.nb r e
    · exact ⟨by omega, fun e' => by have := (h.pl.rlt r e').2; omega, fun e' => by have := (h.ra.lt r e').2; omega⟩
theorem Us.cellsA {ra cap n : Nat} (h : Us B w wr g M ps taken v (.slice (some ⟨ra, 0, none⟩) n cap) vb all th) (hn : n = all.length) (k : Nat) (hk : k < all.length) :
    wr.cell? ⟨ra, k * 2, none⟩ = some (.int .i64 all[k].1) ∧ wr.cell? ⟨ra, k * 2 + 1, none⟩ = some (.int .i64 all[k].2) := by
  have hr := h.ra
  subst hn
  exact ⟨(hr.cellAt (k * 2) (by omega)).trans (pC_one all k hk), (hr.cellAt (k * 2 + 1) (by omega)).trans (pC_two all k hk)⟩
theorem Us.cellsB {rb cap n : Nat} (h : Us B w wr g M ps taken v va (.slice (some ⟨rb, 0, none⟩) n cap) all th) (hn : n = th.length) (k : Nat) (hk : k < th.length) :
    wr.cell? ⟨rb, k, none⟩ = some (.bool th[k]) ∧ wr.frozen? ⟨rb, k, none⟩ = false := by
  have hr := h.rb
  subst hn
  exact ⟨(hr.cellAt k (by omega)).trans (bC_get th k hk), hr.frozenAt _⟩
theorem Us.setB {rb cap n : Nat} (h : Us B w wr g M ps taken v va (.slice (some ⟨rb, 0, none⟩) n cap) all th) (hn : n = th.length) (k : Nat) (b : Bool) (hB : B ≤ w.heap.size) :
    Us B w (wr.setCell ⟨rb, k, none⟩ (.bool b)) g M ps taken v va (.slice (some ⟨rb, 0, none⟩) n cap) all (th.set k b) := by
  subst hn
  have r2 := (h.rb.stored k (.bool b)).1
  rw [bC_set] at r2
  have far : ∀ c, c ≠ rb → (wr.setCell ⟨rb, k, none⟩ (.bool b)).heap[c]? = wr.heap[c]? := fun c hc => Below.heap_setCell wr ⟨rb, k, none⟩ _ c hc
  have hnb := h.nb rb rfl
  have hlt := h.rb.lt rb rfl
  refine ⟨h.pl.move (fun c e => far c (fun e' => ?_)), row_move h.ra (fun c e => far c (fun e' => hnb.2.2 (e' ▸ e))), ?_, h.na, h.nb, ?_⟩
  · subst e'
    rcases e with e | e
    · exact hnb.1 e
    · exact hnb.2.1 e
  · rw [List.length_set]; exact r2
  · exact ⟨h.below.os, h.below.tape, h.below.output, by simp only [World.setCell, Array.size_modify]; exact h.below.size, fun c hc => (far c (by omega)).trans (h.below.block c hc)⟩

theorem Us.free (h : Us B w wr g M ps taken v va vb all th) (hB : B ≤ w.heap.size) (hn : ps.length ≤ 10000) (ht0 : 0 ≤ taken) (ht1 : taken ≤ 10000) (i : Nat) (t : Int) (hp : ps[i]? = some (t, true)) :
    Calls Tryd.prog 8 #[.pointer (some ⟨g, 0, none⟩), .agg #[.int .i64 (i : Int), .int .i64 t]] wr fun e w' => e = .returned .nilIface ∧ Us B w w' g M (ps.set i (t, false)) (taken - 1) v va vb all th := by
  obtain ⟨hi, hp⟩ := List.getElem?_eq_some_iff.1 hp
  obtain ⟨r, cap, rfl, _⟩ := h.pl.form (by omega)
  exact (free_yes h.pl hn ht0 ht1 i t hi hp).mono fun e w' ⟨he, hP, hk⟩ => ⟨he, h.pool (fun k e => .inl e) hP (hk.weaken fun k hk => hk.imp id (fun e => by rw [e]; rfl)) hB⟩
theorem Us.refuse (h : Us B w wr g M ps taken v va vb all th) (he : Env w) (hBw : B = w.heap.size) (hn : ps.length ≤ 10000) (a t : Int) (ha0 : -9223372036854775808 ≤ a) (ha1 : a ≤ 9223372036854775807) (hb : hasB ps a t = false) :
    Calls Tryd.prog 8 #[.pointer (some ⟨g, 0, none⟩), .agg #[.int .i64 a, .int .i64 t]] wr fun e w' => ∃ j, e = .returned (.iface 74 (.pointer (some ⟨j, 0, none⟩))) ∧ JoinErr w' j 3 ∧ Us B w w' g M ps taken v va vb all th :=
  (free_not h.pl (he.below (by rw [← hBw]; exact h.below)) hn a t ha0 ha1 hb).mono fun e w' ⟨j, he, hj, hb⟩ => ⟨j, he, hj, h.under hb (by have := h.below.size; omega)⟩
theorem Us.take (h : Us B w wr g M ps taken v va vb all th) (hB : B ≤ w.heap.size) (hn : ps.length ≤ 10000) (hn2 : lf ps = ps.length → ps.length < 10000) (ht0 : 0 ≤ taken) (ht1 : taken ≤ 10000) (hK : (lf ps : Int) ≠ M) (hT : ∀ p ∈ ps, 0 ≤ p.1 ∧ p.1 < 4611686018427387904) :
    Calls Tryd.prog 7 #[.pointer (some ⟨g, 0, none⟩)] wr fun e w' => e = .returned (.tuple #[.agg #[.int .i64 (lf ps : Nat), .int .i64 (tkT ps)], .nilIface]) ∧ ∃ v', Us B w w' g M (tk ps) (taken + 1) v' va vb all th :=
  (take_any h.pl hn hn2 ht0 ht1 hK hT).mono fun e w' ⟨he, v', hv, hP, hk⟩ => ⟨he, v', h.pool hv hP hk hB⟩
theorem Us.full (h : Us B w wr g M ps taken v va vb all th) (he : Env w) (hBw : B = w.heap.size) (hn : ps.length ≤ 10000) (hk : (lf ps : Int) = M) :
    Calls Tryd.prog 7 #[.pointer (some ⟨g, 0, none⟩)] wr fun e w' => ∃ j, e = .returned (.tuple #[.agg #[.int .i64 0, .int .i64 0], .iface 74 (.pointer (some ⟨j, 0, none⟩))]) ∧ JoinErr w' j 2 ∧ Us B w w' g M ps taken v va vb all th :=
  (take_full h.pl (he.below (by rw [← hBw]; exact h.below)) hn hk).mono fun e w' ⟨j, he, hj, hb⟩ => ⟨j, he, hj, h.under hb (by have := h.below.size; omega)⟩
theorem Us.has (h : Us B w wr g M ps taken v va vb all th) (hB : B ≤ w.heap.size) (hn : ps.length ≤ 10000) (a t : Int) :
    Calls Tryd.prog 14 #[.pointer (some ⟨g, 0, none⟩), .agg #[.int .i64 a, .int .i64 t]] wr fun e w' => e = .returned (.bool (hasB ps a t)) ∧ Us B w w' g M ps taken v va vb all th ∧ Below wr.heap.size wr w' :=
  (has_calls h.pl hn a t).mono fun e w' ⟨he, hb⟩ => ⟨he, h.under hb (by have := h.below.size; omega), hb⟩
end
end Go.Proofs.YtppapffkidkonaaDoor
