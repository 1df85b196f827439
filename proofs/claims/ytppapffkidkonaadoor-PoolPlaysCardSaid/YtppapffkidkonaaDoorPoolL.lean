import Derived.Test.YtppapffkidkonaaDoorPoolK
import Derived.LoopTactic
namespace Go.Proofs.YtppapffkidkonaaDoor
open Go.RowKit
set_option linter.unusedVariables false
set_option linter.unusedSimpArgs false

/-- The cells of handles: places from i on, their turns. -/
def hC (i : Nat) : List Int → List Value
  | [] => []
  | t :: l => .int .i64 (i : Int) :: .int .i64 t :: hC (i + 1) l
theorem hC_length : ∀ (l : List Int) i, (hC i l).length = l.length * 2
  | [], _ => rfl
  | t :: l, i => by simp [hC, hC_length l]; omega
theorem hC_place : ∀ (l : List Int) (i k : Nat) (h : k < l.length), (hC i l)[k * 2]? = some (.int .i64 ((i + k : Nat) : Int))
  | t :: l, i, 0, _ => rfl
  | t :: l, i, k + 1, h => by
    have := hC_place l (i + 1) k (by simpa using h)
    simp only [hC, Nat.add_mul, Nat.one_mul]
    rw [show i + (k + 1) = i + 1 + k by omega]
    exact this
theorem hC_turn : ∀ (l : List Int) (i k : Nat) (h : k < l.length), (hC i l)[k * 2 + 1]? = some (.int .i64 l[k])
  | t :: l, i, 0, _ => rfl
  | t :: l, i, k + 1, h => by
    have := hC_turn l (i + 1) k (by simpa using h)
    simp only [hC, Nat.add_mul, Nat.one_mul]
    exact this
theorem hC_snoc : ∀ (l : List Int) (i : Nat) (t : Int), hC i (l ++ [t]) = hC i l ++ [.int .i64 ((i + l.length : Nat) : Int), .int .i64 t]
  | [], i, t => rfl
  | s :: l, i, t => by
    simp only [hC, List.cons_append, hC_snoc l, List.length_cons]
    rw [show i + 1 + l.length = i + (l.length + 1) by omega]
theorem hC_set : ∀ (l : List Int) (i k : Nat) (h : k < l.length) (x : Int), (hC i l).set (k * 2 + 1) (.int .i64 x) = hC i (l.set k x)
  | t :: l, i, 0, _, x => rfl
  | t :: l, i, k + 1, h, x => by
    have := hC_set l (i + 1) k (by simpa using h) x
    simp only [hC, Nat.add_mul, Nat.one_mul, List.set_cons_succ, this]

theorem row_move {w w' : World} {B : Nat} {e : TypeId} {s : Nat} {v : Value} {n : Nat} {xs : List Value} (h : w.ownsRow B e s v n xs) (hm : ∀ k, v.ownBlock = some k → w'.heap[k]? = w.heap[k]?) : w'.ownsRow B e s v n xs := by
  obtain ⟨k1, k2⟩ := h
  refine ⟨k1, ?_⟩
  rcases k2 with k2 | ⟨g', cap, cur, rfl, k3, k4, k5⟩
  · exact .inl k2
  · exact .inr ⟨g', cap, cur, rfl, k3, (hm g' rfl).trans k4, k5⟩

/-- The law's state: its pool and its row of handles. -/
structure Ls (B : Nat) (w wr : World) (g : Nat) (M : Int) (ps : List (Int × Bool)) (taken : Int) (v va : Value) (ts : List Int) : Prop where
  pl : Pl B wr g v M ps taken
  row : wr.ownsRow B 27 2 va ts.length (hC 0 ts)
  ne : ∀ k, va.ownBlock = some k → k ≠ g ∧ v.ownBlock ≠ some k
  below : Below B w wr
section
variable {B : Nat} {w wr wr' : World} {g : Nat} {M taken : Int} {ps : List (Int × Bool)} {v va : Value} {ts : List Int}
theorem Ls.under (h : Ls B w wr g M ps taken v va ts) (hb : Below wr.heap.size wr wr') (hB : B ≤ wr.heap.size) : Ls B w wr' g M ps taken v va ts :=
  ⟨h.pl.below hb, row_move h.row (fun k e => hb.block k (h.row.lt k e).2), h.ne, h.below.trans (hb.mono hB)⟩
theorem Ls.pool (h : Ls B w wr g M ps taken v va ts) {v' : Value} {ps' : List (Int × Bool)} {taken' : Int} (hv : ∀ k, v'.ownBlock = some k → v.ownBlock = some k ∨ wr.heap.size ≤ k) (hP : Pl B wr' g v' M ps' taken') (hk : Kp wr wr' (fun k => k = g ∨ v.ownBlock = some k)) (hB : B ≤ w.heap.size) : Ls B w wr' g M ps' taken' v' va ts := by
  refine ⟨hP, row_move h.row (fun k e => hk.block k (h.row.lt k e).2 (fun hs => hs.elim (h.ne k e).1 (h.ne k e).2)), fun k e => ⟨(h.ne k e).1, fun e' => ?_⟩, hk.toBelow h.below (fun k hs => ?_) hB⟩
  · rcases hv k e' with e2 | e2
    · exact (h.ne k e).2 e2
    · have := (h.row.lt k e).2; omega
  · rcases hs with hs | hs
    · rw [hs]; exact h.pl.gB
    · exact (h.pl.rlt k hs).1
theorem Ls.grown (h : Ls B w wr g M ps taken v va ts) {o : Obj} {r cap n : Nat} {t : Int} (hB : B ≤ wr.heap.size) (hn : n = ts.length) (hown : wr'.ownsRow B 27 2 (.slice (some ⟨r, 0, none⟩) (n + 1) cap) (n + 1) (hC 0 ts ++ [.int .i64 (n : Int), .int .i64 t])) (hgrow : (wr.alloc o).grownBy wr' va.ownBlock) (hat : va.ownBlock = some r ∨ r = wr.heap.size + 1) : Ls B w wr' g M ps taken v (.slice (some ⟨r, 0, none⟩) (n + 1) cap) (ts ++ [t]) := by
  have old : ∀ b, b < wr.heap.size → va.ownBlock ≠ some b → wr'.heap[b]? = wr.heap[b]? := by
    intro b hb hv
    refine (hgrow.block b (by simp; omega) (fun e => hv e.symm)).trans ?_
    show (wr.heap.push o)[b]? = _
    rw [Array.getElem?_push, if_neg (by omega)]
  have hgl := h.pl.lt
  refine ⟨h.pl.move (fun k e => ?_), ?_, fun k e => ?_, ?_⟩
  · rcases e with e | e
    · subst e; exact old _ hgl (fun e' => (h.ne _ e').1 rfl)
    · exact old _ (h.pl.rlt k e).2 (fun e' => (h.ne _ e').2 e)
  · have e : hC 0 (ts ++ [t]) = hC 0 ts ++ [.int .i64 (n : Int), .int .i64 t] := by rw [hC_snoc, hn]; simp
    rw [e, List.length_append, List.length_singleton, ← hn]
    exact hown
  · have e : r = k := Option.some.inj e
    subst e
    rcases hat with e | e
    · exact h.ne r e
    · exact ⟨by omega, fun e' => by have := (h.pl.rlt r e').2; omega⟩
  · refine ⟨hgrow.os.trans h.below.os, hgrow.tape.trans h.below.tape, hgrow.output.trans h.below.output, ?_, fun k hk => (old k (by omega) (fun e => by have := (h.row.lt k e).1; omega)).trans (h.below.block k hk)⟩
    have := hgrow.size
    have := h.below.size
    simp at *
    omega
end
theorem lf_all (k : Nat) : lf (List.replicate k ((1 : Int), true)) = k := by
  induction k with
  | zero => rfl
  | succ k ih => rw [List.replicate_succ]; simp [lf, ih]
end Go.Proofs.YtppapffkidkonaaDoor
