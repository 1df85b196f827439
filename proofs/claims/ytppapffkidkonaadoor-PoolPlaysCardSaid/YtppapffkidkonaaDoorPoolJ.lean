import Derived.Test.YtppapffkidkonaaDoorPoolI
namespace Go.Proofs.YtppapffkidkonaaDoor
open Go.RowKit
set_option linter.unusedVariables false
set_option linter.unusedSimpArgs false

theorem Kp.weaken {w w' : World} {S T : Nat → Prop} (h : Kp w w' S) (hs : ∀ k, S k → T k) : Kp w w' T := ⟨h.os, h.tape, h.output, h.size, fun k hk hT => h.block k hk (fun e => hT (hs k e))⟩
/-- The places behind a take, and the turn that is told. -/
def tk (ps : List (Int × Bool)) : List (Int × Bool) := if h : lf ps < ps.length then ps.set (lf ps) (ps[lf ps].1 + 1, true) else ps ++ [(1, true)]
def tkT (ps : List (Int × Bool)) : Int := if h : lf ps < ps.length then ps[lf ps].1 + 1 else 1

theorem take_any {B : Nat} {W : World} {g : Nat} {v : Value} {most : Int} {ps : List (Int × Bool)} {taken : Int} (h : Pl B W g v most ps taken) (hn : ps.length ≤ 10000) (hn2 : lf ps = ps.length → ps.length < 10000) (ht0 : 0 ≤ taken) (ht1 : taken ≤ 10000) (hK : (lf ps : Int) ≠ most) (hT : ∀ p ∈ ps, 0 ≤ p.1 ∧ p.1 < 4611686018427387904) :
    Calls Tryd.prog 7 #[.pointer (some ⟨g, 0, none⟩)] W fun e w' => e = .returned (.tuple #[.agg #[.int .i64 (lf ps : Nat), .int .i64 (tkT ps)], .nilIface]) ∧ ∃ v', (∀ k, v'.ownBlock = some k → v.ownBlock = some k ∨ W.heap.size ≤ k) ∧ Pl B w' g v' most (tk ps) (taken + 1) ∧ Kp W w' (fun k => k = g ∨ v.ownBlock = some k) := by
  by_cases hl : lf ps < ps.length
  · obtain ⟨r, cap, rfl, _⟩ := h.form (by omega)
    have e1 : tk ps = ps.set (lf ps) (ps[lf ps].1 + 1, true) := by unfold tk; rw [dif_pos hl]
    have e2 : tkT ps = ps[lf ps].1 + 1 := by unfold tkT; rw [dif_pos hl]
    rw [e1, e2]
    have hp : ps[lf ps] = (ps[lf ps].1, false) := by rw [← lf_free ps hl]
    exact (take_old h hn ht0 ht1 hK (lf ps) ps[lf ps].1 rfl hl hp (hT _ (List.getElem_mem hl))).mono fun e w' ⟨he, hP, hk⟩ => ⟨he, _, fun k e => .inl e, hP, hk.weaken fun k hk => hk.imp id (fun e => by rw [e]; rfl)⟩
  · have hl' : lf ps = ps.length := Nat.le_antisymm (lf_le ps) (by omega)
    have e1 : tk ps = ps ++ [(1, true)] := by unfold tk; rw [dif_neg hl]
    have e2 : tkT ps = 1 := by unfold tkT; rw [dif_neg hl]
    rw [e1, e2, hl']
    exact (take_new h (hn2 hl') ht0 ht1 hK hl').mono fun e w' ⟨he, r, cap, hr, hP, hk⟩ => ⟨he, _, fun k e => by
      have e : r = k := Option.some.inj e
      rw [← e]; exact hr, hP, hk⟩
/-- What is below the law's own blocks stays. -/
theorem Kp.toBelow {B : Nat} {w0 w w' : World} {S : Nat → Prop} (h0 : Below B w0 w) (h : Kp w w' S) (hS : ∀ k, S k → B ≤ k) (hB : B ≤ w0.heap.size) : Below B w0 w' :=
  ⟨h.os.trans h0.os, h.tape.trans h0.tape, h.output.trans h0.output, Nat.le_trans h0.size h.size, fun k hk => (h.block k (Nat.lt_of_lt_of_le hk (Nat.le_trans hB h0.size)) (fun hs => by have := hS k hs; omega)).trans (h0.block k hk)⟩
end Go.Proofs.YtppapffkidkonaaDoor
