import Derived.Test.YtppapffkidkonaaDoorPoolN
namespace Go.Proofs.YtppapffkidkonaaDoor
open Go.RowKit
set_option linter.unusedVariables false
set_option linter.unusedSimpArgs false
section
variable {B : Nat} {w wr : World} {g : Nat} {M taken : Int} {ps : List (Int × Bool)} {v va : Value} {ts : List Int}
theorem Ls.free (h : Ls B w wr g M ps taken v va ts) (hB : B ≤ w.heap.size) (hn : ps.length ≤ 10000) (ht0 : 0 ≤ taken) (ht1 : taken ≤ 10000) (i : Nat) (t : Int) (hi : i < ps.length) (hp : ps[i] = (t, true)) :
    Calls Tryd.prog 8 #[.pointer (some ⟨g, 0, none⟩), .agg #[.int .i64 (i : Int), .int .i64 t]] wr fun e w' => e = .returned .nilIface ∧ Ls B w w' g M (ps.set i (t, false)) (taken - 1) v va ts := by
  obtain ⟨r, cap, rfl, _⟩ := h.pl.form (by omega)
  exact (free_yes h.pl hn ht0 ht1 i t hi hp).mono fun e w' ⟨he, hP, hk⟩ => ⟨he, h.pool (fun k e => .inl e) hP (hk.weaken fun k hk => hk.imp id (fun e => by rw [e]; rfl)) hB⟩
theorem Ls.refuse (h : Ls B w wr g M ps taken v va ts) (he : Env w) (hBw : B = w.heap.size) (hn : ps.length ≤ 10000) (a t : Int) (ha0 : -9223372036854775808 ≤ a) (ha1 : a ≤ 9223372036854775807) (hb : hasB ps a t = false) :
    Calls Tryd.prog 8 #[.pointer (some ⟨g, 0, none⟩), .agg #[.int .i64 a, .int .i64 t]] wr fun e w' => ∃ j, e = .returned (.iface 74 (.pointer (some ⟨j, 0, none⟩))) ∧ Ls B w w' g M ps taken v va ts :=
  (free_not h.pl (he.below (by rw [← hBw]; exact h.below)) hn a t ha0 ha1 hb).mono fun e w' ⟨j, he, hj, hb⟩ => ⟨j, he, h.under hb (by have := h.below.size; omega)⟩
theorem Ls.take (h : Ls B w wr g M ps taken v va ts) (hB : B ≤ w.heap.size) (hn : ps.length ≤ 10000) (ht0 : 0 ≤ taken) (ht1 : taken ≤ 10000) (k : Nat) (t : Int) (hk : lf ps = k) (hkM : (k : Int) ≠ M) (hkl : k < ps.length) (hp : ps[k] = (t, false)) (htt : 0 ≤ t ∧ t < 4611686018427387904) :
    Calls Tryd.prog 7 #[.pointer (some ⟨g, 0, none⟩)] wr fun e w' => e = .returned (.tuple #[.agg #[.int .i64 (k : Int), .int .i64 (t + 1)], .nilIface]) ∧ Ls B w w' g M (ps.set k (t + 1, true)) (taken + 1) v va ts := by
  obtain ⟨r, cap, rfl, _⟩ := h.pl.form (by omega)
  exact (take_old h.pl hn ht0 ht1 (by rw [hk]; exact hkM) k t hk.symm hkl hp htt).mono fun e w' ⟨he, hP, hk⟩ => ⟨he, h.pool (fun k e => .inl e) hP (hk.weaken fun k hk => hk.imp id (fun e => by rw [e]; rfl)) hB⟩
theorem Ls.full (h : Ls B w wr g M ps taken v va ts) (he : Env w) (hBw : B = w.heap.size) (hn : ps.length ≤ 10000) (hk : (lf ps : Int) = M) :
    Calls Tryd.prog 7 #[.pointer (some ⟨g, 0, none⟩)] wr fun e w' => ∃ j, e = .returned (.tuple #[.agg #[.int .i64 0, .int .i64 0], .iface 74 (.pointer (some ⟨j, 0, none⟩))]) ∧ JoinErr w' j 2 ∧ Ls B w w' g M ps taken v va ts :=
  (take_full h.pl (he.below (by rw [← hBw]; exact h.below)) hn hk).mono fun e w' ⟨j, he, hj, hb⟩ => ⟨j, he, hj, h.under hb (by have := h.below.size; omega)⟩
/-- A handle of the row. -/
theorem Ls.cells {ra cap n : Nat} (h : Ls B w wr g M ps taken v (.slice (some ⟨ra, 0, none⟩) n cap) ts) (hn : n = ts.length) (k : Nat) (hk : k < ts.length) :
    wr.cell? ⟨ra, k * 2, none⟩ = some (.int .i64 (k : Int)) ∧ wr.cell? ⟨ra, k * 2 + 1, none⟩ = some (.int .i64 ts[k]) ∧ wr.frozen? ⟨ra, k * 2, none⟩ = false ∧ wr.frozen? ⟨ra, k * 2 + 1, none⟩ = false := by
  have hr := h.row
  subst hn
  refine ⟨(hr.cellAt (k * 2) (by omega)).trans ?_, (hr.cellAt (k * 2 + 1) (by omega)).trans (hC_turn ts 0 k hk), hr.frozenAt _, hr.frozenAt _⟩
  rw [hC_place ts 0 k hk, Nat.zero_add]
theorem Ls.form {n : Nat} (h : Ls B w wr g M ps taken v va ts) (hn : n = ts.length) (h0 : 0 < n) : ∃ ra cap, va = .slice (some ⟨ra, 0, none⟩) n cap ∧ n ≤ cap := by
  rcases h.row.2 with ⟨_, k0⟩ | ⟨r, cap, cur, e, k3, k4, k5, _⟩
  · omega
  · exact ⟨r, cap, by rw [hn]; exact e, by rw [hn]; exact k5⟩
end
end Go.Proofs.YtppapffkidkonaaDoor
