import Derived.Test.YtppapffkidkonaaDoorErrD
namespace Go.Proofs.YtppapffkidkonaaDoor
open Go.RowKit
set_option linter.unusedVariables false
set_option linter.unusedSimpArgs false

set_option maxRecDepth 100000 in
theorem wrong_calls (c : Int) (s : ByteArray) (w : World) :
    Calls Tryd.prog 18 #[.int .i64 c, .string s] w fun e w' => ∃ j, e = .returned (.iface 74 (.pointer (some ⟨j, 0, none⟩))) ∧ JoinErr w' j c ∧ Below w.heap.size w w' := by
  have hb0 : Below w.heap.size w ((w.alloc (.cells #[.string s] 79)).alloc (.cells #[.iface 77 (.pointer (some ⟨w.heap.size, 0, none⟩)), .iface 34 (.int .i64 c)] 29)) := ((Below.refl _ _).alloc (Nat.le_refl _) _).alloc (by simp) _
  have H := Lib.hid (join_calls (w.heap.size + 1) w.heap.size c ((w.alloc (.cells #[.string s] 79)).alloc (.cells #[.iface 77 (.pointer (some ⟨w.heap.size, 0, none⟩)), .iface 34 (.int .i64 c)] 29)) (by rw [World.cell?_alloc_at _ _ _ _ (by simp)]; rfl) (by rw [World.cell?_alloc_at _ _ _ _ (by simp)]; rfl))
  have HB := Lib.hid hb0
  clear hb0
  go_enter Tryd.func18, Tryd.ntmps18
  go_wp2_with fail
  refine (new_calls s w).mono ?_
  rintro e w1 ⟨rfl, rfl⟩
  go_wp2_with fail
  refine H.out.mono ?_
  clear H
  rintro e w1 ⟨j, rfl, hj, hb⟩
  go_wp2
  go_ret
  exact ⟨j, rfl, hj, HB.out.trans (hb.mono HB.out.size)⟩
end Go.Proofs.YtppapffkidkonaaDoor
