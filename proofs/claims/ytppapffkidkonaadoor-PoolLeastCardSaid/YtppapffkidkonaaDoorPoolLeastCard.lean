/-
  PoolLeast: always the least free place is taken; with all taken none is; its turn is one more than the last one of that place. For every input; the four listed package-level variables hold what the program's text lays (the card ties them). No other condition.
-/
import Derived.Test.YtppapffkidkonaaDoorPoolR
import Derived.Test.YtppapffkidkonaaDoorCards
import Derived.Test.YtppapffkidkonaaDoorTie
import Derived.SevenTiedAt
namespace Go.Proofs.YtppapffkidkonaaDoor
open Go
theorem poolLeast_card : Rows.PoolLeastCardSaid :=
  Claim7.holds_tied_plain_at .later [] [.data, .data, .data, .handle] true (true, "2f44a09dd79caeb2b710a4505a5e3aa13195d71692f9c8490be84a49dbdabeb0") true
    poolLeast_row (fun _ h => by cases h) (by kernel_rfl) (fun _ h => by cases h) poolLeast_row_tie rfl ⟨rfl, rfl⟩ (by kernel_rfl) rfl
    (fun f fn hf hfn => by
      obtain rfl : f = 3 := Option.some.inj ((show Tryd.prog.funcNamed "quoin/quoinlaw3.PoolLeast" = some 3 by kernel_rfl).symm.trans hf) |>.symm
      obtain rfl : fn = Tryd.f3 := (Option.some.inj (Tryd.func3.symm.trans hfn)).symm
      exact ⟨by kernel_rfl, fun j t ht => by
        rw [Tryd.params3] at ht
        have hm : t ∈ [3, 22] := by simpa using Array.mem_of_getElem? ht
        have hall : ([3, 22].all fun u => !Tryd.prog.wantsStandIn u) = true := by kernel_rfl
        exact (show Tryd.prog.wantsStandIn t = false by simpa using List.all_eq_true.1 hall t hm)⟩)
    (by kernel_rfl)
#print axioms poolLeast_card
end Go.Proofs.YtppapffkidkonaaDoor
