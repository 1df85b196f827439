/-
  DERIVED. GIVEN WITH THE SEED: THE CARDS: each row of YtppapffkidkonaaDoorRows.lean that lists a variable, with what it lists TIED to the program's text (the seventh form; the later family's looks); each row that meets fmt, with fmt's text TOLD by the authors' own Lean function (tested against real Go, not proved from fmt's source: count such statements apart). THE CARD IS WHAT COUNTS. Prove the row's statement (the work); the ties are given (YtppapffkidkonaaDoorTie.lean); close each card by the builder's one call (the guide's Derived/Test/ToyasCard.lean, 'card_holds'). Laid BY PROGRAM, IN A SANDBOX (cutbox-door.mjs). By AI agents, Wed Nov 11 2026. No macro, syntax, notation, axiom, sorry.
-/
import Derived.Test.YtppapffkidkonaaDoorRows
import GoSem.ClaimSeven
namespace Go.Proofs.YtppapffkidkonaaDoor
namespace Rows

/-- THE TIED CARD OF 'quoinlaw3.PoolLeast'. -/
def poolLeastCard : Claim7 := { stood := { row := poolLeastRow, standIns := [], harness := (true, "2f44a09dd79caeb2b710a4505a5e3aa13195d71692f9c8490be84a49dbdabeb0"), looks := true }, kinds := [], alts := [], laidByText := true, laidKinds := [.data, .data, .data, .handle], laidTests := true, laidLooks := .later }
def PoolLeastCardSaid : Prop := Claim7.holds Tryd.pinned (.plain (OpenSpec.ofChange poolLeastSpec)) poolLeastCard

/-- THE TIED CARD OF 'quoinlaw3.PoolPlays'. -/
def poolPlaysCard : Claim7 := { stood := { row := poolPlaysRow, standIns := [], harness := (true, "2f44a09dd79caeb2b710a4505a5e3aa13195d71692f9c8490be84a49dbdabeb0"), looks := true }, kinds := [], alts := [], laidByText := true, laidKinds := [.data, .data, .data, .handle], laidTests := true, laidLooks := .later }
def PoolPlaysCardSaid : Prop := Claim7.holds Tryd.pinned (.plain (OpenSpec.ofChange poolPlaysSpec)) poolPlaysCard

/-- THE TIED CARD OF 'quoinlaw3.PoolUnlike'. -/
def poolUnlikeCard : Claim7 := { stood := { row := poolUnlikeRow, standIns := [], harness := (true, "2f44a09dd79caeb2b710a4505a5e3aa13195d71692f9c8490be84a49dbdabeb0"), looks := true }, kinds := [], alts := [], laidByText := true, laidKinds := [.data, .data, .data, .handle], laidTests := true, laidLooks := .later }
def PoolUnlikeCardSaid : Prop := Claim7.holds Tryd.pinned (.plain (OpenSpec.ofChange poolUnlikeSpec)) poolUnlikeCard

/-- THE SECOND FORM's CARD OF 'quoinlaw3.PoolLeast'. -/
def poolLeastUptoCard : Claim7 := { stood := { row := poolLeastUptoRow, standIns := [], harness := (true, "2f44a09dd79caeb2b710a4505a5e3aa13195d71692f9c8490be84a49dbdabeb0"), looks := true }, kinds := [], alts := [], laidByText := true, laidKinds := [.data, .data, .data, .handle], laidTests := true, laidLooks := .later }
def PoolLeastUptoCardSaid : Prop := Claim7.holds Tryd.pinned (.plain (OpenSpec.upto poolLeastSpec)) poolLeastUptoCard

/-- THE SECOND FORM's CARD OF 'quoinlaw3.PoolPlays'. -/
def poolPlaysUptoCard : Claim7 := { stood := { row := poolPlaysUptoRow, standIns := [], harness := (true, "2f44a09dd79caeb2b710a4505a5e3aa13195d71692f9c8490be84a49dbdabeb0"), looks := true }, kinds := [], alts := [], laidByText := true, laidKinds := [.data, .data, .data, .handle], laidTests := true, laidLooks := .later }
def PoolPlaysUptoCardSaid : Prop := Claim7.holds Tryd.pinned (.plain (OpenSpec.upto poolPlaysSpec)) poolPlaysUptoCard

/-- THE SECOND FORM's CARD OF 'quoinlaw3.PoolUnlike'. -/
def poolUnlikeUptoCard : Claim7 := { stood := { row := poolUnlikeUptoRow, standIns := [], harness := (true, "2f44a09dd79caeb2b710a4505a5e3aa13195d71692f9c8490be84a49dbdabeb0"), looks := true }, kinds := [], alts := [], laidByText := true, laidKinds := [.data, .data, .data, .handle], laidTests := true, laidLooks := .later }
def PoolUnlikeUptoCardSaid : Prop := Claim7.holds Tryd.pinned (.plain (OpenSpec.upto poolUnlikeSpec)) poolUnlikeUptoCard
end Rows
end Go.Proofs.YtppapffkidkonaaDoor
