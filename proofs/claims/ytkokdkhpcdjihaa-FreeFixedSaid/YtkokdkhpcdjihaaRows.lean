/-
  No cell of these rows narrows 'for every input' (looked for: loops, veiled, ifaces, maps, wideKeys, modest, calm, conditions, laid).
  DERIVED. THE GIVEN ROWS OF THIS SEAT. 2 by the template 'for every input the law returns true; each argument reads behind the call as it read before'; 0 by the template 'total and deterministic' (their statements: YtkokdkhpcdjihaaTotals.lean).
  GIVEN WITH THE SEED: the statements are not yours to turn. If you find one false, say at which input.
  Laid BY PROGRAM, IN A SANDBOX (cutbox-rows.mjs): the forced cells as the released guide's own fill.sh prints them over the translation 780f0a30def9fbbe… (all of the seat's roots in one cut). By AI agents, Wed Nov 11 2026. No macro, syntax, notation, axiom, sorry.
-/
import Derived.Test.YtkokdkhpcdjihaaChecked
import GoSem.Claim
import GoSem.ClaimJoined
import GoSem.ClaimMapViews
import Derived.JoinedTies
import Derived.KernelRfl
namespace Go.Proofs.Ytkokdkhpcdjihaa
/- THE CELL 'sum', in the pinned program and in every row, IS THE sha256 OF THE DUMP (.gsa) THAT YtkokdkhpcdjihaaProg.lean LOADS. Nothing in Lean hashes anything: it is a label: what it is worth is what the hold of that sum in a sandbox is worth. -/
noncomputable def Try.pinned : Pinned := { name := "ytkokdkhpcdjihaa", sum := "780f0a30def9fbbe1714564c66d161477058a94ec9770053ac7cd0ef19e2b358", checked := Try.checked }
namespace Rows
def none {H : Type} : Left H := { results := [], args := [] }

/-- 'quoinlaw18.FreeFixed': WHATEVER THE INPUT: true; the input reads as it did. -/
def freeFixedSpec : ChangeSpec := { name := "freeFixed", fn := fun _ => fun
  | [d1, d2, d3, d4] => { results := [.lit (.bool true)], args := [d1, d2, d3, d4] }
  | _ => none }
def freeFixedRow : OpenClaim := { program := "ytkokdkhpcdjihaa", sum := "780f0a30def9fbbe1714564c66d161477058a94ec9770053ac7cd0ef19e2b358", func := "quoin/quoinlaw18.FreeFixed", spec := "freeFixed", named := ["math/bits.divideError", "math/bits.overflowError"], apart := false }
def FreeFixedSaid : Prop := freeFixedRow.holds Try.pinned (OpenSpec.ofChange freeFixedSpec)

/-- ITS FALSE NEIGHBOUR: 'it returns false'. Refute it at one input. -/
def freeFixedWrong : ChangeSpec := { name := "freeFixed", fn := fun _ => fun
  | [d1, d2, d3, d4] => { results := [.lit (.bool false)], args := [d1, d2, d3, d4] }
  | _ => none }
def FreeFixedWrongFalsely : Prop := freeFixedRow.holds Try.pinned (OpenSpec.ofChange freeFixedWrong)

/-- 'quoinlaw18.FreeTells': WHATEVER THE INPUT: true; the input reads as it did. -/
def freeTellsSpec : ChangeSpec := { name := "freeTells", fn := fun _ => fun
  | [d1, d2, d3] => { results := [.lit (.bool true)], args := [d1, d2, d3] }
  | _ => none }
def freeTellsRow : OpenClaim := { program := "ytkokdkhpcdjihaa", sum := "780f0a30def9fbbe1714564c66d161477058a94ec9770053ac7cd0ef19e2b358", func := "quoin/quoinlaw18.FreeTells", spec := "freeTells", named := ["math/bits.divideError", "math/bits.overflowError"], apart := false }
def FreeTellsSaid : Prop := freeTellsRow.holds Try.pinned (OpenSpec.ofChange freeTellsSpec)

/-- ITS FALSE NEIGHBOUR: 'it returns false'. Refute it at one input. -/
def freeTellsWrong : ChangeSpec := { name := "freeTells", fn := fun _ => fun
  | [d1, d2, d3] => { results := [.lit (.bool false)], args := [d1, d2, d3] }
  | _ => none }
def FreeTellsWrongFalsely : Prop := freeTellsRow.holds Try.pinned (OpenSpec.ofChange freeTellsWrong)

/- THE SECOND FORM. 'bulk': how many values and letters a reading holds, each counted each time it is reached (what is shared counts as often as it is met; a slice's spare places count too). A statement '..UptoSaid' is the law's where the arguments, and the package variables that the reading takes, are together of bulk at most 1048576: NARROWER than '..Said'. Prove '..Said' where nothing that the law and all that it calls make is longer than what came in: it says more and counts as full. Else prove '..UptoSaid'. A law counts once. -/
mutual
def uptoBulk {H : Type} : DataW H → Nat
  | .lit (.string bytes) => bytes.length + 1
  | .lit _ => 1
  | .nil => 1
  | .ptr d => uptoBulk d + 1
  | .slice elems spare => uptoBulkAll elems + uptoBulkAll spare + 1
  | .agg parts => uptoBulkAll parts + 1
  | .iface _ d => uptoBulk d + 1
  | .map entries => uptoBulkEntries entries + 1
  | .held _ => 1
def uptoBulkAll {H : Type} : List (DataW H) → Nat
  | [] => 0
  | d :: r => uptoBulk d + uptoBulkAll r
def uptoBulkEntries {H : Type} : List (Lit × DataW H) → Nat
  | [] => 0
  | x :: r => uptoBulkEntry x + uptoBulkEntries r
def uptoBulkEntry {H : Type} : Lit × DataW H → Nat
  | (.string bytes, d) => bytes.length + uptoBulk d + 1
  | (_, d) => uptoBulk d + 1
 end
def uptoSmall : (H : Type) → List (DataW H) → Bool := fun _ ds => decide (uptoBulkAll ds ≤ 1048576)
def OpenSpec.upto (s : _root_.Go.ChangeSpec) : _root_.Go.OpenSpec := { _root_.Go.OpenSpec.ofChange s with cond := some uptoSmall }

/-- 'quoinlaw18.FreeFixed', WHERE WHAT IT READS IS OF BULK AT MOST 1048576: true; the input reads as it did. -/
def freeFixedUptoRow : OpenClaim := { program := "ytkokdkhpcdjihaa", sum := "780f0a30def9fbbe1714564c66d161477058a94ec9770053ac7cd0ef19e2b358", func := "quoin/quoinlaw18.FreeFixed", spec := "freeFixed", named := ["math/bits.divideError", "math/bits.overflowError"], apart := false, narrowed := true }
def FreeFixedUptoSaid : Prop := freeFixedUptoRow.holds Try.pinned (OpenSpec.upto freeFixedSpec)

/-- 'quoinlaw18.FreeTells', WHERE WHAT IT READS IS OF BULK AT MOST 1048576: true; the input reads as it did. -/
def freeTellsUptoRow : OpenClaim := { program := "ytkokdkhpcdjihaa", sum := "780f0a30def9fbbe1714564c66d161477058a94ec9770053ac7cd0ef19e2b358", func := "quoin/quoinlaw18.FreeTells", spec := "freeTells", named := ["math/bits.divideError", "math/bits.overflowError"], apart := false, narrowed := true }
def FreeTellsUptoSaid : Prop := freeTellsUptoRow.holds Try.pinned (OpenSpec.upto freeTellsSpec)

end Rows
end Go.Proofs.Ytkokdkhpcdjihaa
