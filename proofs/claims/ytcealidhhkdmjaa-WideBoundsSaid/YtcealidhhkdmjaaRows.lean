/-
  No cell of these rows narrows 'for every input' (looked for: loops, veiled, ifaces, maps, wideKeys, modest, calm, conditions, laid).
  DERIVED. THE GIVEN ROWS OF THIS SEAT. 3 by the template 'for every input the law returns true; each argument reads behind the call as it read before'; 0 by the template 'total and deterministic' (their statements: YtcealidhhkdmjaaTotals.lean).
  GIVEN WITH THE SEED: the statements are not yours to turn. If you find one false, say at which input.
  Laid BY PROGRAM, IN A SANDBOX (cutbox-rows.mjs): the forced cells as the released guide's own fill.sh prints them over the translation e37a41ef3400c7b8… (all of the seat's roots in one cut). By AI agents, Wed Nov 11 2026. No macro, syntax, notation, axiom, sorry.
-/
import Derived.Test.YtcealidhhkdmjaaChecked
import GoSem.Claim
import GoSem.ClaimJoined
import GoSem.ClaimMapViews
import Derived.JoinedTies
import Derived.KernelRfl
namespace Go.Proofs.Ytcealidhhkdmjaa
/- THE CELL 'sum', in the pinned program and in every row, IS THE sha256 OF THE DUMP (.gsa) THAT YtcealidhhkdmjaaProg.lean LOADS. Nothing in Lean hashes anything: it is a label: what it is worth is what the hold of that sum in a sandbox is worth. -/
noncomputable def Try.pinned : Pinned := { name := "ytcealidhhkdmjaa", sum := "e37a41ef3400c7b82959b19f9840735da1c6afd814881ad521fcc693345c2e09", checked := Try.checked }
namespace Rows
def none {H : Type} : Left H := { results := [], args := [] }

/-- 'quoinlaw14.WideCenters': WHATEVER THE INPUT: true; the input reads as it did. -/
def wideCentersSpec : ChangeSpec := { name := "wideCenters", fn := fun _ => fun
  | [d1, d2, d3, d4, d5] => { results := [.lit (.bool true)], args := [d1, d2, d3, d4, d5] }
  | _ => none }
def wideCentersRow : OpenClaim := { program := "ytcealidhhkdmjaa", sum := "e37a41ef3400c7b82959b19f9840735da1c6afd814881ad521fcc693345c2e09", func := "quoin/quoinlaw14.WideCenters", spec := "wideCenters", unfollowed := true, recurses := true, apart := false }
def WideCentersSaid : Prop := wideCentersRow.holds Try.pinned (OpenSpec.ofChange wideCentersSpec)

/-- ITS FALSE NEIGHBOUR: 'it returns false'. Refute it at one input. -/
def wideCentersWrong : ChangeSpec := { name := "wideCenters", fn := fun _ => fun
  | [d1, d2, d3, d4, d5] => { results := [.lit (.bool false)], args := [d1, d2, d3, d4, d5] }
  | _ => none }
def WideCentersWrongFalsely : Prop := wideCentersRow.holds Try.pinned (OpenSpec.ofChange wideCentersWrong)

/-- 'quoinlaw14.WideBounds': WHATEVER THE INPUT: true; the input reads as it did. -/
def wideBoundsSpec : ChangeSpec := { name := "wideBounds", fn := fun _ => fun
  | [d1, d2, d3, d4, d5] => { results := [.lit (.bool true)], args := [d1, d2, d3, d4, d5] }
  | _ => none }
def wideBoundsRow : OpenClaim := { program := "ytcealidhhkdmjaa", sum := "e37a41ef3400c7b82959b19f9840735da1c6afd814881ad521fcc693345c2e09", func := "quoin/quoinlaw14.WideBounds", spec := "wideBounds", unfollowed := true, recurses := true, apart := false }
def WideBoundsSaid : Prop := wideBoundsRow.holds Try.pinned (OpenSpec.ofChange wideBoundsSpec)

/-- ITS FALSE NEIGHBOUR: 'it returns false'. Refute it at one input. -/
def wideBoundsWrong : ChangeSpec := { name := "wideBounds", fn := fun _ => fun
  | [d1, d2, d3, d4, d5] => { results := [.lit (.bool false)], args := [d1, d2, d3, d4, d5] }
  | _ => none }
def WideBoundsWrongFalsely : Prop := wideBoundsRow.holds Try.pinned (OpenSpec.ofChange wideBoundsWrong)

/-- 'quoinlaw14.WideAdds': WHATEVER THE INPUT: true; the input reads as it did. -/
def wideAddsSpec : ChangeSpec := { name := "wideAdds", fn := fun _ => fun
  | [d1, d2] => { results := [.lit (.bool true)], args := [d1, d2] }
  | _ => none }
def wideAddsRow : OpenClaim := { program := "ytcealidhhkdmjaa", sum := "e37a41ef3400c7b82959b19f9840735da1c6afd814881ad521fcc693345c2e09", func := "quoin/quoinlaw14.WideAdds", spec := "wideAdds", unfollowed := true, recurses := true, apart := false }
def WideAddsSaid : Prop := wideAddsRow.holds Try.pinned (OpenSpec.ofChange wideAddsSpec)

/-- ITS FALSE NEIGHBOUR: 'it returns false'. Refute it at one input. -/
def wideAddsWrong : ChangeSpec := { name := "wideAdds", fn := fun _ => fun
  | [d1, d2] => { results := [.lit (.bool false)], args := [d1, d2] }
  | _ => none }
def WideAddsWrongFalsely : Prop := wideAddsRow.holds Try.pinned (OpenSpec.ofChange wideAddsWrong)

/- THE SECOND FORM. 'bulk': how many values and letters a reading holds, each counted each time it is reached (what is shared counts as often as it is met; a slice's spare places count too). A statement '..UptoSaid' is the law's where the arguments, and the package variables that the reading takes, are together of bulk at most 1048576: NARROWER than '..Said'. Prove '..Said' where nothing that the law and all that it calls make is longer than what came in: it says more and counts as full. Else prove '..UptoSaid'. A law counts once. -/
mutual
def uptoBulk {H : Type} : DataW H → Nat
  | .lit (.string bytes) => bytes.length + 1
  | .lit _ => 1
  | .nil => 1
  | .ptr d => uptoBulk d + 1
  | .slice elems spare => uptoBulkAll elems + uptoBulkAll spare + 1
  | .agg parts => uptoBulkAll parts + 1
  | .iface _ d => uptoBulk d + 1
  | .map entries => uptoBulkEntries entries + 1
  | .held _ => 1
def uptoBulkAll {H : Type} : List (DataW H) → Nat
  | [] => 0
  | d :: r => uptoBulk d + uptoBulkAll r
def uptoBulkEntries {H : Type} : List (Lit × DataW H) → Nat
  | [] => 0
  | x :: r => uptoBulkEntry x + uptoBulkEntries r
def uptoBulkEntry {H : Type} : Lit × DataW H → Nat
  | (.string bytes, d) => bytes.length + uptoBulk d + 1
  | (_, d) => uptoBulk d + 1
 end
def uptoSmall : (H : Type) → List (DataW H) → Bool := fun _ ds => decide (uptoBulkAll ds ≤ 1048576)
def OpenSpec.upto (s : _root_.Go.ChangeSpec) : _root_.Go.OpenSpec := { _root_.Go.OpenSpec.ofChange s with cond := some uptoSmall }

/-- 'quoinlaw14.WideCenters', WHERE WHAT IT READS IS OF BULK AT MOST 1048576: true; the input reads as it did. -/
def wideCentersUptoRow : OpenClaim := { program := "ytcealidhhkdmjaa", sum := "e37a41ef3400c7b82959b19f9840735da1c6afd814881ad521fcc693345c2e09", func := "quoin/quoinlaw14.WideCenters", spec := "wideCenters", unfollowed := true, recurses := true, apart := false, narrowed := true }
def WideCentersUptoSaid : Prop := wideCentersUptoRow.holds Try.pinned (OpenSpec.upto wideCentersSpec)

/-- 'quoinlaw14.WideBounds', WHERE WHAT IT READS IS OF BULK AT MOST 1048576: true; the input reads as it did. -/
def wideBoundsUptoRow : OpenClaim := { program := "ytcealidhhkdmjaa", sum := "e37a41ef3400c7b82959b19f9840735da1c6afd814881ad521fcc693345c2e09", func := "quoin/quoinlaw14.WideBounds", spec := "wideBounds", unfollowed := true, recurses := true, apart := false, narrowed := true }
def WideBoundsUptoSaid : Prop := wideBoundsUptoRow.holds Try.pinned (OpenSpec.upto wideBoundsSpec)

/-- 'quoinlaw14.WideAdds', WHERE WHAT IT READS IS OF BULK AT MOST 1048576: true; the input reads as it did. -/
def wideAddsUptoRow : OpenClaim := { program := "ytcealidhhkdmjaa", sum := "e37a41ef3400c7b82959b19f9840735da1c6afd814881ad521fcc693345c2e09", func := "quoin/quoinlaw14.WideAdds", spec := "wideAdds", unfollowed := true, recurses := true, apart := false, narrowed := true }
def WideAddsUptoSaid : Prop := wideAddsUptoRow.holds Try.pinned (OpenSpec.upto wideAddsSpec)

end Rows
end Go.Proofs.Ytcealidhhkdmjaa
