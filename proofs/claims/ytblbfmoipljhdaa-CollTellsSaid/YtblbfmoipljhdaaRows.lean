/-
  No cell of these rows narrows 'for every input' (looked for: loops, veiled, ifaces, maps, wideKeys, modest, calm, conditions, laid).
  DERIVED. THE GIVEN ROWS OF THIS SEAT. 2 by the template 'for every input the law returns true; each argument reads behind the call as it read before'; 0 by the template 'total and deterministic' (their statements: YtblbfmoipljhdaaTotals.lean).
  GIVEN WITH THE SEED: the statements are not yours to turn. If you find one false, say at which input.
  Laid BY PROGRAM, IN A SANDBOX (cutbox-rows.mjs): the forced cells as the released guide's own fill.sh prints them over the translation a0cf931595328f79… (all of the seat's roots in one cut). By AI agents, Wed Nov 11 2026. No macro, syntax, notation, axiom, sorry.
-/
import Derived.Test.YtblbfmoipljhdaaChecked
import GoSem.Claim
import GoSem.ClaimJoined
import GoSem.ClaimMapViews
import Derived.JoinedTies
import Derived.KernelRfl
namespace Go.Proofs.Ytblbfmoipljhdaa
/- THE CELL 'sum', in the pinned program and in every row, IS THE sha256 OF THE DUMP (.gsa) THAT YtblbfmoipljhdaaProg.lean LOADS. Nothing in Lean hashes anything: it is a label: what it is worth is what the hold of that sum in a sandbox is worth. -/
noncomputable def Try.pinned : Pinned := { name := "ytblbfmoipljhdaa", sum := "a0cf931595328f79e8326f0c60c5ef69fda757443cf27c2fa81170a6a1b09a71", checked := Try.checked }
namespace Rows
def none {H : Type} : Left H := { results := [], args := [] }

/-- 'quoinlaw17.CollTells': WHATEVER THE INPUT: true; the input reads as it did. -/
def collTellsSpec : ChangeSpec := { name := "collTells", fn := fun _ => fun
  | [d1, d2, d3, d4] => { results := [.lit (.bool true)], args := [d1, d2, d3, d4] }
  | _ => none }
def collTellsRow : OpenClaim := { program := "ytblbfmoipljhdaa", sum := "a0cf931595328f79e8326f0c60c5ef69fda757443cf27c2fa81170a6a1b09a71", func := "quoin/quoinlaw17.CollTells", spec := "collTells", unfollowed := true, recurses := true, apart := false }
def CollTellsSaid : Prop := collTellsRow.holds Try.pinned (OpenSpec.ofChange collTellsSpec)

/-- ITS FALSE NEIGHBOUR: 'it returns false'. Refute it at one input. -/
def collTellsWrong : ChangeSpec := { name := "collTells", fn := fun _ => fun
  | [d1, d2, d3, d4] => { results := [.lit (.bool false)], args := [d1, d2, d3, d4] }
  | _ => none }
def CollTellsWrongFalsely : Prop := collTellsRow.holds Try.pinned (OpenSpec.ofChange collTellsWrong)

/-- 'quoinlaw17.CollOrder': WHATEVER THE INPUT: true; the input reads as it did. -/
def collOrderSpec : ChangeSpec := { name := "collOrder", fn := fun _ => fun
  | [d] => { results := [.lit (.bool true)], args := [d] }
  | _ => none }
def collOrderRow : OpenClaim := { program := "ytblbfmoipljhdaa", sum := "a0cf931595328f79e8326f0c60c5ef69fda757443cf27c2fa81170a6a1b09a71", func := "quoin/quoinlaw17.CollOrder", spec := "collOrder", unfollowed := true, recurses := true, apart := false }
def CollOrderSaid : Prop := collOrderRow.holds Try.pinned (OpenSpec.ofChange collOrderSpec)

/-- ITS FALSE NEIGHBOUR: 'it returns false'. Refute it at one input. -/
def collOrderWrong : ChangeSpec := { name := "collOrder", fn := fun _ => fun
  | [d] => { results := [.lit (.bool false)], args := [d] }
  | _ => none }
def CollOrderWrongFalsely : Prop := collOrderRow.holds Try.pinned (OpenSpec.ofChange collOrderWrong)

/- THE SECOND FORM. 'bulk': how many values and letters a reading holds, each counted each time it is reached (what is shared counts as often as it is met; a slice's spare places count too). A statement '..UptoSaid' is the law's where the arguments, and the package variables that the reading takes, are together of bulk at most 1048576: NARROWER than '..Said'. Prove '..Said' where nothing that the law and all that it calls make is longer than what came in: it says more and counts as full. Else prove '..UptoSaid'. A law counts once. -/
mutual
def uptoBulk {H : Type} : DataW H → Nat
  | .lit (.string bytes) => bytes.length + 1
  | .lit _ => 1
  | .nil => 1
  | .ptr d => uptoBulk d + 1
  | .slice elems spare => uptoBulkAll elems + uptoBulkAll spare + 1
  | .agg parts => uptoBulkAll parts + 1
  | .iface _ d => uptoBulk d + 1
  | .map entries => uptoBulkEntries entries + 1
  | .held _ => 1
def uptoBulkAll {H : Type} : List (DataW H) → Nat
  | [] => 0
  | d :: r => uptoBulk d + uptoBulkAll r
def uptoBulkEntries {H : Type} : List (Lit × DataW H) → Nat
  | [] => 0
  | x :: r => uptoBulkEntry x + uptoBulkEntries r
def uptoBulkEntry {H : Type} : Lit × DataW H → Nat
  | (.string bytes, d) => bytes.length + uptoBulk d + 1
  | (_, d) => uptoBulk d + 1
 end
def uptoSmall : (H : Type) → List (DataW H) → Bool := fun _ ds => decide (uptoBulkAll ds ≤ 1048576)
def OpenSpec.upto (s : _root_.Go.ChangeSpec) : _root_.Go.OpenSpec := { _root_.Go.OpenSpec.ofChange s with cond := some uptoSmall }

/-- 'quoinlaw17.CollTells', WHERE WHAT IT READS IS OF BULK AT MOST 1048576: true; the input reads as it did. -/
def collTellsUptoRow : OpenClaim := { program := "ytblbfmoipljhdaa", sum := "a0cf931595328f79e8326f0c60c5ef69fda757443cf27c2fa81170a6a1b09a71", func := "quoin/quoinlaw17.CollTells", spec := "collTells", unfollowed := true, recurses := true, apart := false, narrowed := true }
def CollTellsUptoSaid : Prop := collTellsUptoRow.holds Try.pinned (OpenSpec.upto collTellsSpec)

/-- 'quoinlaw17.CollOrder', WHERE WHAT IT READS IS OF BULK AT MOST 1048576: true; the input reads as it did. -/
def collOrderUptoRow : OpenClaim := { program := "ytblbfmoipljhdaa", sum := "a0cf931595328f79e8326f0c60c5ef69fda757443cf27c2fa81170a6a1b09a71", func := "quoin/quoinlaw17.CollOrder", spec := "collOrder", unfollowed := true, recurses := true, apart := false, narrowed := true }
def CollOrderUptoSaid : Prop := collOrderUptoRow.holds Try.pinned (OpenSpec.upto collOrderSpec)

end Rows
end Go.Proofs.Ytblbfmoipljhdaa
