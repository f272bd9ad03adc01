/-
  No cell of these rows narrows 'for every input' (looked for: loops, veiled, ifaces, maps, wideKeys, modest, calm, conditions, laid).
  DERIVED. THE GIVEN ROWS OF THIS SEAT. 2 by the template 'for every input the law returns true; each argument reads behind the call as it read before'; 0 by the template 'total and deterministic' (their statements: YtopigdkgjobdiaaTotals.lean).
  GIVEN WITH THE SEED: the statements are not yours to turn. If you find one false, say at which input.
  Laid BY PROGRAM, IN A SANDBOX (cutbox-rows.mjs): the forced cells as the released guide's own fill.sh prints them over the translation 342b13938be4f107… (all of the seat's roots in one cut). By AI agents, Wed Nov 11 2026. No macro, syntax, notation, axiom, sorry.
-/
import Derived.Test.YtopigdkgjobdiaaChecked
import GoSem.Claim
import GoSem.ClaimJoined
import GoSem.ClaimMapViews
import Derived.JoinedTies
import Derived.KernelRfl
namespace Go.Proofs.Ytopigdkgjobdiaa
/- THE CELL 'sum', in the pinned program and in every row, IS THE sha256 OF THE DUMP (.gsa) THAT YtopigdkgjobdiaaProg.lean LOADS. Nothing in Lean hashes anything: it is a label: what it is worth is what the hold of that sum in a sandbox is worth. -/
noncomputable def Try.pinned : Pinned := { name := "ytopigdkgjobdiaa", sum := "342b13938be4f107306d48c48af1554d2f9ab0213448448dbbccb2b8190c7684", checked := Try.checked }
namespace Rows
def none {H : Type} : Left H := { results := [], args := [] }

/-- 'pawllaw13.RatchetChecks': WHATEVER THE INPUT: true; the input reads as it did. -/
def ratchetChecksSpec : ChangeSpec := { name := "ratchetChecks", fn := fun _ => fun
  | [d] => { results := [.lit (.bool true)], args := [d] }
  | _ => none }
def ratchetChecksRow : OpenClaim := { program := "ytopigdkgjobdiaa", sum := "342b13938be4f107306d48c48af1554d2f9ab0213448448dbbccb2b8190c7684", func := "pawl/pawllaw13.RatchetChecks", spec := "ratchetChecks", inPlace := ["math/bits.Sub64", "math/bits.Add64"], unfollowed := true, recurses := true, plainKeys := false, apart := false }
def RatchetChecksSaid : Prop := ratchetChecksRow.holds Try.pinned (OpenSpec.ofChange ratchetChecksSpec)

/-- ITS FALSE NEIGHBOUR: 'it returns false'. Refute it at one input. -/
def ratchetChecksWrong : ChangeSpec := { name := "ratchetChecks", fn := fun _ => fun
  | [d] => { results := [.lit (.bool false)], args := [d] }
  | _ => none }
def RatchetChecksWrongFalsely : Prop := ratchetChecksRow.holds Try.pinned (OpenSpec.ofChange ratchetChecksWrong)

/-- 'pawllaw13.RatchetBegins': WHATEVER THE INPUT: true; the input reads as it did. -/
def ratchetBeginsSpec : ChangeSpec := { name := "ratchetBegins", fn := fun _ => fun
  | [d] => { results := [.lit (.bool true)], args := [d] }
  | _ => none }
def ratchetBeginsRow : OpenClaim := { program := "ytopigdkgjobdiaa", sum := "342b13938be4f107306d48c48af1554d2f9ab0213448448dbbccb2b8190c7684", func := "pawl/pawllaw13.RatchetBegins", spec := "ratchetBegins", inPlace := ["math/bits.Add64", "math/bits.Sub64"], unfollowed := true, recurses := true, plainKeys := false, apart := false }
def RatchetBeginsSaid : Prop := ratchetBeginsRow.holds Try.pinned (OpenSpec.ofChange ratchetBeginsSpec)

/-- ITS FALSE NEIGHBOUR: 'it returns false'. Refute it at one input. -/
def ratchetBeginsWrong : ChangeSpec := { name := "ratchetBegins", fn := fun _ => fun
  | [d] => { results := [.lit (.bool false)], args := [d] }
  | _ => none }
def RatchetBeginsWrongFalsely : Prop := ratchetBeginsRow.holds Try.pinned (OpenSpec.ofChange ratchetBeginsWrong)

/- THE SECOND FORM. 'bulk': how many values and letters a reading holds, each counted each time it is reached (what is shared counts as often as it is met; a slice's spare places count too). A statement '..UptoSaid' is the law's where the arguments, and the package variables that the reading takes, are together of bulk at most 1048576: NARROWER than '..Said'. Prove '..Said' where nothing that the law and all that it calls make is longer than what came in: it says more and counts as full. Else prove '..UptoSaid'. A law counts once. -/
mutual
def uptoBulk {H : Type} : DataW H → Nat
  | .lit (.string bytes) => bytes.length + 1
  | .lit _ => 1
  | .nil => 1
  | .ptr d => uptoBulk d + 1
  | .slice elems spare => uptoBulkAll elems + uptoBulkAll spare + 1
  | .agg parts => uptoBulkAll parts + 1
  | .iface _ d => uptoBulk d + 1
  | .map entries => uptoBulkEntries entries + 1
  | .held _ => 1
def uptoBulkAll {H : Type} : List (DataW H) → Nat
  | [] => 0
  | d :: r => uptoBulk d + uptoBulkAll r
def uptoBulkEntries {H : Type} : List (Lit × DataW H) → Nat
  | [] => 0
  | x :: r => uptoBulkEntry x + uptoBulkEntries r
def uptoBulkEntry {H : Type} : Lit × DataW H → Nat
  | (.string bytes, d) => bytes.length + uptoBulk d + 1
  | (_, d) => uptoBulk d + 1
 end
def uptoSmall : (H : Type) → List (DataW H) → Bool := fun _ ds => decide (uptoBulkAll ds ≤ 1048576)
def OpenSpec.upto (s : _root_.Go.ChangeSpec) : _root_.Go.OpenSpec := { _root_.Go.OpenSpec.ofChange s with cond := some uptoSmall }

/-- 'pawllaw13.RatchetChecks', WHERE WHAT IT READS IS OF BULK AT MOST 1048576: true; the input reads as it did. -/
def ratchetChecksUptoRow : OpenClaim := { program := "ytopigdkgjobdiaa", sum := "342b13938be4f107306d48c48af1554d2f9ab0213448448dbbccb2b8190c7684", func := "pawl/pawllaw13.RatchetChecks", spec := "ratchetChecks", inPlace := ["math/bits.Sub64", "math/bits.Add64"], unfollowed := true, recurses := true, plainKeys := false, apart := false, narrowed := true }
def RatchetChecksUptoSaid : Prop := ratchetChecksUptoRow.holds Try.pinned (OpenSpec.upto ratchetChecksSpec)

/-- 'pawllaw13.RatchetBegins', WHERE WHAT IT READS IS OF BULK AT MOST 1048576: true; the input reads as it did. -/
def ratchetBeginsUptoRow : OpenClaim := { program := "ytopigdkgjobdiaa", sum := "342b13938be4f107306d48c48af1554d2f9ab0213448448dbbccb2b8190c7684", func := "pawl/pawllaw13.RatchetBegins", spec := "ratchetBegins", inPlace := ["math/bits.Add64", "math/bits.Sub64"], unfollowed := true, recurses := true, plainKeys := false, apart := false, narrowed := true }
def RatchetBeginsUptoSaid : Prop := ratchetBeginsUptoRow.holds Try.pinned (OpenSpec.upto ratchetBeginsSpec)

end Rows
end Go.Proofs.Ytopigdkgjobdiaa
