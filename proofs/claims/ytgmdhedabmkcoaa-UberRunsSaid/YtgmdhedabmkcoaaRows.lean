/-
  No cell of these rows narrows 'for every input' (looked for: loops, veiled, ifaces, maps, wideKeys, modest, calm, conditions, laid).
  DERIVED. THE GIVEN ROWS OF THIS SEAT. 6 by the template 'for every input the law returns true; each argument reads behind the call as it read before'; 0 by the template 'total and deterministic' (their statements: YtgmdhedabmkcoaaTotals.lean).
  GIVEN WITH THE SEED: the statements are not yours to turn. If you find one false, say at which input.
  Laid BY PROGRAM, IN A SANDBOX (cutbox-rows.mjs): the forced cells as the released guide's own fill.sh prints them over the translation 3ed028776a8cfb27… (all of the seat's roots in one cut). By AI agents, Wed Nov 11 2026. No macro, syntax, notation, axiom, sorry.
-/
import Derived.Test.YtgmdhedabmkcoaaChecked
import GoSem.Claim
import GoSem.ClaimJoined
import GoSem.ClaimMapViews
import Derived.JoinedTies
import Derived.KernelRfl
namespace Go.Proofs.Ytgmdhedabmkcoaa
/- THE CELL 'sum', in the pinned program and in every row, IS THE sha256 OF THE DUMP (.gsa) THAT YtgmdhedabmkcoaaProg.lean LOADS. Nothing in Lean hashes anything: it is a label: what it is worth is what the hold of that sum in a sandbox is worth. -/
noncomputable def Try.pinned : Pinned := { name := "ytgmdhedabmkcoaa", sum := "3ed028776a8cfb275dd0769c7ebe3b652c1de5a76ad0a0ea6613277f7a4df349", checked := Try.checked }
namespace Rows
def none {H : Type} : Left H := { results := [], args := [] }

/-- 'aquiferlaw06.UberNames': WHATEVER THE INPUT: true; the input reads as it did. -/
def uberNamesSpec : ChangeSpec := { name := "uberNames", fn := fun _ => fun
  | [] => { results := [.lit (.bool true)], args := [] }
  | _ => none }
def uberNamesRow : OpenClaim := { program := "ytgmdhedabmkcoaa", sum := "3ed028776a8cfb275dd0769c7ebe3b652c1de5a76ad0a0ea6613277f7a4df349", func := "aquifer/aquiferlaw06.UberNames", spec := "uberNames", unfollowed := true, recurses := true, apart := false }
def UberNamesSaid : Prop := uberNamesRow.holds Try.pinned (OpenSpec.ofChange uberNamesSpec)

/-- ITS FALSE NEIGHBOUR: 'it returns false'. Refute it at one input. -/
def uberNamesWrong : ChangeSpec := { name := "uberNames", fn := fun _ => fun
  | [] => { results := [.lit (.bool false)], args := [] }
  | _ => none }
def UberNamesWrongFalsely : Prop := uberNamesRow.holds Try.pinned (OpenSpec.ofChange uberNamesWrong)

/-- 'aquiferlaw06.UberBytes': WHATEVER THE INPUT: true; the input reads as it did. -/
def uberBytesSpec : ChangeSpec := { name := "uberBytes", fn := fun _ => fun
  | [d1, d2] => { results := [.lit (.bool true)], args := [d1, d2] }
  | _ => none }
def uberBytesRow : OpenClaim := { program := "ytgmdhedabmkcoaa", sum := "3ed028776a8cfb275dd0769c7ebe3b652c1de5a76ad0a0ea6613277f7a4df349", func := "aquifer/aquiferlaw06.UberBytes", spec := "uberBytes", unfollowed := true, recurses := true, apart := false }
def UberBytesSaid : Prop := uberBytesRow.holds Try.pinned (OpenSpec.ofChange uberBytesSpec)

/-- ITS FALSE NEIGHBOUR: 'it returns false'. Refute it at one input. -/
def uberBytesWrong : ChangeSpec := { name := "uberBytes", fn := fun _ => fun
  | [d1, d2] => { results := [.lit (.bool false)], args := [d1, d2] }
  | _ => none }
def UberBytesWrongFalsely : Prop := uberBytesRow.holds Try.pinned (OpenSpec.ofChange uberBytesWrong)

/-- 'aquiferlaw06.UberApart': WHATEVER THE INPUT: true; the input reads as it did. -/
def uberApartSpec : ChangeSpec := { name := "uberApart", fn := fun _ => fun
  | [d1, d2] => { results := [.lit (.bool true)], args := [d1, d2] }
  | _ => none }
def uberApartRow : OpenClaim := { program := "ytgmdhedabmkcoaa", sum := "3ed028776a8cfb275dd0769c7ebe3b652c1de5a76ad0a0ea6613277f7a4df349", func := "aquifer/aquiferlaw06.UberApart", spec := "uberApart", unfollowed := true, recurses := true, apart := false }
def UberApartSaid : Prop := uberApartRow.holds Try.pinned (OpenSpec.ofChange uberApartSpec)

/-- ITS FALSE NEIGHBOUR: 'it returns false'. Refute it at one input. -/
def uberApartWrong : ChangeSpec := { name := "uberApart", fn := fun _ => fun
  | [d1, d2] => { results := [.lit (.bool false)], args := [d1, d2] }
  | _ => none }
def UberApartWrongFalsely : Prop := uberApartRow.holds Try.pinned (OpenSpec.ofChange uberApartWrong)

/-- 'aquiferlaw06.UberTurns': WHATEVER THE INPUT: true; the input reads as it did. -/
def uberTurnsSpec : ChangeSpec := { name := "uberTurns", fn := fun _ => fun
  | [d] => { results := [.lit (.bool true)], args := [d] }
  | _ => none }
def uberTurnsRow : OpenClaim := { program := "ytgmdhedabmkcoaa", sum := "3ed028776a8cfb275dd0769c7ebe3b652c1de5a76ad0a0ea6613277f7a4df349", func := "aquifer/aquiferlaw06.UberTurns", spec := "uberTurns", unfollowed := true, recurses := true, apart := false }
def UberTurnsSaid : Prop := uberTurnsRow.holds Try.pinned (OpenSpec.ofChange uberTurnsSpec)

/-- ITS FALSE NEIGHBOUR: 'it returns false'. Refute it at one input. -/
def uberTurnsWrong : ChangeSpec := { name := "uberTurns", fn := fun _ => fun
  | [d] => { results := [.lit (.bool false)], args := [d] }
  | _ => none }
def UberTurnsWrongFalsely : Prop := uberTurnsRow.holds Try.pinned (OpenSpec.ofChange uberTurnsWrong)

/-- 'aquiferlaw06.UberSpoils': WHATEVER THE INPUT: true; the input reads as it did. -/
def uberSpoilsSpec : ChangeSpec := { name := "uberSpoils", fn := fun _ => fun
  | [d1, d2, d3] => { results := [.lit (.bool true)], args := [d1, d2, d3] }
  | _ => none }
def uberSpoilsRow : OpenClaim := { program := "ytgmdhedabmkcoaa", sum := "3ed028776a8cfb275dd0769c7ebe3b652c1de5a76ad0a0ea6613277f7a4df349", func := "aquifer/aquiferlaw06.UberSpoils", spec := "uberSpoils", unfollowed := true, recurses := true, apart := false }
def UberSpoilsSaid : Prop := uberSpoilsRow.holds Try.pinned (OpenSpec.ofChange uberSpoilsSpec)

/-- ITS FALSE NEIGHBOUR: 'it returns false'. Refute it at one input. -/
def uberSpoilsWrong : ChangeSpec := { name := "uberSpoils", fn := fun _ => fun
  | [d1, d2, d3] => { results := [.lit (.bool false)], args := [d1, d2, d3] }
  | _ => none }
def UberSpoilsWrongFalsely : Prop := uberSpoilsRow.holds Try.pinned (OpenSpec.ofChange uberSpoilsWrong)

/-- 'aquiferlaw06.UberRuns': WHATEVER THE INPUT: true; the input reads as it did. -/
def uberRunsSpec : ChangeSpec := { name := "uberRuns", fn := fun _ => fun
  | [d1, d2] => { results := [.lit (.bool true)], args := [d1, d2] }
  | _ => none }
def uberRunsRow : OpenClaim := { program := "ytgmdhedabmkcoaa", sum := "3ed028776a8cfb275dd0769c7ebe3b652c1de5a76ad0a0ea6613277f7a4df349", func := "aquifer/aquiferlaw06.UberRuns", spec := "uberRuns", unfollowed := true, recurses := true, apart := false }
def UberRunsSaid : Prop := uberRunsRow.holds Try.pinned (OpenSpec.ofChange uberRunsSpec)

/-- ITS FALSE NEIGHBOUR: 'it returns false'. Refute it at one input. -/
def uberRunsWrong : ChangeSpec := { name := "uberRuns", fn := fun _ => fun
  | [d1, d2] => { results := [.lit (.bool false)], args := [d1, d2] }
  | _ => none }
def UberRunsWrongFalsely : Prop := uberRunsRow.holds Try.pinned (OpenSpec.ofChange uberRunsWrong)

/- THE SECOND FORM. 'bulk': how many values and letters a reading holds, each counted each time it is reached (what is shared counts as often as it is met; a slice's spare places count too). A statement '..UptoSaid' is the law's where the arguments, and the package variables that the reading takes, are together of bulk at most 1048576: NARROWER than '..Said'. Prove '..Said' where nothing that the law and all that it calls make is longer than what came in: it says more and counts as full. Else prove '..UptoSaid'. A law counts once. -/
mutual
def uptoBulk {H : Type} : DataW H → Nat
  | .lit (.string bytes) => bytes.length + 1
  | .lit _ => 1
  | .nil => 1
  | .ptr d => uptoBulk d + 1
  | .slice elems spare => uptoBulkAll elems + uptoBulkAll spare + 1
  | .agg parts => uptoBulkAll parts + 1
  | .iface _ d => uptoBulk d + 1
  | .map entries => uptoBulkEntries entries + 1
  | .held _ => 1
def uptoBulkAll {H : Type} : List (DataW H) → Nat
  | [] => 0
  | d :: r => uptoBulk d + uptoBulkAll r
def uptoBulkEntries {H : Type} : List (Lit × DataW H) → Nat
  | [] => 0
  | x :: r => uptoBulkEntry x + uptoBulkEntries r
def uptoBulkEntry {H : Type} : Lit × DataW H → Nat
  | (.string bytes, d) => bytes.length + uptoBulk d + 1
  | (_, d) => uptoBulk d + 1
 end
def uptoSmall : (H : Type) → List (DataW H) → Bool := fun _ ds => decide (uptoBulkAll ds ≤ 1048576)
def OpenSpec.upto (s : _root_.Go.ChangeSpec) : _root_.Go.OpenSpec := { _root_.Go.OpenSpec.ofChange s with cond := some uptoSmall }

/-- 'aquiferlaw06.UberNames', WHERE WHAT IT READS IS OF BULK AT MOST 1048576: true; the input reads as it did. -/
def uberNamesUptoRow : OpenClaim := { program := "ytgmdhedabmkcoaa", sum := "3ed028776a8cfb275dd0769c7ebe3b652c1de5a76ad0a0ea6613277f7a4df349", func := "aquifer/aquiferlaw06.UberNames", spec := "uberNames", unfollowed := true, recurses := true, apart := false, narrowed := true }
def UberNamesUptoSaid : Prop := uberNamesUptoRow.holds Try.pinned (OpenSpec.upto uberNamesSpec)

/-- 'aquiferlaw06.UberBytes', WHERE WHAT IT READS IS OF BULK AT MOST 1048576: true; the input reads as it did. -/
def uberBytesUptoRow : OpenClaim := { program := "ytgmdhedabmkcoaa", sum := "3ed028776a8cfb275dd0769c7ebe3b652c1de5a76ad0a0ea6613277f7a4df349", func := "aquifer/aquiferlaw06.UberBytes", spec := "uberBytes", unfollowed := true, recurses := true, apart := false, narrowed := true }
def UberBytesUptoSaid : Prop := uberBytesUptoRow.holds Try.pinned (OpenSpec.upto uberBytesSpec)

/-- 'aquiferlaw06.UberApart', WHERE WHAT IT READS IS OF BULK AT MOST 1048576: true; the input reads as it did. -/
def uberApartUptoRow : OpenClaim := { program := "ytgmdhedabmkcoaa", sum := "3ed028776a8cfb275dd0769c7ebe3b652c1de5a76ad0a0ea6613277f7a4df349", func := "aquifer/aquiferlaw06.UberApart", spec := "uberApart", unfollowed := true, recurses := true, apart := false, narrowed := true }
def UberApartUptoSaid : Prop := uberApartUptoRow.holds Try.pinned (OpenSpec.upto uberApartSpec)

/-- 'aquiferlaw06.UberTurns', WHERE WHAT IT READS IS OF BULK AT MOST 1048576: true; the input reads as it did. -/
def uberTurnsUptoRow : OpenClaim := { program := "ytgmdhedabmkcoaa", sum := "3ed028776a8cfb275dd0769c7ebe3b652c1de5a76ad0a0ea6613277f7a4df349", func := "aquifer/aquiferlaw06.UberTurns", spec := "uberTurns", unfollowed := true, recurses := true, apart := false, narrowed := true }
def UberTurnsUptoSaid : Prop := uberTurnsUptoRow.holds Try.pinned (OpenSpec.upto uberTurnsSpec)

/-- 'aquiferlaw06.UberSpoils', WHERE WHAT IT READS IS OF BULK AT MOST 1048576: true; the input reads as it did. -/
def uberSpoilsUptoRow : OpenClaim := { program := "ytgmdhedabmkcoaa", sum := "3ed028776a8cfb275dd0769c7ebe3b652c1de5a76ad0a0ea6613277f7a4df349", func := "aquifer/aquiferlaw06.UberSpoils", spec := "uberSpoils", unfollowed := true, recurses := true, apart := false, narrowed := true }
def UberSpoilsUptoSaid : Prop := uberSpoilsUptoRow.holds Try.pinned (OpenSpec.upto uberSpoilsSpec)

/-- 'aquiferlaw06.UberRuns', WHERE WHAT IT READS IS OF BULK AT MOST 1048576: true; the input reads as it did. -/
def uberRunsUptoRow : OpenClaim := { program := "ytgmdhedabmkcoaa", sum := "3ed028776a8cfb275dd0769c7ebe3b652c1de5a76ad0a0ea6613277f7a4df349", func := "aquifer/aquiferlaw06.UberRuns", spec := "uberRuns", unfollowed := true, recurses := true, apart := false, narrowed := true }
def UberRunsUptoSaid : Prop := uberRunsUptoRow.holds Try.pinned (OpenSpec.upto uberRunsSpec)

end Rows
end Go.Proofs.Ytgmdhedabmkcoaa
