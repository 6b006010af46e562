/-
  No cell of these rows narrows 'for every input' (looked for: loops, veiled, ifaces, maps, wideKeys, modest, calm, conditions, laid).
  DERIVED. THE GIVEN ROWS OF THIS SEAT. 5 by the template 'for every input the law returns true; each argument reads behind the call as it read before'; 0 by the template 'total and deterministic' (their statements: YthlpoboijggjnaaTotals.lean).
  GIVEN WITH THE SEED: the statements are not yours to turn. If you find one false, say at which input.
  Laid BY PROGRAM, IN A SANDBOX (cutbox-rows.mjs): the forced cells as the released guide's own fill.sh prints them over the translation efcafacb6401d5e6… (all of the seat's roots in one cut). By AI agents, Wed Nov 11 2026. No macro, syntax, notation, axiom, sorry.
-/
import Derived.Test.YthlpoboijggjnaaChecked
import GoSem.Claim
import GoSem.ClaimJoined
import GoSem.ClaimMapViews
import Derived.JoinedTies
import Derived.KernelRfl
namespace Go.Proofs.Ythlpoboijggjnaa
/- THE CELL 'sum', in the pinned program and in every row, IS THE sha256 OF THE DUMP (.gsa) THAT YthlpoboijggjnaaProg.lean LOADS. Nothing in Lean hashes anything: it is a label: what it is worth is what the hold of that sum in a sandbox is worth. -/
noncomputable def Try.pinned : Pinned := { name := "ythlpoboijggjnaa", sum := "efcafacb6401d5e6ff35b838fcce1c56b2fb743fb4081580078a17c5961524b6", checked := Try.checked }
namespace Rows
def none {H : Type} : Left H := { results := [], args := [] }

/-- 'aquiferlaw04.VdevNames': WHATEVER THE INPUT: true; the input reads as it did. -/
def vdevNamesSpec : ChangeSpec := { name := "vdevNames", fn := fun _ => fun
  | [] => { results := [.lit (.bool true)], args := [] }
  | _ => none }
def vdevNamesRow : OpenClaim := { program := "ythlpoboijggjnaa", sum := "efcafacb6401d5e6ff35b838fcce1c56b2fb743fb4081580078a17c5961524b6", func := "aquifer/aquiferlaw04.VdevNames", spec := "vdevNames", apart := false }
def VdevNamesSaid : Prop := vdevNamesRow.holds Try.pinned (OpenSpec.ofChange vdevNamesSpec)

/-- ITS FALSE NEIGHBOUR: 'it returns false'. Refute it at one input. -/
def vdevNamesWrong : ChangeSpec := { name := "vdevNames", fn := fun _ => fun
  | [] => { results := [.lit (.bool false)], args := [] }
  | _ => none }
def VdevNamesWrongFalsely : Prop := vdevNamesRow.holds Try.pinned (OpenSpec.ofChange vdevNamesWrong)

/-- 'aquiferlaw04.VdevFlushes': WHATEVER THE INPUT: true; the input reads as it did. -/
def vdevFlushesSpec : ChangeSpec := { name := "vdevFlushes", fn := fun _ => fun
  | [d1, d2, d3] => { results := [.lit (.bool true)], args := [d1, d2, d3] }
  | _ => none }
def vdevFlushesRow : OpenClaim := { program := "ythlpoboijggjnaa", sum := "efcafacb6401d5e6ff35b838fcce1c56b2fb743fb4081580078a17c5961524b6", func := "aquifer/aquiferlaw04.VdevFlushes", spec := "vdevFlushes", apart := false }
def VdevFlushesSaid : Prop := vdevFlushesRow.holds Try.pinned (OpenSpec.ofChange vdevFlushesSpec)

/-- ITS FALSE NEIGHBOUR: 'it returns false'. Refute it at one input. -/
def vdevFlushesWrong : ChangeSpec := { name := "vdevFlushes", fn := fun _ => fun
  | [d1, d2, d3] => { results := [.lit (.bool false)], args := [d1, d2, d3] }
  | _ => none }
def VdevFlushesWrongFalsely : Prop := vdevFlushesRow.holds Try.pinned (OpenSpec.ofChange vdevFlushesWrong)

/-- 'aquiferlaw04.VdevKeeps': WHATEVER THE INPUT: true; the input reads as it did. -/
def vdevKeepsSpec : ChangeSpec := { name := "vdevKeeps", fn := fun _ => fun
  | [d1, d2, d3] => { results := [.lit (.bool true)], args := [d1, d2, d3] }
  | _ => none }
def vdevKeepsRow : OpenClaim := { program := "ythlpoboijggjnaa", sum := "efcafacb6401d5e6ff35b838fcce1c56b2fb743fb4081580078a17c5961524b6", func := "aquifer/aquiferlaw04.VdevKeeps", spec := "vdevKeeps", apart := false }
def VdevKeepsSaid : Prop := vdevKeepsRow.holds Try.pinned (OpenSpec.ofChange vdevKeepsSpec)

/-- ITS FALSE NEIGHBOUR: 'it returns false'. Refute it at one input. -/
def vdevKeepsWrong : ChangeSpec := { name := "vdevKeeps", fn := fun _ => fun
  | [d1, d2, d3] => { results := [.lit (.bool false)], args := [d1, d2, d3] }
  | _ => none }
def VdevKeepsWrongFalsely : Prop := vdevKeepsRow.holds Try.pinned (OpenSpec.ofChange vdevKeepsWrong)

/-- 'aquiferlaw04.VdevEnds': WHATEVER THE INPUT: true; the input reads as it did. -/
def vdevEndsSpec : ChangeSpec := { name := "vdevEnds", fn := fun _ => fun
  | [d1, d2] => { results := [.lit (.bool true)], args := [d1, d2] }
  | _ => none }
def vdevEndsRow : OpenClaim := { program := "ythlpoboijggjnaa", sum := "efcafacb6401d5e6ff35b838fcce1c56b2fb743fb4081580078a17c5961524b6", func := "aquifer/aquiferlaw04.VdevEnds", spec := "vdevEnds", apart := false }
def VdevEndsSaid : Prop := vdevEndsRow.holds Try.pinned (OpenSpec.ofChange vdevEndsSpec)

/-- ITS FALSE NEIGHBOUR: 'it returns false'. Refute it at one input. -/
def vdevEndsWrong : ChangeSpec := { name := "vdevEnds", fn := fun _ => fun
  | [d1, d2] => { results := [.lit (.bool false)], args := [d1, d2] }
  | _ => none }
def VdevEndsWrongFalsely : Prop := vdevEndsRow.holds Try.pinned (OpenSpec.ofChange vdevEndsWrong)

/-- 'aquiferlaw04.VdevReads': WHATEVER THE INPUT: true; the input reads as it did. -/
def vdevReadsSpec : ChangeSpec := { name := "vdevReads", fn := fun _ => fun
  | [d1, d2] => { results := [.lit (.bool true)], args := [d1, d2] }
  | _ => none }
def vdevReadsRow : OpenClaim := { program := "ythlpoboijggjnaa", sum := "efcafacb6401d5e6ff35b838fcce1c56b2fb743fb4081580078a17c5961524b6", func := "aquifer/aquiferlaw04.VdevReads", spec := "vdevReads", apart := false }
def VdevReadsSaid : Prop := vdevReadsRow.holds Try.pinned (OpenSpec.ofChange vdevReadsSpec)

/-- ITS FALSE NEIGHBOUR: 'it returns false'. Refute it at one input. -/
def vdevReadsWrong : ChangeSpec := { name := "vdevReads", fn := fun _ => fun
  | [d1, d2] => { results := [.lit (.bool false)], args := [d1, d2] }
  | _ => none }
def VdevReadsWrongFalsely : Prop := vdevReadsRow.holds Try.pinned (OpenSpec.ofChange vdevReadsWrong)

/- THE SECOND FORM. 'bulk': how many values and letters a reading holds, each counted each time it is reached (what is shared counts as often as it is met; a slice's spare places count too). A statement '..UptoSaid' is the law's where the arguments, and the package variables that the reading takes, are together of bulk at most 1048576: NARROWER than '..Said'. Prove '..Said' where nothing that the law and all that it calls make is longer than what came in: it says more and counts as full. Else prove '..UptoSaid'. A law counts once. -/
mutual
def uptoBulk {H : Type} : DataW H → Nat
  | .lit (.string bytes) => bytes.length + 1
  | .lit _ => 1
  | .nil => 1
  | .ptr d => uptoBulk d + 1
  | .slice elems spare => uptoBulkAll elems + uptoBulkAll spare + 1
  | .agg parts => uptoBulkAll parts + 1
  | .iface _ d => uptoBulk d + 1
  | .map entries => uptoBulkEntries entries + 1
  | .held _ => 1
def uptoBulkAll {H : Type} : List (DataW H) → Nat
  | [] => 0
  | d :: r => uptoBulk d + uptoBulkAll r
def uptoBulkEntries {H : Type} : List (Lit × DataW H) → Nat
  | [] => 0
  | x :: r => uptoBulkEntry x + uptoBulkEntries r
def uptoBulkEntry {H : Type} : Lit × DataW H → Nat
  | (.string bytes, d) => bytes.length + uptoBulk d + 1
  | (_, d) => uptoBulk d + 1
 end
def uptoSmall : (H : Type) → List (DataW H) → Bool := fun _ ds => decide (uptoBulkAll ds ≤ 1048576)
def OpenSpec.upto (s : _root_.Go.ChangeSpec) : _root_.Go.OpenSpec := { _root_.Go.OpenSpec.ofChange s with cond := some uptoSmall }

/-- 'aquiferlaw04.VdevNames', WHERE WHAT IT READS IS OF BULK AT MOST 1048576: true; the input reads as it did. -/
def vdevNamesUptoRow : OpenClaim := { program := "ythlpoboijggjnaa", sum := "efcafacb6401d5e6ff35b838fcce1c56b2fb743fb4081580078a17c5961524b6", func := "aquifer/aquiferlaw04.VdevNames", spec := "vdevNames", apart := false, narrowed := true }
def VdevNamesUptoSaid : Prop := vdevNamesUptoRow.holds Try.pinned (OpenSpec.upto vdevNamesSpec)

/-- 'aquiferlaw04.VdevFlushes', WHERE WHAT IT READS IS OF BULK AT MOST 1048576: true; the input reads as it did. -/
def vdevFlushesUptoRow : OpenClaim := { program := "ythlpoboijggjnaa", sum := "efcafacb6401d5e6ff35b838fcce1c56b2fb743fb4081580078a17c5961524b6", func := "aquifer/aquiferlaw04.VdevFlushes", spec := "vdevFlushes", apart := false, narrowed := true }
def VdevFlushesUptoSaid : Prop := vdevFlushesUptoRow.holds Try.pinned (OpenSpec.upto vdevFlushesSpec)

/-- 'aquiferlaw04.VdevKeeps', WHERE WHAT IT READS IS OF BULK AT MOST 1048576: true; the input reads as it did. -/
def vdevKeepsUptoRow : OpenClaim := { program := "ythlpoboijggjnaa", sum := "efcafacb6401d5e6ff35b838fcce1c56b2fb743fb4081580078a17c5961524b6", func := "aquifer/aquiferlaw04.VdevKeeps", spec := "vdevKeeps", apart := false, narrowed := true }
def VdevKeepsUptoSaid : Prop := vdevKeepsUptoRow.holds Try.pinned (OpenSpec.upto vdevKeepsSpec)

/-- 'aquiferlaw04.VdevEnds', WHERE WHAT IT READS IS OF BULK AT MOST 1048576: true; the input reads as it did. -/
def vdevEndsUptoRow : OpenClaim := { program := "ythlpoboijggjnaa", sum := "efcafacb6401d5e6ff35b838fcce1c56b2fb743fb4081580078a17c5961524b6", func := "aquifer/aquiferlaw04.VdevEnds", spec := "vdevEnds", apart := false, narrowed := true }
def VdevEndsUptoSaid : Prop := vdevEndsUptoRow.holds Try.pinned (OpenSpec.upto vdevEndsSpec)

/-- 'aquiferlaw04.VdevReads', WHERE WHAT IT READS IS OF BULK AT MOST 1048576: true; the input reads as it did. -/
def vdevReadsUptoRow : OpenClaim := { program := "ythlpoboijggjnaa", sum := "efcafacb6401d5e6ff35b838fcce1c56b2fb743fb4081580078a17c5961524b6", func := "aquifer/aquiferlaw04.VdevReads", spec := "vdevReads", apart := false, narrowed := true }
def VdevReadsUptoSaid : Prop := vdevReadsUptoRow.holds Try.pinned (OpenSpec.upto vdevReadsSpec)

end Rows
end Go.Proofs.Ythlpoboijggjnaa
