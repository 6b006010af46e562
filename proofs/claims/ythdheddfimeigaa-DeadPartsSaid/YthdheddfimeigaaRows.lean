/-
  No cell of these rows narrows 'for every input' (looked for: loops, veiled, ifaces, maps, wideKeys, modest, calm, conditions, laid).
  DERIVED. THE GIVEN ROWS OF THIS SEAT. 7 by the template 'for every input the law returns true; each argument reads behind the call as it read before'; 0 by the template 'total and deterministic' (their statements: YthdheddfimeigaaTotals.lean).
  GIVEN WITH THE SEED: the statements are not yours to turn. If you find one false, say at which input.
  Laid BY PROGRAM, IN A SANDBOX (cutbox-rows.mjs): the forced cells as the released guide's own fill.sh prints them over the translation 976fa58d8a11d031… (all of the seat's roots in one cut). By AI agents, Wed Nov 11 2026. No macro, syntax, notation, axiom, sorry.
-/
import Derived.Test.YthdheddfimeigaaChecked
import GoSem.Claim
import GoSem.ClaimJoined
import GoSem.ClaimMapViews
import Derived.JoinedTies
import Derived.KernelRfl
namespace Go.Proofs.Ythdheddfimeigaa
/- THE CELL 'sum', in the pinned program and in every row, IS THE sha256 OF THE DUMP (.gsa) THAT YthdheddfimeigaaProg.lean LOADS. Nothing in Lean hashes anything: it is a label: what it is worth is what the hold of that sum in a sandbox is worth. -/
noncomputable def Try.pinned : Pinned := { name := "ythdheddfimeigaa", sum := "976fa58d8a11d031611af38bb00b3431f99ea904761c3d90865bbe25607564ce", checked := Try.checked }
namespace Rows
def none {H : Type} : Left H := { results := [], args := [] }

/-- 'aquiferlaw13.DeadNames': WHATEVER THE INPUT: true; the input reads as it did. -/
def deadNamesSpec : ChangeSpec := { name := "deadNames", fn := fun _ => fun
  | [] => { results := [.lit (.bool true)], args := [] }
  | _ => none }
def deadNamesRow : OpenClaim := { program := "ythdheddfimeigaa", sum := "976fa58d8a11d031611af38bb00b3431f99ea904761c3d90865bbe25607564ce", func := "aquifer/aquiferlaw13.DeadNames", spec := "deadNames", unfollowed := true, recurses := true, apart := false }
def DeadNamesSaid : Prop := deadNamesRow.holds Try.pinned (OpenSpec.ofChange deadNamesSpec)

/-- ITS FALSE NEIGHBOUR: 'it returns false'. Refute it at one input. -/
def deadNamesWrong : ChangeSpec := { name := "deadNames", fn := fun _ => fun
  | [] => { results := [.lit (.bool false)], args := [] }
  | _ => none }
def DeadNamesWrongFalsely : Prop := deadNamesRow.holds Try.pinned (OpenSpec.ofChange deadNamesWrong)

/-- 'aquiferlaw13.DeadAdds': WHATEVER THE INPUT: true; the input reads as it did. -/
def deadAddsSpec : ChangeSpec := { name := "deadAdds", fn := fun _ => fun
  | [d1, d2, d3] => { results := [.lit (.bool true)], args := [d1, d2, d3] }
  | _ => none }
def deadAddsRow : OpenClaim := { program := "ythdheddfimeigaa", sum := "976fa58d8a11d031611af38bb00b3431f99ea904761c3d90865bbe25607564ce", func := "aquifer/aquiferlaw13.DeadAdds", spec := "deadAdds", unfollowed := true, recurses := true, apart := false }
def DeadAddsSaid : Prop := deadAddsRow.holds Try.pinned (OpenSpec.ofChange deadAddsSpec)

/-- ITS FALSE NEIGHBOUR: 'it returns false'. Refute it at one input. -/
def deadAddsWrong : ChangeSpec := { name := "deadAdds", fn := fun _ => fun
  | [d1, d2, d3] => { results := [.lit (.bool false)], args := [d1, d2, d3] }
  | _ => none }
def DeadAddsWrongFalsely : Prop := deadAddsRow.holds Try.pinned (OpenSpec.ofChange deadAddsWrong)

/-- 'aquiferlaw13.DeadCuts': WHATEVER THE INPUT: true; the input reads as it did. -/
def deadCutsSpec : ChangeSpec := { name := "deadCuts", fn := fun _ => fun
  | [d1, d2, d3] => { results := [.lit (.bool true)], args := [d1, d2, d3] }
  | _ => none }
def deadCutsRow : OpenClaim := { program := "ythdheddfimeigaa", sum := "976fa58d8a11d031611af38bb00b3431f99ea904761c3d90865bbe25607564ce", func := "aquifer/aquiferlaw13.DeadCuts", spec := "deadCuts", unfollowed := true, recurses := true, apart := false }
def DeadCutsSaid : Prop := deadCutsRow.holds Try.pinned (OpenSpec.ofChange deadCutsSpec)

/-- ITS FALSE NEIGHBOUR: 'it returns false'. Refute it at one input. -/
def deadCutsWrong : ChangeSpec := { name := "deadCuts", fn := fun _ => fun
  | [d1, d2, d3] => { results := [.lit (.bool false)], args := [d1, d2, d3] }
  | _ => none }
def DeadCutsWrongFalsely : Prop := deadCutsRow.holds Try.pinned (OpenSpec.ofChange deadCutsWrong)

/-- 'aquiferlaw13.DeadMerges': WHATEVER THE INPUT: true; the input reads as it did. -/
def deadMergesSpec : ChangeSpec := { name := "deadMerges", fn := fun _ => fun
  | [d1, d2] => { results := [.lit (.bool true)], args := [d1, d2] }
  | _ => none }
def deadMergesRow : OpenClaim := { program := "ythdheddfimeigaa", sum := "976fa58d8a11d031611af38bb00b3431f99ea904761c3d90865bbe25607564ce", func := "aquifer/aquiferlaw13.DeadMerges", spec := "deadMerges", unfollowed := true, recurses := true, apart := false }
def DeadMergesSaid : Prop := deadMergesRow.holds Try.pinned (OpenSpec.ofChange deadMergesSpec)

/-- ITS FALSE NEIGHBOUR: 'it returns false'. Refute it at one input. -/
def deadMergesWrong : ChangeSpec := { name := "deadMerges", fn := fun _ => fun
  | [d1, d2] => { results := [.lit (.bool false)], args := [d1, d2] }
  | _ => none }
def DeadMergesWrongFalsely : Prop := deadMergesRow.holds Try.pinned (OpenSpec.ofChange deadMergesWrong)

/-- 'aquiferlaw13.DeadTurns': WHATEVER THE INPUT: true; the input reads as it did. -/
def deadTurnsSpec : ChangeSpec := { name := "deadTurns", fn := fun _ => fun
  | [d1, d2] => { results := [.lit (.bool true)], args := [d1, d2] }
  | _ => none }
def deadTurnsRow : OpenClaim := { program := "ythdheddfimeigaa", sum := "976fa58d8a11d031611af38bb00b3431f99ea904761c3d90865bbe25607564ce", func := "aquifer/aquiferlaw13.DeadTurns", spec := "deadTurns", unfollowed := true, recurses := true, apart := false }
def DeadTurnsSaid : Prop := deadTurnsRow.holds Try.pinned (OpenSpec.ofChange deadTurnsSpec)

/-- ITS FALSE NEIGHBOUR: 'it returns false'. Refute it at one input. -/
def deadTurnsWrong : ChangeSpec := { name := "deadTurns", fn := fun _ => fun
  | [d1, d2] => { results := [.lit (.bool false)], args := [d1, d2] }
  | _ => none }
def DeadTurnsWrongFalsely : Prop := deadTurnsRow.holds Try.pinned (OpenSpec.ofChange deadTurnsWrong)

/-- 'aquiferlaw13.DeadBytes': WHATEVER THE INPUT: true; the input reads as it did. -/
def deadBytesSpec : ChangeSpec := { name := "deadBytes", fn := fun _ => fun
  | [d1, d2] => { results := [.lit (.bool true)], args := [d1, d2] }
  | _ => none }
def deadBytesRow : OpenClaim := { program := "ythdheddfimeigaa", sum := "976fa58d8a11d031611af38bb00b3431f99ea904761c3d90865bbe25607564ce", func := "aquifer/aquiferlaw13.DeadBytes", spec := "deadBytes", unfollowed := true, recurses := true, apart := false }
def DeadBytesSaid : Prop := deadBytesRow.holds Try.pinned (OpenSpec.ofChange deadBytesSpec)

/-- ITS FALSE NEIGHBOUR: 'it returns false'. Refute it at one input. -/
def deadBytesWrong : ChangeSpec := { name := "deadBytes", fn := fun _ => fun
  | [d1, d2] => { results := [.lit (.bool false)], args := [d1, d2] }
  | _ => none }
def DeadBytesWrongFalsely : Prop := deadBytesRow.holds Try.pinned (OpenSpec.ofChange deadBytesWrong)

/-- 'aquiferlaw13.DeadParts': WHATEVER THE INPUT: true; the input reads as it did. -/
def deadPartsSpec : ChangeSpec := { name := "deadParts", fn := fun _ => fun
  | [d1, d2] => { results := [.lit (.bool true)], args := [d1, d2] }
  | _ => none }
def deadPartsRow : OpenClaim := { program := "ythdheddfimeigaa", sum := "976fa58d8a11d031611af38bb00b3431f99ea904761c3d90865bbe25607564ce", func := "aquifer/aquiferlaw13.DeadParts", spec := "deadParts", unfollowed := true, recurses := true, apart := false }
def DeadPartsSaid : Prop := deadPartsRow.holds Try.pinned (OpenSpec.ofChange deadPartsSpec)

/-- ITS FALSE NEIGHBOUR: 'it returns false'. Refute it at one input. -/
def deadPartsWrong : ChangeSpec := { name := "deadParts", fn := fun _ => fun
  | [d1, d2] => { results := [.lit (.bool false)], args := [d1, d2] }
  | _ => none }
def DeadPartsWrongFalsely : Prop := deadPartsRow.holds Try.pinned (OpenSpec.ofChange deadPartsWrong)

/- THE SECOND FORM. 'bulk': how many values and letters a reading holds, each counted each time it is reached (what is shared counts as often as it is met; a slice's spare places count too). A statement '..UptoSaid' is the law's where the arguments, and the package variables that the reading takes, are together of bulk at most 1048576: NARROWER than '..Said'. Prove '..Said' where nothing that the law and all that it calls make is longer than what came in: it says more and counts as full. Else prove '..UptoSaid'. A law counts once. -/
mutual
def uptoBulk {H : Type} : DataW H → Nat
  | .lit (.string bytes) => bytes.length + 1
  | .lit _ => 1
  | .nil => 1
  | .ptr d => uptoBulk d + 1
  | .slice elems spare => uptoBulkAll elems + uptoBulkAll spare + 1
  | .agg parts => uptoBulkAll parts + 1
  | .iface _ d => uptoBulk d + 1
  | .map entries => uptoBulkEntries entries + 1
  | .held _ => 1
def uptoBulkAll {H : Type} : List (DataW H) → Nat
  | [] => 0
  | d :: r => uptoBulk d + uptoBulkAll r
def uptoBulkEntries {H : Type} : List (Lit × DataW H) → Nat
  | [] => 0
  | x :: r => uptoBulkEntry x + uptoBulkEntries r
def uptoBulkEntry {H : Type} : Lit × DataW H → Nat
  | (.string bytes, d) => bytes.length + uptoBulk d + 1
  | (_, d) => uptoBulk d + 1
 end
def uptoSmall : (H : Type) → List (DataW H) → Bool := fun _ ds => decide (uptoBulkAll ds ≤ 1048576)
def OpenSpec.upto (s : _root_.Go.ChangeSpec) : _root_.Go.OpenSpec := { _root_.Go.OpenSpec.ofChange s with cond := some uptoSmall }

/-- 'aquiferlaw13.DeadNames', WHERE WHAT IT READS IS OF BULK AT MOST 1048576: true; the input reads as it did. -/
def deadNamesUptoRow : OpenClaim := { program := "ythdheddfimeigaa", sum := "976fa58d8a11d031611af38bb00b3431f99ea904761c3d90865bbe25607564ce", func := "aquifer/aquiferlaw13.DeadNames", spec := "deadNames", unfollowed := true, recurses := true, apart := false, narrowed := true }
def DeadNamesUptoSaid : Prop := deadNamesUptoRow.holds Try.pinned (OpenSpec.upto deadNamesSpec)

/-- 'aquiferlaw13.DeadAdds', WHERE WHAT IT READS IS OF BULK AT MOST 1048576: true; the input reads as it did. -/
def deadAddsUptoRow : OpenClaim := { program := "ythdheddfimeigaa", sum := "976fa58d8a11d031611af38bb00b3431f99ea904761c3d90865bbe25607564ce", func := "aquifer/aquiferlaw13.DeadAdds", spec := "deadAdds", unfollowed := true, recurses := true, apart := false, narrowed := true }
def DeadAddsUptoSaid : Prop := deadAddsUptoRow.holds Try.pinned (OpenSpec.upto deadAddsSpec)

/-- 'aquiferlaw13.DeadCuts', WHERE WHAT IT READS IS OF BULK AT MOST 1048576: true; the input reads as it did. -/
def deadCutsUptoRow : OpenClaim := { program := "ythdheddfimeigaa", sum := "976fa58d8a11d031611af38bb00b3431f99ea904761c3d90865bbe25607564ce", func := "aquifer/aquiferlaw13.DeadCuts", spec := "deadCuts", unfollowed := true, recurses := true, apart := false, narrowed := true }
def DeadCutsUptoSaid : Prop := deadCutsUptoRow.holds Try.pinned (OpenSpec.upto deadCutsSpec)

/-- 'aquiferlaw13.DeadMerges', WHERE WHAT IT READS IS OF BULK AT MOST 1048576: true; the input reads as it did. -/
def deadMergesUptoRow : OpenClaim := { program := "ythdheddfimeigaa", sum := "976fa58d8a11d031611af38bb00b3431f99ea904761c3d90865bbe25607564ce", func := "aquifer/aquiferlaw13.DeadMerges", spec := "deadMerges", unfollowed := true, recurses := true, apart := false, narrowed := true }
def DeadMergesUptoSaid : Prop := deadMergesUptoRow.holds Try.pinned (OpenSpec.upto deadMergesSpec)

/-- 'aquiferlaw13.DeadTurns', WHERE WHAT IT READS IS OF BULK AT MOST 1048576: true; the input reads as it did. -/
def deadTurnsUptoRow : OpenClaim := { program := "ythdheddfimeigaa", sum := "976fa58d8a11d031611af38bb00b3431f99ea904761c3d90865bbe25607564ce", func := "aquifer/aquiferlaw13.DeadTurns", spec := "deadTurns", unfollowed := true, recurses := true, apart := false, narrowed := true }
def DeadTurnsUptoSaid : Prop := deadTurnsUptoRow.holds Try.pinned (OpenSpec.upto deadTurnsSpec)

/-- 'aquiferlaw13.DeadBytes', WHERE WHAT IT READS IS OF BULK AT MOST 1048576: true; the input reads as it did. -/
def deadBytesUptoRow : OpenClaim := { program := "ythdheddfimeigaa", sum := "976fa58d8a11d031611af38bb00b3431f99ea904761c3d90865bbe25607564ce", func := "aquifer/aquiferlaw13.DeadBytes", spec := "deadBytes", unfollowed := true, recurses := true, apart := false, narrowed := true }
def DeadBytesUptoSaid : Prop := deadBytesUptoRow.holds Try.pinned (OpenSpec.upto deadBytesSpec)

/-- 'aquiferlaw13.DeadParts', WHERE WHAT IT READS IS OF BULK AT MOST 1048576: true; the input reads as it did. -/
def deadPartsUptoRow : OpenClaim := { program := "ythdheddfimeigaa", sum := "976fa58d8a11d031611af38bb00b3431f99ea904761c3d90865bbe25607564ce", func := "aquifer/aquiferlaw13.DeadParts", spec := "deadParts", unfollowed := true, recurses := true, apart := false, narrowed := true }
def DeadPartsUptoSaid : Prop := deadPartsUptoRow.holds Try.pinned (OpenSpec.upto deadPartsSpec)

end Rows
end Go.Proofs.Ythdheddfimeigaa
