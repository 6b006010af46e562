/-
  aquiferlaw13.DeadMerges: for every input of bulk at most 1048576 the law returns true, and each argument reads as it did. No condition beside that bound.
-/
import Derived.Test.YthdheddfimeigaaDeadL6
import Derived.OpenShut
import Derived.ShutString
import Derived.ChangeOld
import Derived.Deep.CondSized
namespace Go.Proofs.Ythdheddfimeigaa.deadMergesRow
open Go.ChangeShapes Go.WideShapes Go.ChangeAt Go.RowKit
set_option linter.unusedVariables false

theorem own : ownKnob Try.prog.godebug = none := by kernel_rfl
theorem laidOut : laidOutB Try.prog = true := by kernel_rfl

theorem cells_0 : Try.prog.cellsOf 29 = 3 := by kernel_rfl
theorem bytes_0 : Try.prog.bytesOf 29 = 24 := by kernel_rfl

theorem cells_1 : Try.prog.cellsOf 29 = 3 := by kernel_rfl
theorem bytes_1 : Try.prog.bytesOf 29 = 24 := by kernel_rfl

set_option maxRecDepth 100000 in
theorem lifted (os : Os) (started : os.Started) (H : Type) (enc : TypeId × Value → H) (FF : Stop.Interp) :
    ReturnsInHanded {} Try.checked os 6 .any ((Rows.OpenSpec.upto Rows.deadMergesSpec).pre6 enc Try.prog Try.f6 Rows.deadMergesUptoRow.domain false) (((Rows.OpenSpec.upto Rows.deadMergesSpec).at FF).post enc Try.prog Try.f6 false true false false) := by
  refine returnsInHanded_of_cond_sized (C := Try.checked) (s := (Rows.OpenSpec.upto Rows.deadMergesSpec)) (k := Rows.uptoSmall) rfl own started (by kernel_rfl) Try.func6
    (OpenSpec.witness (enc := enc) (C := Try.checked) (s := (Rows.OpenSpec.upto Rows.deadMergesSpec)) (k := Rows.uptoSmall) rfl false ⟨#[], #[.slice none 0 0, .slice none 0 0], []⟩ 8 (by kernel_rfl) (by kernel_rfl) (by kernel_rfl)
      (x := ([.nil, .nil], [], [])) (by kernel_rfl) rfl (by kernel_rfl)) ?_
  intro W base args ds gs before hval0 hW hcnd hbulk0 hsz0 _
  have hval : ∀ (j : Nat) t v, Try.f6.params[j]? = some t → args[j]? = some v → Value.okWide Try.prog W .any base t v := hval0
  have hW' := hW
  obtain ⟨p, q, hA0, hV, rfl, hfz, hnd⟩ := hW
  have hA : DataW.TrodAll enc Try.prog W 0 (fun _ => true) true Try.f6.params.toList args.toList ds p := hA0
  have hsz : (DataW.weightsEach Try.prog (Try.f6.params.toList ++ Rows.deadMergesSpec.plain.varTypes Try.prog) (ds ++ gs)).all (· ≤ reachBytes) = true := hsz0
  rw [Try.params6] at hA hval hsz
  obtain ⟨v0, vs0, d0, ds0, p0, q0', hargs, rfl, rfl, h0, r0'⟩ := trodAll_cons hA
  obtain ⟨v1, vs1, d1, ds1, p1, q1', rfl, rfl, rfl, h1, r1'⟩ := trodAll_cons r0'
  obtain ⟨rfl, rfl, rfl⟩ := trodAll_nil r1'
  obtain rfl : args = #[v0, v1] := by cases args; simp_all
  obtain ⟨rfl, rfl⟩ := trodVars_none hV
  have hbulk := of_decide_eq_true hbulk0
  have k0 := h0
  have lt0 : ∀ x ∈ p0, x.block < W.heap.size := by obtain ⟨m, hm⟩ := k0; exact DataW.trod_lt m _ _ _ hm
  obtain ⟨l0, b0, s0, e0, q0⟩ := open_rows pw (fun p => p.wf) Try.underlying22 cells_0 (fun _ _ _ h => open_ptrs h) (hval 0 22 v0 rfl rfl) h0
  have r0 : l0.length ≤ 1048576 := Nat.le_trans s0 (Nat.le_trans (dlen_bulk _) (bulk_at hbulk (j := 0) rfl))
  have k1 := h1
  have lt1 : ∀ x ∈ p1, x.block < W.heap.size := by obtain ⟨m, hm⟩ := k1; exact DataW.trod_lt m _ _ _ hm
  obtain ⟨l1, b1, s1, e1, q1⟩ := open_rows pw (fun p => p.wf) Try.underlying22 cells_1 (fun _ _ _ h => open_ptrs h) (hval 1 22 v1 rfl rfl) h1
  have r1 : l1.length ≤ 1048576 := Nat.le_trans s1 (Nat.le_trans (dlen_bulk _) (bulk_at hbulk (j := 1) rfl))
  clear hA0 hval0 hval hsz hsz0
  refine (deadMerges_walk W v0 l0 b0 r0 q0 v1 l1 b1 r1 q1).mono fun e W' ⟨he, bel⟩ => ?_
  subst he
  exact ⟨_, rfl, _, _, _, [], _, [], hW', trodAll_mk1 (shut_bool Try.underlying4 _), (trodAll_cons_mk (Below.trod laidOut (by kernel_rfl) (of_decide_eq_true (by kernel_rfl)) k0 bel lt0) (trodAll_cons_mk (Below.trod laidOut (by kernel_rfl) (of_decide_eq_true (by kernel_rfl)) k1 bel lt1) trodAll_mk0)), rfl, bel.below.frame _, fun h => by cases h⟩

theorem over : Rows.deadMergesUptoRow.holds Try.pinned (Rows.OpenSpec.upto Rows.deadMergesSpec) :=
  OpenClaim.holds_of_cond 6 Try.f6 rfl rfl rfl rfl rfl rfl rfl ⟨rfl, rfl, rfl, rfl, rfl⟩ rfl rfl rfl rfl rfl (by kernel_rfl) Try.func6 (by kernel_rfl)
    (of_decide_eq_true (by kernel_rfl)) (by unfold Func.isWrapper; rw [if_neg (of_decide_eq_false (by kernel_rfl))]; exact ⟨rfl, rfl⟩)
    (fun os started H enc _ FF => lifted os started H enc FF)

theorem proved : Rows.DeadMergesUptoSaid := over
#print axioms proved
end Go.Proofs.Ythdheddfimeigaa.deadMergesRow
