/- Laws of a drawn region in which a condition on the world is kept. -/
import Derived.Test.YtgmdhedabmkcoaaGate
import Derived.OrdersHeld
set_option linter.unusedSimpArgs false
set_option linter.unusedVariables false
namespace Go.Proofs.Ytgmdhedabmkcoaa
open Go.RowKit Go.Sort
theorem Up.range {w w' : World} (h : Up w w') {b off : Nat} {l : List Value} (hc : w.rangeAt b off l) : w'.rangeAt b off l := fun j v hj => h.cell (hc j v hj)
section
variable {P : Program} {ops : Array Oper} {S : World → Prop} {o : Oper} {a : Act} {v : Value}
theorem wpOp_someH {Q : Exit → Act → World → Prop} {i : Nat} {K : Act → World → Prop} {w : World} (hi : ops[i]? = some o) (hw : Region.wanted o (yielded ops a.tmps) = true) (h : o.wp P a w K Q) : wpOp P ops Q i K a w := by
  unfold wpOp
  simp only [hi, hw, if_true]
  exact .inl h
theorem yi_any (hw : Region.wanted o (yielded ops a.tmps) = true) (h : ∀ w, (execOp a.eval o).run P w = .ok (.value v) w) : YieldsIf P ops S o v a := .inl ⟨hw, fun w _ => h w⟩
theorem yi_cell (hw : Region.wanted o (yielded ops a.tmps) = true) (ty : TypeId) (x : Operand) (ho : o.op = .load ty x) (ad : Addr) (hx : a.eval x = .pointer (some ad)) (hc : ∀ w, S w → w.cell? ad = some v)
    (hagg : ∀ w : World, (isAgg ty).run P w = .ok false w) : YieldsIf P ops S o v a :=
  .inl ⟨hw, fun w hS => by
    have hl : (load ad).run P w = .ok v w := by simp [hc w hS]
    unfold execOp
    simp only [ho, hx, Instr.loadAt, Instr.sureAddr, loadVar, Sem.run_bind, Sem.run_pure, Result.andThen_ok, hagg, Bool.false_eq_true, if_false, hl]⟩
theorem yi_part (hw : Region.wanted o (yielded ops a.tmps) = true) (ty : TypeId) (x : Operand) (ho : o.op = .load ty x) (g off : Nat) (hx : a.eval x = .pointer (some ⟨g, off, none⟩)) (C : Array Value) (hc : ∀ w, S w → w.rangeAt g off C.toList)
    (d : TypeDesc) (hu : P.underlying ty = some d) (hd : d.isRow = true) (hi : (P.info? ty).map (·.size) = some C.size) : YieldsIf P ops S o (.agg C) a :=
  .inl ⟨hw, fun w hS => by
    have := run_loadVar_mid (P := P) w g off ty C.toList d (hc w hS) hu hd (by simpa using hi)
    unfold execOp
    simp only [ho, hx, Instr.loadAt, Instr.sureAddr, Sem.run_bind, Sem.run_pure, Result.andThen_ok, this]⟩
theorem yi_build5 (hw : Region.wanted o (yielded ops a.tmps) = true) (t : TypeId) (i0 i1 i2 i3 i4 : Nat) (x0 x1 x2 x3 x4 : Operand) (ho : o.op = .build t #[(i0, x0), (i1, x1), (i2, x2), (i3, x3), (i4, x4)]) (v0 v1 v2 v3 v4 : Value) (C : Array Value) (hb : P.built t [(i0, v0), (i1, v1), (i2, v2), (i3, v3), (i4, v4)] = some C) (h0 : a.eval x0 = v0) (h1 : a.eval x1 = v1) (h2 : a.eval x2 = v2) (h3 : a.eval x3 = v3) (h4 : a.eval x4 = v4) : YieldsIf P ops S o (.agg C) a :=
  .inl ⟨hw, fun w _ => by
    unfold execOp
    simp only [ho, List.map_toArray, List.map_cons, List.map_nil, h0, h1, h2, h3, h4, Sem.run_bind, run_build w t _ C hb, Result.andThen_ok, Sem.run_pure]⟩
theorem wpAnyH_oneK {Q : Exit → Act → World → Prop} {md : Region.Mode} {fuel : Nat} {listed : Array Bool} {w : World} (i : Nat) (hr : Region.ready md ops listed = [i]) (hi : ops[i]? = some o) (hw : Region.wanted o (yielded ops a.tmps) = true)
    (h : ∀ K : Act → World → Prop, (∀ a w, S w → wpAnyH P md ops Q S fuel (listed.setIfInBounds i true) a w → K a w) → o.wp P a w K Q) : wpAnyH P md ops Q S (fuel + 1) listed a w :=
  wpAnyH_all hr (by simp) (fun j hj => by
    simp at hj
    subst hj
    exact wpOp_someH hi hw (h _ fun _ _ h1 h2 => ⟨h1, h2⟩))
theorem wp_alloc_blk {w : World} {K : Act → World → Prop} {Q : Exit → Act → World → Prop} (ty : TypeId) (ho : o.op = .alloc ty) (C : Array Value)
    (hz : ∀ W : World, (zeroValue ty).run P W = .ok (.agg C) W) (h : K (a.put o.dst (.pointer (some ⟨w.heap.size, 0, none⟩))) (w.alloc (.cells C ty))) : o.wp P a w K Q := by
  unfold Oper.wp execOp
  simp [ho, Instr.alloc, Sem.run_bind, hz, newVar, newRow, Value.cells, Result.andThen]
  exact h
end
end Go.Proofs.Ytgmdhedabmkcoaa
