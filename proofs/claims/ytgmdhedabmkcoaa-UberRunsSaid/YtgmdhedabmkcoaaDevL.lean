/- Laws for a device's greater calls: still regions with wide loads; wide copies. -/
import Derived.Test.YtgmdhedabmkcoaaDevC
set_option linter.unusedSimpArgs false
set_option linter.unusedVariables false
namespace Go.Proofs.Ytgmdhedabmkcoaa
open Go.RowKit

section
variable {P : Program}
theorem wpStill_load_part {ops : Array Oper} {rest : List Oper} {op : Oper} {a : Act} {w : World} {Q : Act → Prop} (hw : Region.wanted op (yielded ops a.tmps) = true) (ty : TypeId) (x : Operand) (ho : op.op = .load ty x)
    (g off : Nat) (hx : a.eval x = .pointer (some ⟨g, off, none⟩)) (C : Array Value) (hc : w.rangeAt g off C.toList) (d : TypeDesc) (hu : P.underlying ty = some d) (hd : d.isRow = true) (hi : (P.info? ty).map (·.size) = some C.size)
    (h : wpStill P ops w Q rest (a.put op.dst (.agg C))) : wpStill P ops w Q (op :: rest) a := by
  refine wpStill_step fun K hK => ?_
  rw [if_pos hw]
  unfold Oper.still execOp
  have := run_loadVar_mid (P := P) w g off ty C.toList d hc hu hd (by simpa using hi)
  simp only [ho, hx, Instr.loadAt, Instr.sureAddr, Sem.run_bind, Sem.run_pure, Result.andThen_ok, this]
  exact ⟨rfl, hK _ (by simpa using h)⟩
theorem wpStill_load_blk {ops : Array Oper} {rest : List Oper} {op : Oper} {a : Act} {w : World} {Q : Act → Prop} (hw : Region.wanted op (yielded ops a.tmps) = true) (ty : TypeId) (x : Operand) (ho : op.op = .load ty x)
    (g : Nat) (hx : a.eval x = .pointer (some ⟨g, 0, none⟩)) (t : TypeId) (C : Array Value) (hb : Blk w g t C) (d : TypeDesc) (hu : P.underlying ty = some d) (hd : d.isRow = true) (hi : (P.info? ty).map (·.size) = some C.size)
    (h : wpStill P ops w Q rest (a.put op.dst (.agg C))) : wpStill P ops w Q (op :: rest) a :=
  wpStill_load_part hw ty x ho g 0 hx C hb.range d hu hd hi h
theorem wpStill_build {ops : Array Oper} {rest : List Oper} {op : Oper} {a : Act} {w : World} {Q : Act → Prop} (hw : Region.wanted op (yielded ops a.tmps) = true) (t : TypeId) (parts : Array (Nat × Operand)) (ho : op.op = .build t parts) (C : Array Value)
    (hb : P.built t (parts.map fun (i, x) => (i, a.eval x)).toList = some C) (h : wpStill P ops w Q rest (a.put op.dst (.agg C))) : wpStill P ops w Q (op :: rest) a := by
  refine wpStill_step fun K hK => ?_
  rw [if_pos hw]
  unfold Oper.still execOp
  simp only [ho, Sem.run_bind, run_build w t _ C hb, Result.andThen_ok]
  exact ⟨rfl, hK _ h⟩
theorem wpStill_build2 {ops : Array Oper} {rest : List Oper} {op : Oper} {a : Act} {w : World} {Q : Act → Prop} (hw : Region.wanted op (yielded ops a.tmps) = true) (t : TypeId) (i0 i1 : Nat) (x0 x1 : Operand) (ho : op.op = .build t #[(i0, x0), (i1, x1)]) (v0 v1 : Value) (h0 : a.eval x0 = v0) (h1 : a.eval x1 = v1) (C : Array Value)
    (hb : P.built t [(i0, v0), (i1, v1)] = some C) (h : wpStill P ops w Q rest (a.put op.dst (.agg C))) : wpStill P ops w Q (op :: rest) a :=
  wpStill_build hw t #[(i0, x0), (i1, x1)] ho C (by simp [h0, h1, hb]) h
/-! One operation of a region that draws its order. -/
theorem wpOp_some {ops : Array Oper} {Q : Exit → Act → World → Prop} {i : Nat} {o : Oper} {K : Act → World → Prop} {a : Act} {w : World} (hi : ops[i]? = some o) (hw : Region.wanted o (yielded ops a.tmps) = true) (h : o.wp P a w K Q) : wpOp P ops Q i K a w := by
  unfold wpOp
  simp only [hi, hw, if_true]
  exact .inl h
theorem wpAny_one {ops : Array Oper} {Q : Exit → Act → World → Prop} {md : Region.Mode} {fuel : Nat} {listed : Array Bool} {a : Act} {w : World} (i : Nat) (o : Oper) (hr : Region.ready md ops listed = [i]) (hi : ops[i]? = some o) (hw : Region.wanted o (yielded ops a.tmps) = true)
    (h : o.wp P a w (wpAny P md ops Q fuel (listed.setIfInBounds i true)) Q) : wpAny P md ops Q (fuel + 1) listed a w :=
  wpAny_all hr (by simp) (fun j hj => by simp at hj; subst hj; exact wpOp_some hi hw h)
theorem wpAny_two {ops : Array Oper} {Q : Exit → Act → World → Prop} {md : Region.Mode} {fuel : Nat} {listed : Array Bool} {a : Act} {w : World} (i j : Nat) (o o' : Oper) (hr : Region.ready md ops listed = [i, j]) (hi : ops[i]? = some o) (hj : ops[j]? = some o')
    (hw : Region.wanted o (yielded ops a.tmps) = true) (hw' : Region.wanted o' (yielded ops a.tmps) = true)
    (h : o.wp P a w (wpAny P md ops Q fuel (listed.setIfInBounds i true)) Q) (h' : o'.wp P a w (wpAny P md ops Q fuel (listed.setIfInBounds j true)) Q) : wpAny P md ops Q (fuel + 1) listed a w :=
  wpAny_all hr (by simp) (fun k hk => by
    simp at hk
    rcases hk with rfl | rfl
    · exact wpOp_some hi hw h
    · exact wpOp_some hj hw' h')
theorem wp_load_cell {o : Oper} {a : Act} {w : World} {K : Act → World → Prop} {Q : Exit → Act → World → Prop} (ty : TypeId) (x : Operand) (ho : o.op = .load ty x) (ad : Addr) (hx : a.eval x = .pointer (some ad)) (v : Value) (hc : w.cell? ad = some v)
    (hagg : (isAgg ty).run P w = .ok false w) (h : K (a.put o.dst v) w) : o.wp P a w K Q := by
  have hl : (load ad).run P w = .ok v w := by simp [hc]
  unfold Oper.wp execOp
  simp only [ho, hx, Instr.loadAt, Instr.sureAddr, loadVar, Sem.run_bind, Sem.run_pure, Result.andThen_ok, hagg, Bool.false_eq_true, if_false, hl]
  exact h
theorem wp_store_cell {o : Oper} {a : Act} {w : World} {K : Act → World → Prop} {Q : Exit → Act → World → Prop} (ty : TypeId) (x y : Operand) (ho : o.op = .store ty x y) (ad : Addr) (hx : a.eval x = .pointer (some ad)) (v : Value) (hy : a.eval y = v) (hv : v.cells = #[v]) (h1 : v.oneCell' = true)
    (old : Value) (hc : w.cell? ad = some old) (hf : w.frozen? ad = false) (hs : (sizeOf ty).run P w = .ok 1 w) (h : K (a.put o.dst undef) (w.setCell ad v)) : o.wp P a w K Q := by
  have hst : (store (ad.add 0) v).run P w = .ok () (w.setCell ad v) := by
    have e : ad.add 0 = ad := by unfold Addr.add; split <;> simp_all
    rw [e, run_store P w _ v _ h1, hc]
    simp [hf]
  have hsv : (storeVar ty ad v).run P w = .ok () (w.setCell ad v) := by
    simp [storeVar, Sem.run_bind, hs, hv, storeCells, hst]
  unfold Oper.wp execOp
  simp only [ho, hx, hy, Instr.storeAt, Instr.sureAddr, Sem.run_bind, Sem.run_pure, Result.andThen_ok, hsv]
  exact h
theorem yields_build2 {ops : Array Oper} {op : Oper} {a : Act} (hw : Region.wanted op (yielded ops a.tmps) = true) (t : TypeId) (i0 i1 : Nat) (x0 x1 : Operand) (ho : op.op = .build t #[(i0, x0), (i1, x1)]) (v0 v1 : Value) (h0 : a.eval x0 = v0) (h1 : a.eval x1 = v1) (C : Array Value)
    (hb : P.built t [(i0, v0), (i1, v1)] = some C) : Yields P ops op (.agg C) a :=
  .inl ⟨hw, fun w => by
    have hr := run_build (P := P) w t (#[(i0, x0), (i1, x1)].map fun (i, x) => (i, a.eval x)) C (by simp [h0, h1, hb])
    unfold execOp
    simp only [ho, Sem.run_bind, hr, Result.andThen_ok]
    rfl⟩
theorem wp_load_blk {o : Oper} {a : Act} {w : World} {K : Act → World → Prop} {Q : Exit → Act → World → Prop} (ty : TypeId) (x : Operand) (ho : o.op = .load ty x) (g : Nat) (hx : a.eval x = .pointer (some ⟨g, 0, none⟩)) (t : TypeId) (C : Array Value) (hb : Blk w g t C) (d : TypeDesc)
    (hu : P.underlying ty = some d) (hd : d.isRow = true) (hi : (P.info? ty).map (·.size) = some C.size) (h : K (a.put o.dst (.agg C)) w) : o.wp P a w K Q :=
  wp_load_mid ty x ho g 0 hx C.toList d hb.range hu hd (by simpa using hi) (by simpa using h)
/-- A copy of wide elements, all of them. -/
theorem wpList_copy_all {ops : Array Oper} {rest : List Oper} {op : Oper} {a : Act} {w : World} {Q : Exit → Act → World → Prop} (hgd : op.guard = none) (d s : Operand) (dT sT : TypeId)
    (ho : op.op = .call { callee := .builtin .copy, args := #[d, s], argTypes := #[dT, sT] }) (elem : TypeId) (k : Nat) (hu : P.underlying dT = some (.slice elem)) (hsz : (P.info? elem).map (·.size) = some k)
    (g1 g2 n : Nat) (hd : a.eval d = .slice (some ⟨g2, 0, none⟩) n n) (hs : a.eval s = .slice (some ⟨g1, 0, none⟩) n n) (t : TypeId) (C1 C2 : Array Value) (hb1 : Blk w g1 t C1) (hb2 : Blk w g2 t C2) (h1 : C1.size = n * k) (h2 : C2.size = n * k)
    (hone : C1.all (·.oneCell') = true) (h : ∀ w', Blk w' g2 t C1 → w.grownBy w' (some g2) → wpList P ops Q rest (a.put op.dst (goInt n)) w') : wpList P ops Q (op :: rest) a w := by
  refine wpList_plain hgd fun K hK => ?_
  have hl := run_loadCells_list (P := P) w ⟨g1, 0, none⟩ C1.toList (fun j v hj => by
    rw [add_plain, Nat.zero_add, hb1.cell]; simpa using hj)
  have hst := run_storeCells_at (P := P) g2 0 t C1.toList 0 C2 w hb2 (by simp; omega) (fun v hv => (Array.all_eq_true_iff_forall_mem.1 hone) v (by simpa using hv))
  have hfin : (C2.toList.take (0 + 0) ++ C1.toList ++ C2.toList.drop (0 + 0 + C1.toList.length)).toArray = C1 := by
    rw [List.drop_of_length_le (by simp; omega)]
    simp
  rw [hfin] at hst
  cases hq : P.info? elem with
  | none => simp [hq] at hsz
  | some i =>
    have hi : i.size = k := by simpa [hq] using hsz
    have hlen : C1.toList.length = n * k := by simpa using h1
    rw [hlen] at hl
    have hrun : (Builtin.copy_ #[dT, sT] op.type #[.slice (some ⟨g2, 0, none⟩) n n, .slice (some ⟨g1, 0, none⟩) n n]).run P w = .ok (goInt n) (w.setRow g2 C1) := by
      simp [Builtin.copy_, run_underlying hu, Builtin.lenOf, Builtin.firstCells, sizeOf, typeInfo, hq, hi, hl, hst]
    unfold Oper.wp
    simp [execOp, ho, resolve, invoke, builtin, hd, hs, hrun, Result.andThen]
    exact hK _ _ (h _ (hb2.set C1) (grown_setRow w g2 C1))
end
theorem secsC_one (l : List Sec) : (secsC l).all (·.oneCell') = true := all_oneCell_toArray (sw.ones l)
/-- A sector among sectors. -/
theorem secs_range {w : World} {g : Nat} {t : TypeId} {l : List Sec} (h : Blk w g t (secsC l)) (i : Nat) (hi : i < l.length) : w.rangeAt g (i * 128) (secC l[i].val).toList := fun j v hj => by
  rw [h.cell]
  rw [secC_scells] at hj
  have hj2 : j < 128 := by
    have := (List.getElem?_eq_some_iff.1 hj).1
    rwa [sw.len] at this
  unfold secsC
  rw [List.getElem?_toArray, sw.at l i hi j hj2]
  exact hj
theorem wide_set {α : Type} {f : α → List Value} {k : Nat} (hw : Wide f k) (l : List α) (i : Nat) (hi : i < l.length) (x : α) : splice (l.flatMap f) (i * k) (f x) = (l.set i x).flatMap f := by
  unfold splice
  have h1 : l.set i x = l.take i ++ x :: l.drop (i + 1) := List.set_eq_take_append_cons_drop .. |>.trans (if_pos hi)
  have h2 : l.flatMap f = (l.take i).flatMap f ++ (f l[i] ++ (l.drop (i + 1)).flatMap f) := by
    rw [← List.flatMap_cons, ← List.drop_eq_getElem_cons hi, ← List.flatMap_append, List.take_append_drop]
  have h3 : ((l.take i).flatMap f).length = i * k := by rw [hw.flat, List.length_take]; congr 1; omega
  rw [h1, List.flatMap_append, List.flatMap_cons, h2, List.take_left' h3, List.drop_append, h3, hw.len]
  rw [List.drop_of_length_le (by rw [h3]; omega), List.nil_append]
  congr 2
  rw [show i * k + k - i * k = (f l[i]).length by rw [hw.len]; omega, List.drop_left]
theorem secs_set (l : List Sec) (i : Nat) (hi : i < l.length) (s : Sec) : (splice (secsC l).toList (i * 128) (secC s.val).toList).toArray = secsC (l.set i s) := by
  rw [secsC_list, secC_scells, wide_set sw l i hi s]
  rfl
theorem secV_size (s : Sec) : (secC s.val).size = 128 := by rw [secC_size]; exact s.property
theorem info_secV (s : Sec) : (Try.prog.info? 34).map (·.size) = some (secC s.val).size := by rw [secV_size]; exact info_sec
theorem sec_fit (l : List Sec) (i : Nat) (hi : i < l.length) (s : Sec) : i * 128 + (secC s.val).size ≤ (secsC l).size := by rw [secV_size, secsC_size]; omega
/-- A write among writes. -/
theorem wr_range {w : World} {vp : Value} {base : Nat} {l : List WrD} (h : OwnRow wcells 129 101 w base vp l) (i : Nat) (hi : i < l.length) : ∃ g cap, vp = .slice (some ⟨g, 0, none⟩) l.length cap ∧ w.rangeAt g (i * 129) (wrC l[i]).toList := by
  have hr := h.row ww
  rcases h.2 with ⟨_, h0⟩ | ⟨g, cap, cur, rfl, _⟩
  · omega
  · obtain ⟨b, off, hbo, _, _, hc⟩ := IsRow.get hr ww (by omega)
    simp only [Option.some.injEq, Addr.mk.injEq] at hbo
    obtain ⟨rfl, rfl, _⟩ := hbo
    exact ⟨g, cap, rfl, fun j v hj => by
      have := hc i hi j v (by simpa [wrC] using hj)
      simpa using this⟩
theorem info_wrV (x : WrD) : (Try.prog.info? 101).map (·.size) = some (wrC x).size := by rw [wrC_size]; kernel_rfl
end Go.Proofs.Ytgmdhedabmkcoaa
