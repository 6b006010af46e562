/- Arrays: by value, in a block known whole; loads, stores, pieces, equality. -/
import Derived.Test.YtgmdhedabmkcoaaRow
import Derived.Deep.MidRow
import Derived.Stop.BytesEq
import Derived.ChangeKeysEq
import Derived.Laws.ResultCell
import Derived.Laws.CopyRow
import Derived.Laws.CopyOwn
import Derived.Lib.QuietBelow
set_option linter.unusedSimpArgs false
namespace Go.Proofs.Ytgmdhedabmkcoaa
open Go.RowKit

/-- The block g holds the cells C, and may be written. -/
def Blk (w : World) (g : Nat) (t : TypeId) (C : Array Value) : Prop := w.heap[g]? = some (.cells C t (0, 0))
section
variable {w w' : World} {g : Nat} {t : TypeId} {C : Array Value}
theorem Blk.lt (h : Blk w g t C) : g < w.heap.size := (Array.getElem?_eq_some_iff.1 h).1
theorem Blk.up (h : Blk w g t C) (hu : Up w w') : Blk w' g t C := by unfold Blk; rw [Below.block hu g h.lt]; exact h
theorem Blk.grown (h : Blk w g t C) {row : Option Nat} (hg : w.grownBy w' row) (hne : row ≠ some g) : Blk w' g t C := by
  unfold Blk; rw [hg.block g h.lt (fun e => hne e.symm)]; exact h
theorem Blk.new (w : World) (t : TypeId) (C : Array Value) : Blk (w.alloc (.cells C t)) w.heap.size t C := by
  unfold Blk; show (w.heap.push _)[w.heap.size]? = _; simp
theorem Blk.newAt (w : World) (g : Nat) (hg : g = w.heap.size) (t : TypeId) (C : Array Value) : Blk (w.alloc (.cells C t)) g t C := by subst hg; exact Blk.new w t C
theorem Blk.cell (h : Blk w g t C) (i : Nat) : w.cell? ⟨g, i, none⟩ = C[i]? := by unfold World.cell?; rw [h]; rfl
theorem Blk.free (h : Blk w g t C) (i : Nat) : w.frozen? ⟨g, i, none⟩ = false := by unfold World.frozen?; rw [h]; simp
theorem Blk.range (h : Blk w g t C) : w.rangeAt g 0 C.toList := fun j v hj => by rw [h.cell, Nat.zero_add]; simpa using hj
theorem Blk.regrown (h : Blk w g t C) (d : Nat) (os : Array Obj) : Blk (Sort.grow (redrawn w d) os) g t C := h.up (below_regrown w d os)
end
theorem Blk.cls {w : World} {g : Nat} {t : TypeId} {C : Array Value} (h : Blk w g t C) : ∀ w', (∃ p : Regrown, w' = Sort.grow (redrawn w p.d) p.os) → Blk w' g t C := fun _ ⟨_, hp⟩ => by rw [hp]; exact h.regrown _ _
theorem grown_setRow (w : World) (g : Nat) (cs : Array Value) : w.grownBy (w.setRow g cs) (some g) :=
  ⟨rfl, rfl, rfl, by simp [World.setRow], fun k hk hne => by
    simp only [World.setRow]
    rw [Array.getElem?_modify]
    rw [if_neg (fun e => hne (by rw [e]))]⟩
theorem Blk.set {w : World} {g : Nat} {t : TypeId} {C : Array Value} (h : Blk w g t C) (C' : Array Value) : Blk (w.setRow g C') g t C' := setRow_heap w g C C' t _ h
theorem Blk.setCell {w : World} {g : Nat} {t : TypeId} {C : Array Value} (h : Blk w g t C) (i : Nat) (v : Value) : Blk (w.setCell ⟨g, i, none⟩ v) g t (C.setIfInBounds i v) := by
  rw [setCell_eq_setRow w g i C t (0, 0) v h]
  exact h.set _
theorem grown_setCell {w : World} {g : Nat} {t : TypeId} {C : Array Value} (h : Blk w g t C) (i : Nat) (v : Value) : w.grownBy (w.setCell ⟨g, i, none⟩ v) (some g) := by
  rw [setCell_eq_setRow w g i C t (0, 0) v h]
  exact grown_setRow w g _

section
variable {P : Program}
/-- A whole variable is read. -/
theorem wpList_load_blk {ops : Array Oper} {rest : List Oper} {op : Oper} {a : Act} {w : World} {Q : Exit → Act → World → Prop} (hgd : op.guard = none) (ty : TypeId) (x : Operand) (ho : op.op = .load ty x)
    (g : Nat) (hx : a.eval x = .pointer (some ⟨g, 0, none⟩)) (t : TypeId) (C : Array Value) (hb : Blk w g t C) (d : TypeDesc) (hu : P.underlying ty = some d) (hd : d.isRow = true) (hi : (P.info? ty).map (·.size) = some C.size)
    (h : wpList P ops Q rest (a.put op.dst (.agg C)) w) : wpList P ops Q (op :: rest) a w :=
  wpList_load_mid hgd ty x ho g 0 hx C.toList d hb.range hu hd (by simpa using hi) (by simpa using h)
theorem wpList_load_blkG {ops : Array Oper} {rest : List Oper} {op : Oper} {a : Act} {w : World} {Q : Exit → Act → World → Prop} (hw : Region.wanted op (yielded ops a.tmps) = true) (ty : TypeId) (x : Operand) (ho : op.op = .load ty x)
    (g : Nat) (hx : a.eval x = .pointer (some ⟨g, 0, none⟩)) (t : TypeId) (C : Array Value) (hb : Blk w g t C) (d : TypeDesc) (hu : P.underlying ty = some d) (hd : d.isRow = true) (hi : (P.info? ty).map (·.size) = some C.size)
    (h : wpList P ops Q rest (a.put op.dst (.agg C)) w) : wpList P ops Q (op :: rest) a w :=
  BigFrame.wpList_want hw fun _ hK => wp_load_mid ty x ho g 0 hx C.toList d hb.range hu hd (by simpa using hi) (hK _ _ (by simpa using h))
/-- An array or a struct of zeros. -/
theorem wpList_build0 {ops : Array Oper} {rest : List Oper} {o : Oper} {a : Act} {w : World} {Q : Exit → Act → World → Prop} (hw : Region.wanted o (yielded ops a.tmps) = true) (t : TypeId) (ho : o.op = .build t #[]) (C : Array Value) (hb : P.built t [] = some C)
    (h : wpList P ops Q rest (a.put o.dst (.agg C)) w) : wpList P ops Q (o :: rest) a w :=
  BigFrame.wpList_want hw fun _ hK => wp_build t #[] ho (by simp [hb]) (hK _ _ (by simpa [hb] using h))
/-- A variable is laid: zeros. -/
theorem wpList_alloc_blk {ops : Array Oper} {rest : List Oper} {op : Oper} {a : Act} {w : World} {Q : Exit → Act → World → Prop} (hgd : op.guard = none) (ty : TypeId) (ho : op.op = .alloc ty) (C : Array Value)
    (hz : ∀ W : World, (zeroValue ty).run P W = .ok (.agg C) W) (h : wpList P ops Q rest (a.put op.dst (.pointer (some ⟨w.heap.size, 0, none⟩))) (w.alloc (.cells C ty))) : wpList P ops Q (op :: rest) a w := by
  refine wpList_plain hgd fun K hK => ?_
  unfold Oper.wp execOp
  simp [ho, Instr.alloc, Sem.run_bind, hz, newVar, newRow, Value.cells, Result.andThen]
  exact hK _ _ h
/-- .. guarded. -/
theorem run_load_blk {w : World} (ty : TypeId) (g : Nat) (t : TypeId) (C : Array Value) (hb : Blk w g t C) (d : TypeDesc) (hu : P.underlying ty = some d) (hd : d.isRow = true) (hi : (P.info? ty).map (·.size) = some C.size) :
    (loadVar ty ⟨g, 0, none⟩).run P w = .ok (.agg C) w := by
  have := run_loadVar_mid (P := P) w g 0 ty C.toList d hb.range hu hd (by simpa using hi)
  simpa using this
theorem run_loadAt_blk {w : World} (ty : TypeId) (g : Nat) (t : TypeId) (C : Array Value) (hb : Blk w g t C) (d : TypeDesc) (hu : P.underlying ty = some d) (hd : d.isRow = true) (hi : (P.info? ty).map (·.size) = some C.size) :
    (Instr.loadAt ty (.pointer (some ⟨g, 0, none⟩))).run P w = .ok (.agg C) w := by
  simp only [Instr.loadAt, Instr.sureAddr, Sem.run_bind, Sem.run_pure, Result.andThen_ok, run_load_blk ty g t C hb d hu hd hi]
/-- A part of a block is read: a variable in it. -/
theorem wpList_load_part {ops : Array Oper} {rest : List Oper} {op : Oper} {a : Act} {w : World} {Q : Exit → Act → World → Prop} (hgd : op.guard = none) (ty : TypeId) (x : Operand) (ho : op.op = .load ty x)
    (g off : Nat) (hx : a.eval x = .pointer (some ⟨g, off, none⟩)) (C : Array Value) (hc : w.rangeAt g off C.toList) (d : TypeDesc) (hu : P.underlying ty = some d) (hd : d.isRow = true) (hi : (P.info? ty).map (·.size) = some C.size)
    (h : wpList P ops Q rest (a.put op.dst (.agg C)) w) : wpList P ops Q (op :: rest) a w :=
  wpList_load_mid hgd ty x ho g off hx C.toList d hc hu hd (by simpa using hi) (by simpa using h)
/-- A whole variable is written. -/
theorem wpList_store_blk {ops : Array Oper} {rest : List Oper} {op : Oper} {a : Act} {w : World} {Q : Exit → Act → World → Prop} (hgd : op.guard = none) (ty : TypeId) (x y : Operand) (ho : op.op = .store ty x y)
    (g : Nat) (C' : Array Value) (hx : a.eval x = .pointer (some ⟨g, 0, none⟩)) (hy : a.eval y = .agg C') (t : TypeId) (C : Array Value) (hb : Blk w g t C) (hi : (P.info? ty).map (·.size) = some C'.size) (hold : C.size = C'.size)
    (h1 : C'.all (·.oneCell') = true) (h : ∀ w', Blk w' g t C' → w.grownBy w' (some g) → wpList P ops Q rest (a.put op.dst undef) w') : wpList P ops Q (op :: rest) a w :=
  wpList_store_row hgd ty x y ho g C' hx hy t C hb hi hold h1 (h _ (hb.set C') (grown_setRow w g C'))
/-- A variable that was just laid is written: as if it had been laid so. -/
theorem wpList_store_new {ops : Array Oper} {rest : List Oper} {op : Oper} {a : Act} {w : World} {Q : Exit → Act → World → Prop} (hgd : op.guard = none) (ty : TypeId) (x y : Operand) (ho : op.op = .store ty x y)
    (g : Nat) (hg : g = w.heap.size) (C' : Array Value) (hx : a.eval x = .pointer (some ⟨g, 0, none⟩)) (hy : a.eval y = .agg C') (t : TypeId) (C : Array Value) (hi : (P.info? ty).map (·.size) = some C'.size) (hold : C.size = C'.size)
    (h1 : C'.all (·.oneCell') = true) (h : wpList P ops Q rest (a.put op.dst undef) (w.alloc (.cells C' t))) : wpList P ops Q (op :: rest) a (w.alloc (.cells C t)) := by
  subst hg
  refine wpList_store_row hgd ty x y ho w.heap.size C' hx hy t C (Blk.new w t C) hi hold h1 ?_
  have e : (w.alloc (.cells C t)).setRow w.heap.size C' = w.alloc (.cells C' t) := by
    simp only [World.setRow, World.alloc]
    congr 1
    apply Array.ext_getElem?
    intro i
    rw [Array.getElem?_modify]
    by_cases h : w.heap.size = i
    · subst h; simp
    · have h' : ¬ i = w.heap.size := fun e => h e.symm
      simp [h, h', Array.getElem?_push]
  rw [e]
  exact h
/-- A variable in a block is written. -/
theorem wpList_store_part {ops : Array Oper} {rest : List Oper} {op : Oper} {a : Act} {w : World} {Q : Exit → Act → World → Prop} (hgd : op.guard = none) (ty : TypeId) (x y : Operand) (ho : op.op = .store ty x y)
    (g off : Nat) (V : Array Value) (hx : a.eval x = .pointer (some ⟨g, off, none⟩)) (hy : a.eval y = .agg V) (t : TypeId) (C : Array Value) (hb : Blk w g t C) (hi : (P.info? ty).map (·.size) = some V.size) (hfit : off + V.size ≤ C.size)
    (h1 : V.all (·.oneCell') = true) (h : ∀ w', Blk w' g t (splice C.toList off V.toList).toArray → w.grownBy w' (some g) → wpList P ops Q rest (a.put op.dst undef) w') : wpList P ops Q (op :: rest) a w := by
  have hst := run_storeCells_at (P := P) g off t V.toList 0 C w hb (by simpa using hfit) (fun v hv => (Array.all_eq_true_iff_forall_mem.1 h1) v (by simpa using hv))
  have hsv : (storeVar ty ⟨g, off, none⟩ (.agg V)).run P w = .ok () (w.setRow g (splice C.toList off V.toList).toArray) := by
    cases hq : P.info? ty with
    | none => simp [hq] at hi
    | some i =>
      have hs : V.size = i.size := by simp [hq] at hi; omega
      simp [storeVar, sizeOf, typeInfo, hq, Value.cells, hs]
      simp at hst
      rw [hst]
      simp [splice, hs]
  refine wpList_plain hgd fun K hK => ?_
  unfold Oper.wp execOp
  simp only [ho, hx, hy, Instr.storeAt, Instr.sureAddr, Sem.run_bind, Sem.run_pure, Result.andThen_ok, hsv]
  exact hK _ _ (h _ (hb.set _) (grown_setRow w g _))
/-- A copy into a piece of a block. -/
theorem wpList_copy_blk {ops : Array Oper} {rest : List Oper} {op : Oper} {a : Act} {w : World} {Q : Exit → Act → World → Prop} (hgd : op.guard = none) (d s : Operand) (dT sT : TypeId)
    (ho : op.op = .call { callee := .builtin .copy, args := #[d, s], argTypes := #[dT, sT] }) (elem : TypeId) (hu : P.underlying dT = some (.slice elem)) (hsz : (P.info? elem).map (·.size) = some 1)
    (f : UInt8 → Value) (hf : ∀ x, (f x).oneCell' = true) (g off n cap : Nat) (hd : a.eval d = .slice (some ⟨g, off, none⟩) n cap) (vs : Value) (ys : List UInt8) (hs : a.eval s = vs) (hsrc : IsOnes f w vs ys) (hn : ys.length ≤ n)
    (t : TypeId) (C : Array Value) (hb : Blk w g t C) (hfit : off + ys.length ≤ C.size)
    (h : ∀ w', Blk w' g t (splice C.toList off (ys.map f)).toArray → Below g w w' → w.grownBy w' (some g) → wpList P ops Q rest (a.put op.dst (goInt ys.length)) w') : wpList P ops Q (op :: rest) a w := by
  obtain ⟨sa, sc, rfl⟩ := hsrc.slice
  have hlen : (ys.map f).length = ys.length := by simp
  by_cases h0 : ys.length = 0
  · obtain rfl : ys = [] := List.eq_nil_of_length_eq_zero h0
    refine wpList_copy_nothing hgd d s dT sT ho elem hu hsz (some ⟨g, off, none⟩) sa n cap 0 sc hd hs (by simp) ?_
    exact h w (by simpa [splice] using hb) (Below.refl _ _) ⟨rfl, rfl, rfl, Nat.le_refl _, fun _ _ _ => rfl⟩
  · obtain ⟨b, o, rfl, _, hc⟩ := get_of_ones hsrc rfl (by omega)
    refine wpList_copy_own hgd d s dT sT ho elem hu hsz g off n cap _ ys.length sc hd hs C t hb (ys.map f) (by rw [hlen]; exact (Nat.min_eq_left hn).symm) (fun j u hj => ?_) (by rw [hlen]; exact hfit) (fun u hu => ?_) ?_
    · simp only [List.getElem?_map, Option.map_eq_some_iff] at hj
      obtain ⟨y, hy, rfl⟩ := hj
      obtain ⟨hjl, rfl⟩ := getElem_of_some hy
      rw [add_plain]
      exact hc j hjl
    · obtain ⟨y, _, rfl⟩ := List.mem_map.1 hu
      exact hf y
    · have := h _ (hb.set (splice C.toList off (ys.map f)).toArray) (below_setRow (Below.refl _ _) (Nat.le_refl _) _) (grown_setRow w g _)
      rw [hlen]
      simpa [splice] using this

/-- Two arrays that hold the same? Element by element. -/
theorem run_equalIn_items {α : Type} (d : Nat) {t e : TypeId} {n : Nat} {i : TypeInfo} (hu : P.underlying t = some (.array n e)) (hi : P.info? e = some i) (xs ys : Array Value) (l m : List α) (hl : l.length = n) (hm : m.length = n) (F : α → Value)
    (B : α → α → Bool) (hB : ∀ x y, B x y = true ↔ x = y)
    (px : ∀ j (h : j < l.length) W, (part e xs (j * P.cellsOf e)).run P W = .ok (F l[j]) W) (py : ∀ j (h : j < m.length) W, (part e ys (j * P.cellsOf e)).run P W = .ok (F m[j]) W)
    (pe : ∀ x y W, (Op.equalIn d e (F x) (F y)).run P W = .ok (B x y) W) (w : World) (r : Bool) (hr : r = true ↔ l = m) :
    (Op.equalIn (d + 1) t (.agg xs) (.agg ys)).run P w = .ok r w := by
  rw [run_equalIn_array w d xs ys hu hi]
  have key : ∀ (is : List Nat), (∀ j ∈ is, j < n) → (Op.eqItems d e (P.cellsOf e) xs ys is).run P w = .ok (is.all fun j => if h : j < l.length ∧ j < m.length then B l[j] m[j] else true) w := by
    intro is
    induction is with
    | nil => intro _; rfl
    | cons j is ih =>
      intro hj
      have h1 : j < l.length := by have := hj j (by simp); omega
      have h2 : j < m.length := by have := hj j (by simp); omega
      simp only [Op.eqItems, Sem.run_bind, px j h1, py j h2, pe, Result.andThen_ok, List.all_cons]
      rw [dif_pos ⟨h1, h2⟩]
      cases hb : B l[j] m[j]
      · simp
      · simp only [Bool.not_true, Bool.false_eq_true, if_false, Bool.true_and]
        exact ih fun k hk => hj k (by simp [hk])
  rw [key (List.range n) (fun j hj => by simpa using hj)]
  congr 1
  rw [Bool.eq_iff_iff, hr, List.all_eq_true]
  constructor
  · intro h
    apply List.ext_getElem (by omega)
    intro j h1 h2
    have := h j (by simp; omega)
    rw [dif_pos ⟨h1, h2⟩] at this
    exact (hB _ _).1 this
  · rintro rfl j hj
    split
    · exact (hB _ _).2 rfl
    · rfl

/-- A whole variable read in a region that draws its order. -/
theorem quiet_load_blk {op : Oper} {a : Act} {C0 : World → Prop} {K : Act → Prop} (ty : TypeId) (x : Operand) (ho : op.op = .load ty x) (g : Nat) (hx : a.eval x = .pointer (some ⟨g, 0, none⟩)) (t : TypeId) (C : Array Value)
    (hb : ∀ w, C0 w → Blk w g t C) (d : TypeDesc) (hu : P.underlying ty = some d) (hd : d.isRow = true) (hi : (P.info? ty).map (·.size) = some C.size) (hk : K (a.put op.dst (.agg C))) : op.quiet P a C0 K := by
  refine ⟨_, fun w hw => ?_, hk⟩
  unfold Oper.quietAt execOp
  simp only [ho, hx, Instr.loadAt, Instr.sureAddr, Sem.run_bind, Sem.run_pure, Result.andThen_ok, run_load_blk (P := P) ty g t C (hb w hw) d hu hd hi]
  exact ⟨rfl, rfl⟩
end
end Go.Proofs.Ytgmdhedabmkcoaa
