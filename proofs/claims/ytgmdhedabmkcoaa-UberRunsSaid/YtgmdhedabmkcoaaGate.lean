/- Gates: arms of a walk that are tried at the right operation alone. -/
import Derived.Test.YtgmdhedabmkcoaaArr
import Derived.StillTail
set_option linter.unusedVariables false
namespace Go.Proofs.Ytgmdhedabmkcoaa
open Go.RowKit
section
variable {P : Program} {ops : Array Oper} {Q : Exit → Act → World → Prop} {rest : List Oper} {a : Act} {w : World} {dst : Option Tmp} {type : TypeId} {pos : String} {after : Array Edge} {guard : Option (Nat × Bool)}
theorem wg_load (ty : TypeId) (x : Operand) (h : wpList P ops Q ({ dst := dst, op := .load ty x, type := type, pos := pos, after := after, guard := guard } :: rest) a w) :
    wpList P ops Q ({ dst := dst, op := .load ty x, type := type, pos := pos, after := after, guard := guard } :: rest) a w := h
theorem wg_store (ty : TypeId) (x y : Operand) (h : wpList P ops Q ({ dst := dst, op := .store ty x y, type := type, pos := pos, after := after, guard := guard } :: rest) a w) :
    wpList P ops Q ({ dst := dst, op := .store ty x y, type := type, pos := pos, after := after, guard := guard } :: rest) a w := h
theorem wg_alloc (ty : TypeId) (h : wpList P ops Q ({ dst := dst, op := .alloc ty, type := type, pos := pos, after := after, guard := guard } :: rest) a w) :
    wpList P ops Q ({ dst := dst, op := .alloc ty, type := type, pos := pos, after := after, guard := guard } :: rest) a w := h
theorem wg_build (ty : TypeId) (parts : Array (Nat × Operand)) (h : wpList P ops Q ({ dst := dst, op := .build ty parts, type := type, pos := pos, after := after, guard := guard } :: rest) a w) :
    wpList P ops Q ({ dst := dst, op := .build ty parts, type := type, pos := pos, after := after, guard := guard } :: rest) a w := h
theorem wg_slice (ty : TypeId) (n : Nat) (parts : Array (Nat × Operand)) (h : wpList P ops Q ({ dst := dst, op := .buildSlice ty n parts, type := type, pos := pos, after := after, guard := guard } :: rest) a w) :
    wpList P ops Q ({ dst := dst, op := .buildSlice ty n parts, type := type, pos := pos, after := after, guard := guard } :: rest) a w := h
end
section
variable {P : Program} {ops : Array Oper} {rest : List Oper} {op : Oper} {a : Act} {Q : Exit → Act → World → Prop}
/-- A piece of a block is read (guarded or not). -/
theorem wl_part {w : World} (hw : Region.wanted op (yielded ops a.tmps) = true) (ty : TypeId) (x : Operand) (ho : op.op = .load ty x)
    (g off : Nat) (hx : a.eval x = .pointer (some ⟨g, off, none⟩)) (C : Array Value) (hc : w.rangeAt g off C.toList) (d : TypeDesc) (hu : P.underlying ty = some d) (hd : d.isRow = true) (hi : (P.info? ty).map (·.size) = some C.size)
    (h : wpList P ops Q rest (a.put op.dst (.agg C)) w) : wpList P ops Q (op :: rest) a w :=
  BigFrame.wpList_want hw fun _ hK => wp_load_mid ty x ho g off hx C.toList d hc hu hd (by simpa using hi) (hK _ _ (by simpa using h))
/-- A variable that was just laid is written; the world is named behind the operation. -/
theorem ws_new {W : World} (w : World) (hgd : op.guard = none) (ty : TypeId) (x y : Operand) (ho : op.op = .store ty x y)
    (C' : Array Value) (t : TypeId) (C : Array Value) (hW : W = w.alloc (.cells C t)) (hx : a.eval x = .pointer (some ⟨w.heap.size, 0, none⟩)) (hy : a.eval y = .agg C') (hi : (P.info? ty).map (·.size) = some C'.size) (hold : C.size = C'.size)
    (h1 : C'.all (·.oneCell') = true) (h : wpList P ops Q rest (a.put op.dst undef) (w.alloc (.cells C' t))) : wpList P ops Q (op :: rest) a W := by
  subst hW
  exact wpList_store_new hgd ty x y ho _ rfl C' hx hy t C hi hold h1 h
end
end Go.Proofs.Ytgmdhedabmkcoaa
