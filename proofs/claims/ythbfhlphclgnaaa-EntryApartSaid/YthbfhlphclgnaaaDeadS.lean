/- Split of both sides, and Same: the walks. -/
import Derived.Test.YthbfhlphclgnaaaDead
set_option linter.unusedSimpArgs false
namespace Go.Proofs.Ythbfhlphclgnaaa
open Go.RowKit Go.Sort

def oldL (s : Nat) (l : List PtrD) : List PtrD := l.filter (fun p => decide (p.birth ≤ s))
def youngL (s : Nat) (l : List PtrD) : List PtrD := l.filter (fun p => decide (s < p.birth))
theorem info_ptr : (Try.prog.info? 41).map (fun i => (i.zero, i.size, i.bytes)) = some (some (.agg #[.int .i64 0, .int .u64 0, .int .u32 0]), 3, 24) := by kernel_rfl
theorem filter_snoc {α : Type} (p : α → Bool) (l : List α) (k : Nat) (h : k < l.length) : (l.take (k + 1)).filter p = (l.take k).filter p ++ (if p l[k] = true then [l[k]] else []) := by
  rw [List.take_succ_eq_append_getElem h, List.filter_append]
  congr 1
  by_cases hp : p l[k] = true
  · simp [hp]
  · simp [hp]
/-- One pointer as it lies in a new block. -/
theorem one_lit (w : World) (b : Nat) (hb : b = w.heap.size) (l : Int) (bi s : Nat) : IsPtrs (w.alloc (.cells #[.int .i64 l, .int .u64 bi, .int .u32 s] 41)) (.slice (some ⟨b, 0, none⟩) 1 1) [⟨l, bi, s⟩] :=
  IsRow.litAt w b hb _ _ _ _ _ rfl (by unfold maxLen; omega) rfl

end Go.Proofs.Ythbfhlphclgnaaa
