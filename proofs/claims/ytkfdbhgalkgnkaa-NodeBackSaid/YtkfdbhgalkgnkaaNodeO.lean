/- Eight pointers that came in. -/
import Derived.Test.YtkfdbhgalkgnkaaArrO
import Derived.Test.YtkfdbhgalkgnkaaNode
set_option linter.unusedSimpArgs false
namespace Go.Proofs.Ytkfdbhgalkgnkaa
open Go.RowKit

theorem open_node {H : Type} {enc : TypeId × Value → H} {W : World} {base : Nat} {v : Value} {d : DataW H} {ps : List MemPlace}
    (hval : Value.okWide Try.prog W .any base 31 v) (hd : DataW.Trod enc Try.prog W 0 (fun _ => true) true 31 v d ps) : ∃ l : List PtrD, v = .agg (nodeC l) ∧ l.length = 8 ∧ ∀ x ∈ l, x.wf := by
  obtain ⟨cs, rfl, _⟩ := okWide_array Try.underlying31 hval
  obtain ⟨fuel, hf⟩ := hd
  obtain ⟨l, h1, h2, h3⟩ := array_trod (f := pcells) (k := 3) (fun p => p.wf) (n := 8) Try.underlying31 (by kernel_rfl) (by kernel_rfl) (fun m cs y hy => by
    obtain ⟨p, hp, hwf⟩ := open_ptrs hy
    exact ⟨p, hp, hwf⟩) hf
  refine ⟨l, ?_, h1, h3⟩
  have h4 : cs.toList = l.flatMap pcells := by simpa [Value.cells] using h2
  unfold nodeC
  rw [← h4]
end Go.Proofs.Ytkfdbhgalkgnkaa
