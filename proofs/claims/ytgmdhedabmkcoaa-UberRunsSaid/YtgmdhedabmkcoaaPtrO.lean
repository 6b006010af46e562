/- A pointer that came in. -/
import Derived.Test.YtgmdhedabmkcoaaPtrS
import Derived.ChangeSame
set_option linter.unusedSimpArgs false
namespace Go.Proofs.Ytgmdhedabmkcoaa
open Go.RowKit

theorem cells_ptr : Try.prog.cellsOf 25 = 3 := by kernel_rfl
theorem cells_int1 : Try.prog.cellsOf 3 = 1 := by kernel_rfl
theorem cells_u641 : Try.prog.cellsOf 22 = 1 := by kernel_rfl
theorem cells_u321 : Try.prog.cellsOf 23 = 1 := by kernel_rfl

set_option maxRecDepth 100000 in
theorem open_ptrs {H : Type} {enc : TypeId × Value → H} {W : World} {n0 : Nat} {cs : List Value} {x : DataW H × List MemPlace}
    (hf : DataW.trod enc Try.prog W 0 (fun _ => true) true n0 25 cs = some x) : ∃ p : PtrD, cs = [.int .i64 p.loc, .int .u64 (p.birth : Int), .int .u32 (p.sum : Int)] ∧ p.wf := by
  obtain ⟨xs, n, _, rfl, hl, hlen, hg⟩ := DataW.trod_struct Try.underlying25 hf
  rw [cells_ptr] at hl
  match cs, hl with
  | [c0, c1, c2], _ =>
  match xs, hlen with
  | [y0, y1, y2], _ =>
  have g0 := hg 0 _ rfl
  have g1 := hg 1 _ rfl
  have g2 := hg 2 _ rfl
  simp [cells_int1, cells_u641, cells_u321] at g0 g1 g2
  obtain ⟨m0, h0, _, w0⟩ := DataW.trod_int Try.underlying3 g0
  obtain ⟨m1, h1, _, w1⟩ := DataW.trod_int Try.underlying22 g1
  obtain ⟨m2, h2, _, w2⟩ := DataW.trod_int Try.underlying23 g2
  simp at h0 h1 h2
  subst h0 h1 h2
  have b0 : -9223372036854775808 ≤ m0 ∧ m0 ≤ 9223372036854775807 := by simpa [Lit.wf, IntKind.min, IntKind.max, IntKind.signed, IntKind.bits] using w0
  have b1 : 0 ≤ m1 ∧ m1 ≤ 18446744073709551615 := by simpa [Lit.wf, IntKind.min, IntKind.max, IntKind.signed, IntKind.bits] using w1
  have b2 : 0 ≤ m2 ∧ m2 ≤ 4294967295 := by simpa [Lit.wf, IntKind.min, IntKind.max, IntKind.signed, IntKind.bits] using w2
  refine ⟨⟨m0, m1.toNat, m2.toNat⟩, ?_, ⟨b0, ?_, ?_⟩⟩
  · simp only
    rw [show ((m1.toNat : Nat) : Int) = m1 by omega, show ((m2.toNat : Nat) : Int) = m2 by omega]
  · show m1.toNat < _; omega
  · show m2.toNat < _; omega

set_option maxRecDepth 100000 in
theorem open_ptrD {H : Type} {enc : TypeId × Value → H} {W : World} {base : Nat} {v : Value} {d : DataW H} {ps : List MemPlace}
    (hval : Value.okWide Try.prog W .any base 25 v) (hd : DataW.Trod enc Try.prog W 0 (fun _ => true) true 25 v d ps) : ∃ p : PtrD, v = ptrV p ∧ p.wf := by
  obtain ⟨cs, rfl, _⟩ := WideShapes.okWide_struct Try.underlying25 hval
  obtain ⟨fuel, hf⟩ := hd
  obtain ⟨p, hp, wf⟩ := open_ptrs hf
  refine ⟨p, ?_, wf⟩
  have h2 : cs.toList = [.int .i64 p.loc, .int .u64 (p.birth : Int), .int .u32 (p.sum : Int)] := by simpa [Value.cells] using hp
  unfold ptrV
  rw [show cs = cs.toList.toArray from rfl, h2]
end Go.Proofs.Ytgmdhedabmkcoaa
