/- Acts that came in. -/
import Derived.Test.YthlpoboijggjnaaDevA
import Derived.Test.YthlpoboijggjnaaArrO
import Derived.Test.YthlpoboijggjnaaRowO
set_option linter.unusedSimpArgs false
set_option linter.unusedVariables false
namespace Go.Proofs.Ythlpoboijggjnaa
open Go.RowKit

abbrev Slc := { v : Value // v.oneCell' = true }
/-- Something done with a device. -/
structure ActD where
  kind : Int
  loc : Int
  s : Sec
  keep : Slc
def ActD.wf (x : ActD) : Prop := (-9223372036854775808 ≤ x.kind ∧ x.kind ≤ 9223372036854775807) ∧ (-9223372036854775808 ≤ x.loc ∧ x.loc ≤ 9223372036854775807)
def acells (x : ActD) : List Value := .int .i64 x.kind :: .int .i64 x.loc :: (scells x.s ++ [x.keep.val])
theorem aw : Wide acells 131 := ⟨by omega, fun x => by unfold acells; simp [sw.len], fun x u hu => by
  unfold acells at hu
  simp only [List.mem_cons, List.mem_append, List.not_mem_nil, or_false] at hu
  rcases hu with rfl | rfl | hu | rfl
  · rfl
  · rfl
  · exact sw.one x.s u hu
  · exact x.keep.property⟩
theorem four_parts {cs : List Value} (h : cs.length = 131) : cs = (cs.drop 0).take 1 ++ ((cs.drop 1).take 1 ++ ((cs.drop 2).take 128 ++ (cs.drop 130).take 1)) := by
  have h3 : (cs.drop 130).take 1 = cs.drop 130 := List.take_of_length_le (by rw [List.length_drop]; omega)
  rw [h3]
  have e2 : (cs.drop 2).take 128 ++ cs.drop 130 = cs.drop 2 := by
    conv => rhs; rw [← List.take_append_drop 128 (cs.drop 2), List.drop_drop]
  rw [e2]
  have e1 : (cs.drop 1).take 1 ++ cs.drop 2 = cs.drop 1 := by
    conv => rhs; rw [← List.take_append_drop 1 (cs.drop 1), List.drop_drop]
  rw [e1]
  conv => lhs; rw [← List.take_append_drop 1 cs]
  rfl
theorem open_acts {H : Type} {enc : TypeId × Value → H} {W : World} {n0 : Nat} {cs : List Value} {x : DataW H × List MemPlace}
    (hf : DataW.trod enc Try.prog W 0 (fun _ => true) true n0 31 cs = some x) : ∃ p : ActD, cs = acells p ∧ p.wf := by
  obtain ⟨xs, n, _, rfl, hl, hlen, hg⟩ := DataW.trod_struct Try.underlying31 hf
  rw [show Try.prog.cellsOf 31 = 131 from by kernel_rfl] at hl
  match xs, hlen with
  | [y0, y1, y2, y3], _ =>
  have g0 : DataW.trod enc Try.prog W 0 (fun _ => true) true n 3 ((cs.drop 0).take (Try.prog.cellsOf 3)) = some y0 := hg 0 _ rfl
  have g1 : DataW.trod enc Try.prog W 0 (fun _ => true) true n 3 ((cs.drop 1).take (Try.prog.cellsOf 3)) = some y1 := hg 1 _ rfl
  have g2 : DataW.trod enc Try.prog W 0 (fun _ => true) true n 29 ((cs.drop 2).take (Try.prog.cellsOf 29)) = some y2 := hg 2 _ rfl
  have g3 : DataW.trod enc Try.prog W 0 (fun _ => true) true n 27 ((cs.drop 130).take (Try.prog.cellsOf 27)) = some y3 := hg 3 _ rfl
  rw [show Try.prog.cellsOf 3 = 1 from by kernel_rfl] at g0 g1
  rw [show Try.prog.cellsOf 29 = 128 from by kernel_rfl] at g2
  rw [show Try.prog.cellsOf 27 = 1 from by kernel_rfl] at g3
  obtain ⟨m0, h0, _, w0⟩ := DataW.trod_int Try.underlying3 g0
  obtain ⟨m1, h1, _, w1⟩ := DataW.trod_int Try.underlying3 g1
  obtain ⟨s, hs, h2⟩ := sec_trod g2
  obtain ⟨u, h3⟩ : ∃ u : Slc, (cs.drop 130).take 1 = [u.val] := by
    rcases DataW.trod_slice Try.underlying27 g3 with ⟨h3, _⟩ | ⟨a, len, cap, _, _, _, _, h3, _⟩
    · exact ⟨⟨.slice none 0 0, rfl⟩, h3⟩
    · exact ⟨⟨.slice (some a) len cap, rfl⟩, h3⟩
  have b0 : -9223372036854775808 ≤ m0 ∧ m0 ≤ 9223372036854775807 := by simpa [Lit.wf, IntKind.min, IntKind.max, IntKind.signed, IntKind.bits] using w0
  have b1 : -9223372036854775808 ≤ m1 ∧ m1 ≤ 9223372036854775807 := by simpa [Lit.wf, IntKind.min, IntKind.max, IntKind.signed, IntKind.bits] using w1
  refine ⟨⟨m0, m1, ⟨s, hs⟩, u⟩, ?_, b0, b1⟩
  rw [four_parts hl]
  exact congr (congrArg _ h0) (congr (congrArg _ h1) (congr (congrArg _ h2) h3))
theorem dec_bool {H : Type} {enc : TypeId × Value → H} {P : Program} {W : World} {e : TypeId} (he : P.underlying e = some .bool) :
    ∀ n c y, DataW.trod enc P W 0 (fun _ => true) true n e [c] = some y → ∃ x, c = boolCell x ∧ True := by
  intro n c y hy
  obtain ⟨b, hb, _⟩ := DataW.trod_bool he hy
  simp at hb
  exact ⟨b, hb, trivial⟩
end Go.Proofs.Ythlpoboijggjnaa
