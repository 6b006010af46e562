/- The chapter's example. -/
import Derived.Test.YtgmdhedabmkcoaaDevN
set_option linter.unusedSimpArgs false
set_option linter.unusedVariables false
namespace Go.Proofs.Ytgmdhedabmkcoaa
open Go.RowKit

/-- A device of the call's own. -/
structure DevAt (w w' : World) (h : Hnd) (v : DevD) : Prop where
  dv : Dv w' h v
  up : Up w w'
  own : ∀ b, Foot h b → w.heap.size ≤ b
theorem DevAt.turn {w w1 w2 : World} {h : Hnd} {v v' : DevD} (A : DevAt w w1 h v) (T : Turned w1 h v' w2) : ∃ vp, DevAt w w2 { h with vp := vp } v' ∧ Touch (Foot h) w1 w2 := by
  obtain ⟨vp, D, T, O⟩ := T
  refine ⟨vp, ⟨D, T.up A.up A.own, fun b hb => ?_⟩, T⟩
  rcases Turned.foot (w' := w2) O b hb with h1 | h1
  · exact A.own b h1
  · exact Nat.le_trans A.up.size h1
theorem DevAt.touch {w w1 w2 : World} {h : Hnd} {v v' : DevD} (A : DevAt w w1 h v) (D : Dv w2 h v') (T : Touch (Foot h) w1 w2) : DevAt w w2 h v' := ⟨D, T.up A.up A.own, A.own⟩
theorem DevAt.upTo {w w1 w2 : World} {h : Hnd} {v : DevD} (A : DevAt w w1 h v) (U : Up w1 w2) : DevAt w w2 h v := ⟨A.dv.up U, A.up.trans U, A.own⟩
theorem IsOnes.touch {α : Type} {f : α → Value} {w w' : World} {v : Value} {l : List α} {F : Nat → Prop} (h : IsOnes f w v l) (T : Touch F w w') (hF : ∀ b, v.ownBlock = some b → ¬ F b) : IsOnes f w' v l := by
  rcases h with h | ⟨b, off, cap, h1, h2, h3, h4, h5⟩
  · exact .inl h
  · exact .inr ⟨b, off, cap, h1, h2, h3, h4, fun i hi => cell_touch (h5 i hi) T (hF b (by rw [h1]; rfl))⟩
section
variable {P : Program}
theorem wpList_build1 {ops : Array Oper} {rest : List Oper} {o : Oper} {a : Act} {w : World} {Q : Exit → Act → World → Prop} (hw : Region.wanted o (yielded ops a.tmps) = true) (t : TypeId) (i : Nat) (x : Operand) (ho : o.op = .build t #[(i, x)]) (v : Value) (hx : a.eval x = v) (C : Array Value) (hb : P.built t [(i, v)] = some C)
    (h : wpList P ops Q rest (a.put o.dst (.agg C)) w) : wpList P ops Q (o :: rest) a w :=
  BigFrame.wpList_want hw fun _ hK => wp_build t #[(i, x)] ho (by simp [hx, hb]) (hK _ _ (by simpa [hx, hb] using h))
end
end Go.Proofs.Ytgmdhedabmkcoaa
