/- An argument that is a slice of slices of bytes. -/
import Derived.Test.YtmapdpocmpnokaaFieldJ
namespace Go.Proofs.Ytmapdpocmpnokaa
open Go.RowKit

def textCell (x : SlV × List UInt8) : Value := slCell x.1
theorem dec_text {H : Type} {enc : TypeId × Value → H} {P : Program} {W : World} {e e2 : TypeId} (he : P.underlying e = some (.slice e2)) (hc : P.cellsOf e2 = 1) (he2 : P.underlying e2 = some (.int .u8)) :
    ∀ n c y, DataW.trod enc P W 0 (fun _ => true) true n e [c] = some y → ∃ x : SlV × List UInt8, c = textCell x ∧ IsBytes W (textCell x) x.2 := by
  intro n c y hy
  obtain ⟨l, hl, _⟩ := ones_trod byteCell (fun _ => True) he hc (dec_u8 he2) hy
  obtain ⟨a, cap, rfl⟩ := hl.slice
  exact ⟨(⟨a, l.length, cap⟩, l), rfl, hl⟩
theorem open_texts {H : Type} {enc : TypeId × Value → H} {P : Program} {W : World} {base : Nat} {t e e2 : TypeId} {v : Value} {d : DataW H} {ps : List MemPlace}
    (ht : P.underlying t = some (.slice e)) (hc1 : P.cellsOf e = 1) (he : P.underlying e = some (.slice e2)) (hc : P.cellsOf e2 = 1) (he2 : P.underlying e2 = some (.int .u8))
    (hval : Value.okWide P W .any base t v) (hd : DataW.Trod enc P W 0 (fun _ => true) true t v d ps) :
    ∃ ts : List (List UInt8), IsTexts W v ts := by
  obtain ⟨l, h1, _, _, h4⟩ := open_ones textCell (fun x => IsBytes W (textCell x) x.2) ht hc1 (dec_text he hc he2) hval hd
  refine ⟨l.map (·.2), l.map (·.1), by simp, ?_, fun i a b => ?_⟩
  · rcases h1 with ⟨rfl, h⟩ | ⟨b, off, cap, h1, h2, h3, h5, h6⟩
    · exact .inl ⟨rfl, h⟩
    · refine .inr ⟨b, off, cap, by simpa using h1, by simpa using h2, by simpa using h3, h5, fun i hi => ?_⟩
      rw [h6 i (by simpa using hi)]
      simp [textCell]
  · simp only [List.getElem_map]
    exact h4 _ (List.getElem_mem (by simpa using a))
end Go.Proofs.Ytmapdpocmpnokaa
