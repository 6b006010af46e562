/- Arrays that came in. -/
import Derived.Test.YtgmdhedabmkcoaaSec
import Derived.ChangeSame
import Derived.OpenShut
set_option linter.unusedSimpArgs false
namespace Go.Proofs.Ytgmdhedabmkcoaa
open Go.RowKit

theorem okWide_array {P : Program} {w : World} {r : Reach} {base : Nat} {t e : TypeId} {n : Nat} {v : Value} (ht : P.underlying t = some (.array n e)) (h : Value.okWide P w r base t v) : ∃ cs, v = .agg cs ∧ cs.size = P.cellsOf t := by
  simp only [Value.okWide, ht] at h
  obtain ⟨cs, h1, h2, _⟩ := h
  exact ⟨cs, h1, h2⟩
/-- An array's cells, element by element. -/
theorem array_trod {α : Type} {f : α → List Value} {k : Nat} (Q : α → Prop) {H : Type} {enc : TypeId × Value → H} {P : Program} {W : World} {t e : TypeId} {n : Nat} {cs : List Value} {x : DataW H × List MemPlace} {fuel : Nat}
    (ht : P.underlying t = some (.array n e)) (hck : P.cellsOf e = k) (hct : P.cellsOf t = n * k)
    (hdec : ∀ m cs y, DataW.trod enc P W 0 (fun _ => true) true m e cs = some y → ∃ x, cs = f x ∧ Q x)
    (hf : DataW.trod enc P W 0 (fun _ => true) true fuel t cs = some x) : ∃ l : List α, l.length = n ∧ cs = l.flatMap f ∧ ∀ x ∈ l, Q x := by
  obtain ⟨xs, m, _, _, hl, hlen, hg⟩ := DataW.trod_array ht hf
  rw [hck] at hg
  rw [hct] at hl
  have each : ∀ i, i < n → ∃ x, (cs.drop (i * k)).take k = f x ∧ Q x := fun i hi => by
    have h := hg i hi
    rw [List.getElem?_eq_getElem (by omega)] at h
    exact hdec m _ _ h
  have all : ∀ j, j ≤ n → ∃ l : List α, l.length = j ∧ cs.take (j * k) = l.flatMap f ∧ ∀ x ∈ l, Q x := by
    intro j
    induction j with
    | zero => exact fun _ => ⟨[], rfl, by simp, by simp⟩
    | succ j ih =>
      intro hj
      obtain ⟨l, h1, h2, h3⟩ := ih (by omega)
      obtain ⟨x, hx, hq⟩ := each j (by omega)
      refine ⟨l ++ [x], by simp [h1], ?_, fun y hy => ?_⟩
      · rw [Nat.succ_mul, List.take_add, h2, hx]
        simp
      · rcases List.mem_append.1 hy with hy | hy
        · exact h3 y hy
        · simp at hy; subst hy; exact hq
  obtain ⟨l, h1, h2, h3⟩ := all n (Nat.le_refl _)
  rw [List.take_of_length_le (by omega)] at h2
  exact ⟨l, h1, h2, h3⟩
theorem flat_byte (s : List UInt8) : s.flatMap (fun c => [byteCell c]) = s.map byteCell := by
  induction s with
  | nil => rfl
  | cons x s ih => simp [ih]
set_option maxRecDepth 100000 in
theorem sec_trod {H : Type} {enc : TypeId × Value → H} {W : World} {cs : List Value} {x : DataW H × List MemPlace} {fuel : Nat}
    (hf : DataW.trod enc Try.prog W 0 (fun _ => true) true fuel 34 cs = some x) : ∃ s : List UInt8, s.length = 128 ∧ cs = s.map byteCell := by
  obtain ⟨l, h1, h2, _⟩ := array_trod (f := fun c : UInt8 => [byteCell c]) (k := 1) (fun _ => True) (n := 128) Try.underlying34 (by kernel_rfl) (by kernel_rfl) (fun m cs y hy => by
    have hl : cs.length = 1 := by
      have := DataW.trod_int Try.underlying5 hy
      obtain ⟨m0, h0, _⟩ := this
      rw [h0]; rfl
    obtain ⟨c, rfl⟩ := List.length_eq_one_iff.1 hl
    obtain ⟨x, hx, _⟩ := dec_u8 (P := Try.prog) Try.underlying5 m c y hy
    exact ⟨x, by rw [hx], trivial⟩) hf
  exact ⟨l, h1, by rw [h2, flat_byte]⟩
set_option maxRecDepth 100000 in
theorem open_sec {H : Type} {enc : TypeId × Value → H} {W : World} {base : Nat} {v : Value} {d : DataW H} {ps : List MemPlace}
    (hval : Value.okWide Try.prog W .any base 34 v) (hd : DataW.Trod enc Try.prog W 0 (fun _ => true) true 34 v d ps) : ∃ s : List UInt8, v = .agg (secC s) ∧ s.length = 128 := by
  obtain ⟨cs, rfl, _⟩ := okWide_array Try.underlying34 hval
  obtain ⟨fuel, hf⟩ := hd
  obtain ⟨s, h1, h2⟩ := sec_trod hf
  refine ⟨s, ?_, h1⟩
  have h3 : cs.toList = s.map byteCell := by simpa [Value.cells] using h2
  unfold secC
  rw [← h3]
end Go.Proofs.Ytgmdhedabmkcoaa
