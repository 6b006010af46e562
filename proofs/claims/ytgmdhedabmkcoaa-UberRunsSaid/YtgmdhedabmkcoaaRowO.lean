/- A slice of elements of several cells each, that came in. -/
import Derived.Test.YtgmdhedabmkcoaaRow
import Derived.ChangeSame
set_option linter.unusedSimpArgs false
namespace Go.Proofs.Ytgmdhedabmkcoaa
open Go.RowKit

theorem add_add_at (a : Addr) (i j : Nat) : (a.add i).add j = a.add (i + j) := by
  obtain ⟨b, off, spot⟩ := a
  unfold Addr.add
  by_cases hi : i = 0 <;> by_cases hj : j = 0 <;> simp_all <;> omega
theorem rows_trod {α : Type} {f : α → List Value} {k : Nat} (hw : Wide f k) (Q : α → Prop) {H : Type} {enc : TypeId × Value → H} {P : Program} {W : World} {t e : TypeId} {v : Value} {d : DataW H} {ps : List MemPlace} {fuel : Nat}
    (ht : P.underlying t = some (.slice e)) (hc1 : P.cellsOf e = k)
    (hdec : ∀ n cs y, DataW.trod enc P W 0 (fun _ => true) true n e cs = some y → ∃ x, cs = f x ∧ Q x)
    (hf : DataW.trod enc P W 0 (fun _ => true) true fuel t [v] = some (d, ps)) :
    ∃ l : List α, IsRow f W v l ∧ l.length ≤ dlen d ∧ (d = .nil ∨ ∃ x y, d = .slice x y) ∧ ∀ x ∈ l, Q x := by
  rcases DataW.trod_slice ht hf with ⟨h1, h2⟩ | ⟨a, len, cap, elems, rest, n, _, hcs, hx, _, hl, hm, hel, hget, hsp, _⟩
  · simp at h1
    subst h1
    simp only [Prod.mk.injEq] at h2
    exact ⟨[], IsRow.nil f W, by simp, .inl h2.1, by simp⟩
  · simp at hcs
    subst hcs
    simp only [Prod.mk.injEq] at hx
    obtain ⟨rfl, _⟩ := hx
    have each : ∀ i, i < len → ∃ x, (∀ j u, (f x)[j]? = some u → W.cell? ((a.add (i * k)).add j) = some u) ∧ Q x := by
      intro i hi
      have h := hget i hi
      rw [hc1, List.getElem?_eq_getElem (by omega), Option.bind_eq_some_iff] at h
      obtain ⟨cs, hcs, hy⟩ := h
      obtain ⟨x, rfl, hq⟩ := hdec n cs _ hy
      refine ⟨x, fun j u hj => ?_, hq⟩
      have hjl : j < k := by rw [← hw.len x]; exact (List.getElem?_eq_some_iff.1 hj).1
      have := (World.cells?_some hcs).2.2 j hjl
      rw [this]
      exact hj
    have all : ∀ m, m ≤ len → ∃ l : List α, l.length = m ∧ (∀ j u, (l.flatMap f)[j]? = some u → W.cell? (a.add j) = some u) ∧ ∀ x ∈ l, Q x := by
      intro m
      induction m with
      | zero => exact fun _ => ⟨[], rfl, fun j u h => by simp at h, by simp⟩
      | succ m ih =>
        intro hk
        obtain ⟨l, h1, h2, h3⟩ := ih (by omega)
        obtain ⟨x, hx, hq⟩ := each m (by omega)
        refine ⟨l ++ [x], by simp [h1], fun j u hj => ?_, fun y hy => ?_⟩
        · rw [List.flatMap_append] at hj
          by_cases hjl : j < (l.flatMap f).length
          · rw [List.getElem?_append_left hjl] at hj
            exact h2 j u hj
          · rw [List.getElem?_append_right (by omega)] at hj
            simp only [List.flatMap_cons, List.flatMap_nil, List.append_nil] at hj
            have := hx _ u hj
            rw [hw.flat, h1] at this hjl
            rw [add_add_at] at this
            rw [show m * k + (j - m * k) = j from by omega] at this
            exact this
        · rcases List.mem_append.1 hy with hy | hy
          · exact h3 y hy
          · simp at hy; subst hy; exact hq
    obtain ⟨l, h1, h2, h3⟩ := all len (Nat.le_refl _)
    refine ⟨l, ?_, by simp [dlen, h1, hel], .inr ⟨_, _, rfl⟩, h3⟩
    by_cases h0 : len = 0
    · subst h0
      have : l = [] := List.length_eq_zero_iff.1 h1
      subst this
      exact .inl ⟨rfl, _, cap, rfl, hm, fun h => by cases h⟩
    · have hpos : 0 < (l.flatMap f).length := by rw [hw.flat, h1]; exact Nat.mul_pos (by omega) hw.pos
      have hc0 := h2 0 _ (List.getElem?_eq_getElem hpos)
      obtain ⟨b, off, spot⟩ := a
      have hspot : spot = none := by simpa [Addr.add] using World.cell?_spot hc0
      subst hspot
      refine .inr ⟨b, off, cap, by rw [h1], by omega, by omega, hm, fun j u hj => ?_⟩
      have := h2 j u hj
      rw [add_plain] at this
      exact this
theorem open_rows {α : Type} {f : α → List Value} {k : Nat} (hw : Wide f k) (Q : α → Prop) {H : Type} {enc : TypeId × Value → H} {P : Program} {W : World} {base : Nat} {t e : TypeId} {v : Value} {d : DataW H} {ps : List MemPlace}
    (ht : P.underlying t = some (.slice e)) (hc1 : P.cellsOf e = k)
    (hdec : ∀ n cs y, DataW.trod enc P W 0 (fun _ => true) true n e cs = some y → ∃ x, cs = f x ∧ Q x)
    (hval : Value.okWide P W .any base t v) (hd : DataW.Trod enc P W 0 (fun _ => true) true t v d ps) :
    ∃ l : List α, IsRow f W v l ∧ l.length ≤ dlen d ∧ (d = .nil ∨ ∃ x y, d = .slice x y) ∧ ∀ x ∈ l, Q x := by
  obtain ⟨a0, len, cap, rfl⟩ := WideShapes.okWide_slice ht hval
  obtain ⟨fuel, hf⟩ := hd
  exact rows_trod hw Q ht hc1 hdec hf
end Go.Proofs.Ytgmdhedabmkcoaa
