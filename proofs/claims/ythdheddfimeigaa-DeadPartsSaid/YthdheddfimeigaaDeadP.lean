/- Plain laws of sorted lists: Add, Merge. -/
import Derived.Test.YthdheddfimeigaaDeadM
set_option linter.unusedSimpArgs false
namespace Go.Proofs.Ythdheddfimeigaa
open Go.RowKit Go.Sort

def PW (l : List PtrD) : Prop := l.Pairwise (fun x y => lessB x y = true)
theorem pw_sorted {l : List PtrD} : PW l ↔ SortedP l := by
  unfold PW SortedP
  rw [List.pairwise_iff_getElem]
  constructor
  · intro h i j hj hij; exact h i j (by omega) hj hij
  · intro h i j _ hj hij; exact h i j hj hij
theorem merge_comm : ∀ (n : Nat) (a b : List PtrD), a.length + b.length ≤ n → mergeF a b = mergeF b a
  | 0, a, b, h => by
    have h1 : a = [] := List.length_eq_zero_iff.1 (by omega)
    have h2 : b = [] := List.length_eq_zero_iff.1 (by omega)
    rw [h1, h2]
  | n + 1, [], b, _ => by rw [merge_nil, merge_nil2]
  | n + 1, x :: a, [], _ => by rw [merge_nil, merge_nil2]
  | n + 1, x :: a, y :: b, h => by
    have i1 := merge_comm n a (y :: b) (by simp at h ⊢; omega)
    have i2 := merge_comm n (x :: a) b (by simp at h ⊢; omega)
    rw [merge_step (x :: a) (y :: b) (by simp) (by simp), merge_step (y :: b) (x :: a) (by simp) (by simp)]
    simp only [List.getElem_cons_zero, List.drop_succ_cons, List.drop_zero]
    rw [i1, i2]
    cases h1 : lessB x y
    · simp
    · simp [less_asym h1]
/-- Two sorted lists of the same pointers are one. -/
theorem sorted_one : ∀ (l m : List PtrD), PW l → PW m → (∀ x, x ∈ l ↔ x ∈ m) → l = m
  | [], [], _, _, _ => rfl
  | [], y :: m, _, _, h => by have := (h y).2 (by simp); simp at this
  | x :: l, [], _, _, h => by have := (h x).1 (by simp); simp at this
  | x :: l, y :: m, hl, hm, h => by
    unfold PW at hl hm
    rw [List.pairwise_cons] at hl hm
    have hxy : x = y := by
      have h1 := (h x).1 (by simp)
      have h2 := (h y).2 (by simp)
      rcases List.mem_cons.1 h1 with e | h1
      · exact e
      · rcases List.mem_cons.1 h2 with e | h2
        · exact e.symm
        · have := less_trans (hl.1 y h2) (hm.1 x h1)
          rw [less_irr] at this
          cases this
    subst hxy
    rw [sorted_one l m hl.2 hm.2 (fun z => by
      constructor
      · intro hz
        rcases List.mem_cons.1 ((h z).1 (List.mem_cons_of_mem _ hz)) with e | h3
        · subst e
          have := hl.1 z hz
          rw [less_irr] at this
          cases this
        · exact h3
      · intro hz
        rcases List.mem_cons.1 ((h z).2 (List.mem_cons_of_mem _ hz)) with e | h3
        · subst e
          have := hm.1 z hz
          rw [less_irr] at this
          cases this
        · exact h3)]
/-- What Merge makes. -/
theorem merge_spec : ∀ (n : Nat) (a b : List PtrD), a.length + b.length ≤ n → PW a → PW b →
    ((∃ x, x ∈ a ∧ x ∈ b) ∧ mergeF a b = none) ∨ ((∀ x, x ∈ a → x ∉ b) ∧ ∃ m, mergeF a b = some m ∧ PW m ∧ ∀ x, x ∈ m ↔ x ∈ a ∨ x ∈ b)
  | n, [], b, _, _, hb => .inr ⟨by simp, b, merge_nil b, hb, by simp⟩
  | n, x :: a, [], _, ha, _ => .inr ⟨by simp, x :: a, merge_nil2 _, ha, by simp⟩
  | 0, x :: a, y :: b, h, _, _ => by simp at h
  | n + 1, x :: a, y :: b, h, ha, hb => by
    have ha' := ha
    have hb' := hb
    unfold PW at ha' hb'
    rw [List.pairwise_cons] at ha' hb'
    rw [merge_step (x :: a) (y :: b) (by simp) (by simp)]
    simp only [List.getElem_cons_zero, List.drop_succ_cons, List.drop_zero]
    cases h1 : lessB x y
    · cases h2 : lessB y x
      · have e := less_tri h1 h2
        subst e
        exact .inl ⟨⟨x, by simp, by simp⟩, by simp⟩
      · have hny : ∀ z ∈ x :: a, lessB y z = true := fun z hz => by
          rcases List.mem_cons.1 hz with e | hz
          · rw [e]; exact h2
          · exact less_trans h2 (ha'.1 z hz)
        rcases merge_spec n (x :: a) b (by simp at h ⊢; omega) ha hb'.2 with ⟨⟨z, z1, z2⟩, hm⟩ | ⟨hd, m, hm, hp, hmem⟩
        · exact .inl ⟨⟨z, z1, List.mem_cons_of_mem _ z2⟩, by simp [hm]⟩
        · refine .inr ⟨fun z hz hzb => ?_, y :: m, by simp [hm], ?_, fun z => ?_⟩
          · rcases List.mem_cons.1 hzb with e | hzb
            · have := hny z hz
              rw [e, less_irr] at this
              cases this
            · exact hd z hz hzb
          · unfold PW
            rw [List.pairwise_cons]
            refine ⟨fun z hz => ?_, hp⟩
            rcases (hmem z).1 hz with h3 | h3
            · exact hny z h3
            · exact hb'.1 z h3
          · rw [List.mem_cons, hmem, List.mem_cons (a := z) (b := y)]
            constructor
            · rintro (h | h | h)
              · exact .inr (.inl h)
              · exact .inl h
              · exact .inr (.inr h)
            · rintro (h | h | h)
              · exact .inr (.inl h)
              · exact .inl h
              · exact .inr (.inr h)
    · have hnx : ∀ z ∈ y :: b, lessB x z = true := fun z hz => by
        rcases List.mem_cons.1 hz with e | hz
        · rw [e]; exact h1
        · exact less_trans h1 (hb'.1 z hz)
      rcases merge_spec n a (y :: b) (by simp at h ⊢; omega) ha'.2 hb with ⟨⟨z, z1, z2⟩, hm⟩ | ⟨hd, m, hm, hp, hmem⟩
      · exact .inl ⟨⟨z, List.mem_cons_of_mem _ z1, z2⟩, by simp [hm]⟩
      · refine .inr ⟨fun z hz hzb => ?_, x :: m, by simp [hm], ?_, fun z => ?_⟩
        · rcases List.mem_cons.1 hz with e | hz
          · have := hnx z hzb
            rw [e, less_irr] at this
            cases this
          · exact hd z hz hzb
        · unfold PW
          rw [List.pairwise_cons]
          refine ⟨fun z hz => ?_, hp⟩
          rcases (hmem z).1 hz with h3 | h3
          · exact ha'.1 z h3
          · exact hnx z h3
        · rw [List.mem_cons, hmem, List.mem_cons (a := z) (b := x)]
          constructor
          · rintro (h | h | h)
            · exact .inl (.inl h)
            · exact .inl (.inr h)
            · exact .inr h
          · rintro ((h | h) | h)
            · exact .inl h
            · exact .inr (.inl h)
            · exact .inr (.inr h)
end Go.Proofs.Ythdheddfimeigaa
