/- Plain laws of names; NameBack. -/
import Derived.Test.YtoobilnebodekaaNameL
set_option linter.unusedSimpArgs false
namespace Go.Proofs.Ytoobilnebodekaa
open Go.RowKit

theorem name_ne_nil {l : List UInt8} (h : nameB l = true) : l ≠ [] := by
  rintro rfl
  exact absurd h (by decide)
theorem join_split {a b : List UInt8} (ha : nameB a = true) (hb : nameB b = true) : splitO (a ++ 64 :: b) = some (a, b) := by
  have h1 : (a ++ 64 :: b)[a.length]? = some 64 := by simp
  have h2 : (a ++ 64 :: b).take a.length = a := by simp
  have h3 : (a ++ 64 :: b).drop (a.length + 1) = b := by
    rw [List.drop_append]
    simp
  have := hit_split (l := a ++ 64 :: b) (k := a.length) h1 (by rw [h2]; exact ha) (by rw [h3]; exact hb)
  rw [h2, h3] at this
  exact this
theorem full_split {a b : List UInt8} (h : fullO a b ≠ []) : splitO (fullO a b) = some (a, b) := by
  unfold fullO at *
  split at h
  · rename_i ha
    rw [if_pos ha]
    split at h
    · rename_i hb
      subst hb
      rw [if_pos rfl]
      exact name_split ha
    · rename_i hb
      rw [if_neg hb]
      split at h
      · rename_i hb2
        rw [if_pos hb2]
        exact join_split ha hb2
      · exact absurd rfl h
  · exact absurd rfl h
theorem full_nil {a b : List UInt8} (h : fullO a b = []) : nameB a = false ∨ (nameB a = true ∧ b ≠ [] ∧ nameB b = false) := by
  unfold fullO at h
  split at h
  · rename_i ha
    refine .inr ⟨ha, ?_⟩
    split at h
    · exact absurd h (name_ne_nil ha)
    · rename_i hb
      split at h
      · simp at h
      · rename_i hb2
        exact ⟨hb, by simpa using hb2⟩
  · rename_i ha
    exact .inl (by simpa using ha)
theorem split_full {l a b : List UInt8} (h : splitO l = some (a, b)) : fullO a b = l ∧ nameB a = true ∧ (b = [] ∨ (b ≠ [] ∧ nameB b = true)) := by
  rcases indexByte_cases l 64 with h1 | ⟨k, h1, hk, h2, _⟩
  · rw [splitO_none h1] at h
    split at h
    · rename_i hn
      simp only [Option.some.injEq, Prod.mk.injEq] at h
      obtain ⟨rfl, rfl⟩ := h
      refine ⟨?_, hn, .inl rfl⟩
      unfold fullO
      rw [if_pos hn, if_pos rfl]
    · cases h
  · rw [splitO_some h1] at h
    split at h
    · rename_i hn
      simp only [Option.some.injEq, Prod.mk.injEq] at h
      obtain ⟨rfl, rfl⟩ := h
      refine ⟨?_, hn.1, .inr ⟨name_ne_nil hn.2, hn.2⟩⟩
      unfold fullO
      rw [if_pos hn.1, if_neg (name_ne_nil hn.2), if_pos hn.2]
      rw [List.getElem?_eq_some_iff] at h2
      obtain ⟨_, h2⟩ := h2
      have := List.drop_eq_getElem_cons hk
      rw [h2] at this
      rw [← this, List.take_append_drop]
    · cases h

set_option maxHeartbeats 4000000 in
theorem nameBack_walk (w : World) (a : List UInt8) (_h : a.length ≤ 9223372036854775807) (b : List UInt8) (_h2 : b.length ≤ 9223372036854775807) (l : List UInt8) (hl : l.length ≤ 9223372036854775807) :
    Calls Try.prog 6 #[.string (strOf a), .string (strOf b), .string (strOf l)] w fun e w' => e = .returned (.bool true) ∧ Up w w' := by
  -- the second part
  have P2 : (∀ W, Calls Try.prog 9 #[.string (strOf l)] W fun e w' => e = .returned (.tuple #[.string ⟨#[]⟩, .string ⟨#[]⟩, .int .i64 141]) ∧ Up W w') ∨
      ∃ A B : ByteArray, (∀ W, Calls Try.prog 9 #[.string (strOf l)] W fun e w' => e = .returned (.tuple #[.string A, .string B, .int .i64 0]) ∧ Up W w') ∧
        (∀ W, Calls Try.prog 14 #[.string A, .string B] W fun e w' => e = .returned (.string (strOf l)) ∧ Up W w') ∧ (∀ W, Calls Try.prog 12 #[.string A] W fun e w' => e = .returned (.bool true) ∧ Up W w') ∧
        ((B.toList == []) = true ∨ ((B.toList == []) = false ∧ ∀ W, Calls Try.prog 12 #[.string B] W fun e w' => e = .returned (.bool true) ∧ Up W w')) := by
    cases hs : splitO l with
    | none =>
      refine .inl fun W => ?_
      have := split_any W l hl
      rw [hs] at this
      exact this
    | some p =>
      obtain ⟨x, y⟩ := p
      obtain ⟨h1, h2, h3⟩ := split_full hs
      refine .inr ⟨strOf x, strOf y, fun W => ?_, fun W => ?_, fun W => ?_, ?_⟩
      · have := split_any W l hl
        rw [hs] at this
        exact this
      · have := full_any W x y
        rw [h1] at this
        exact this
      · have := right_any W x
        rw [h2] at this
        exact this
      · rcases h3 with h3 | ⟨h3, h4⟩
        · exact .inl (by rw [eq_nil_test]; simpa using h3)
        · refine .inr ⟨by rw [eq_nil_test]; simpa using h3, fun W => ?_⟩
          have := right_any W y
          rw [h4] at this
          exact this
  -- the first part
  have P1 : ∃ X : ByteArray, (∀ W, Calls Try.prog 14 #[.string (strOf a), .string (strOf b)] W fun e w' => e = .returned (.string X) ∧ Up W w') ∧
      (((X.toList == []) = false ∧ ∀ W, Calls Try.prog 9 #[.string X] W fun e w' => e = .returned (.tuple #[.string (strOf a), .string (strOf b), .int .i64 0]) ∧ Up W w') ∨
       ((X.toList == []) = true ∧ ∀ W, Calls Try.prog 12 #[.string (strOf a)] W fun e w' => e = .returned (.bool false) ∧ Up W w') ∨
       ((X.toList == []) = true ∧ (∀ W, Calls Try.prog 12 #[.string (strOf a)] W fun e w' => e = .returned (.bool true) ∧ Up W w') ∧ ((strOf b).toList == []) = false ∧ ∀ W, Calls Try.prog 12 #[.string (strOf b)] W fun e w' => e = .returned (.bool false) ∧ Up W w')) := by
    refine ⟨strOf (fullO a b), fun W => full_any W a b, ?_⟩
    by_cases hx : fullO a b = []
    · have ht : ((strOf (fullO a b)).toList == []) = true := by rw [eq_nil_test]; simpa using hx
      rcases full_nil hx with h1 | ⟨h1, h2, h3⟩
      · refine .inr (.inl ⟨ht, fun W => ?_⟩)
        have := right_any W a
        rw [h1] at this
        exact this
      · refine .inr (.inr ⟨ht, fun W => ?_, by rw [eq_nil_test]; simpa using h2, fun W => ?_⟩)
        · have := right_any W a
          rw [h1] at this
          exact this
        · have := right_any W b
          rw [h3] at this
          exact this
    · refine .inl ⟨by rw [eq_nil_test]; simpa using hx, fun W => ?_⟩
      have hlen : (fullO a b).length ≤ 9223372036854775807 := by
        unfold fullO at *
        split
        · rename_i ha
          have := (nameB_iff a).1 ha
          split
          · omega
          · split
            · rename_i hb
              have := (nameB_iff b).1 hb
              simp
              omega
            · simp
        · simp
      have := split_any W (fullO a b) hlen
      rw [full_split hx] at this
      exact this
  clear hl _h _h2
  generalize strOf a = s at *
  generalize strOf b = t at *
  generalize strOf l = f at *
  have es : (s.toList == s.toList) = true := by simp
  have et : (t.toList == t.toList) = true := by simp
  have ef : (f.toList == f.toList) = true := by simp
  obtain ⟨X, hX, hP1⟩ := P1
  have HX := Lib.hid hX
  clear hX
  rcases hP1 with ⟨tx, h⟩ | ⟨tx, h⟩ | ⟨tx, h, tt, h'⟩
  all_goals
    have H1 := Lib.hid h
    clear h
  · rcases P2 with h | ⟨A, B, h1, h2, h3, tb | ⟨tb, h4⟩⟩
    · have K1 := Lib.hid h
      clear h
      go_enter Try.func6, Try.ntmps6
      go_wp2_with fail
      refine (alive_any _).mono ?_
      rintro e w1 ⟨rfl, up1⟩
      go_wp2_with fail
      refine (HX.out _).mono ?_
      rintro e w2 ⟨rfl, up2⟩
      go_wp2_with fail
      refine (H1.out _).mono ?_
      rintro e w3 ⟨rfl, up3⟩
      go_wp2_with fail
      refine (K1.out _).mono ?_
      rintro e w4 ⟨rfl, up4⟩
      go_wp2_with fail
      go_ret
      exact ⟨rfl, up1.trans (up2.trans (up3.trans up4))⟩
    · have K1 := Lib.hid h1
      have K2 := Lib.hid h2
      have K3 := Lib.hid h3
      clear h1 h2 h3
      go_enter Try.func6, Try.ntmps6
      go_wp2_with fail
      refine (alive_any _).mono ?_
      rintro e w1 ⟨rfl, up1⟩
      go_wp2_with fail
      refine (HX.out _).mono ?_
      rintro e w2 ⟨rfl, up2⟩
      go_wp2_with fail
      refine (H1.out _).mono ?_
      rintro e w3 ⟨rfl, up3⟩
      go_wp2_with fail
      refine (K1.out _).mono ?_
      rintro e w4 ⟨rfl, up4⟩
      go_wp2_with fail
      refine (K2.out _).mono ?_
      rintro e w5 ⟨rfl, up5⟩
      go_wp2_with fail
      refine (K3.out _).mono ?_
      rintro e w6 ⟨rfl, up6⟩
      go_wp2_with fail
      go_ret
      exact ⟨rfl, up1.trans (up2.trans (up3.trans (up4.trans (up5.trans up6))))⟩
    · have K1 := Lib.hid h1
      have K2 := Lib.hid h2
      have K3 := Lib.hid h3
      have K4 := Lib.hid h4
      clear h1 h2 h3 h4
      go_enter Try.func6, Try.ntmps6
      go_wp2_with fail
      refine (alive_any _).mono ?_
      rintro e w1 ⟨rfl, up1⟩
      go_wp2_with fail
      refine (HX.out _).mono ?_
      rintro e w2 ⟨rfl, up2⟩
      go_wp2_with fail
      refine (H1.out _).mono ?_
      rintro e w3 ⟨rfl, up3⟩
      go_wp2_with fail
      refine (K1.out _).mono ?_
      rintro e w4 ⟨rfl, up4⟩
      go_wp2_with fail
      refine (K2.out _).mono ?_
      rintro e w5 ⟨rfl, up5⟩
      go_wp2_with fail
      refine (K3.out _).mono ?_
      rintro e w6 ⟨rfl, up6⟩
      go_wp2_with fail
      refine (K4.out _).mono ?_
      rintro e w7 ⟨rfl, up7⟩
      go_wp2_with fail
      go_ret
      exact ⟨rfl, up1.trans (up2.trans (up3.trans (up4.trans (up5.trans (up6.trans up7)))))⟩
  · rcases P2 with h | ⟨A, B, h1, h2, h3, tb | ⟨tb, h4⟩⟩
    · have K1 := Lib.hid h
      clear h
      go_enter Try.func6, Try.ntmps6
      go_wp2_with fail
      refine (alive_any _).mono ?_
      rintro e w1 ⟨rfl, up1⟩
      go_wp2_with fail
      refine (HX.out _).mono ?_
      rintro e w2 ⟨rfl, up2⟩
      go_wp2_with fail
      refine (H1.out _).mono ?_
      rintro e w3 ⟨rfl, up3⟩
      go_wp2_with fail
      refine (K1.out _).mono ?_
      rintro e w4 ⟨rfl, up4⟩
      go_wp2_with fail
      go_ret
      exact ⟨rfl, up1.trans (up2.trans (up3.trans up4))⟩
    · have K1 := Lib.hid h1
      have K2 := Lib.hid h2
      have K3 := Lib.hid h3
      clear h1 h2 h3
      go_enter Try.func6, Try.ntmps6
      go_wp2_with fail
      refine (alive_any _).mono ?_
      rintro e w1 ⟨rfl, up1⟩
      go_wp2_with fail
      refine (HX.out _).mono ?_
      rintro e w2 ⟨rfl, up2⟩
      go_wp2_with fail
      refine (H1.out _).mono ?_
      rintro e w3 ⟨rfl, up3⟩
      go_wp2_with fail
      refine (K1.out _).mono ?_
      rintro e w4 ⟨rfl, up4⟩
      go_wp2_with fail
      refine (K2.out _).mono ?_
      rintro e w5 ⟨rfl, up5⟩
      go_wp2_with fail
      refine (K3.out _).mono ?_
      rintro e w6 ⟨rfl, up6⟩
      go_wp2_with fail
      go_ret
      exact ⟨rfl, up1.trans (up2.trans (up3.trans (up4.trans (up5.trans up6))))⟩
    · have K1 := Lib.hid h1
      have K2 := Lib.hid h2
      have K3 := Lib.hid h3
      have K4 := Lib.hid h4
      clear h1 h2 h3 h4
      go_enter Try.func6, Try.ntmps6
      go_wp2_with fail
      refine (alive_any _).mono ?_
      rintro e w1 ⟨rfl, up1⟩
      go_wp2_with fail
      refine (HX.out _).mono ?_
      rintro e w2 ⟨rfl, up2⟩
      go_wp2_with fail
      refine (H1.out _).mono ?_
      rintro e w3 ⟨rfl, up3⟩
      go_wp2_with fail
      refine (K1.out _).mono ?_
      rintro e w4 ⟨rfl, up4⟩
      go_wp2_with fail
      refine (K2.out _).mono ?_
      rintro e w5 ⟨rfl, up5⟩
      go_wp2_with fail
      refine (K3.out _).mono ?_
      rintro e w6 ⟨rfl, up6⟩
      go_wp2_with fail
      refine (K4.out _).mono ?_
      rintro e w7 ⟨rfl, up7⟩
      go_wp2_with fail
      go_ret
      exact ⟨rfl, up1.trans (up2.trans (up3.trans (up4.trans (up5.trans (up6.trans up7)))))⟩
  · have H2 := Lib.hid h'
    clear h'
    rcases P2 with h | ⟨A, B, h1, h2, h3, tb | ⟨tb, h4⟩⟩
    · have K1 := Lib.hid h
      clear h
      go_enter Try.func6, Try.ntmps6
      go_wp2_with fail
      refine (alive_any _).mono ?_
      rintro e w1 ⟨rfl, up1⟩
      go_wp2_with fail
      refine (HX.out _).mono ?_
      rintro e w2 ⟨rfl, up2⟩
      go_wp2_with fail
      refine (H1.out _).mono ?_
      rintro e w3 ⟨rfl, up3⟩
      go_wp2_with fail
      refine (H2.out _).mono ?_
      rintro e w3b ⟨rfl, up3b⟩
      go_wp2_with fail
      refine (K1.out _).mono ?_
      rintro e w4 ⟨rfl, up4⟩
      go_wp2_with fail
      go_ret
      exact ⟨rfl, up1.trans (up2.trans (up3.trans (up3b.trans up4)))⟩
    · have K1 := Lib.hid h1
      have K2 := Lib.hid h2
      have K3 := Lib.hid h3
      clear h1 h2 h3
      go_enter Try.func6, Try.ntmps6
      go_wp2_with fail
      refine (alive_any _).mono ?_
      rintro e w1 ⟨rfl, up1⟩
      go_wp2_with fail
      refine (HX.out _).mono ?_
      rintro e w2 ⟨rfl, up2⟩
      go_wp2_with fail
      refine (H1.out _).mono ?_
      rintro e w3 ⟨rfl, up3⟩
      go_wp2_with fail
      refine (H2.out _).mono ?_
      rintro e w3b ⟨rfl, up3b⟩
      go_wp2_with fail
      refine (K1.out _).mono ?_
      rintro e w4 ⟨rfl, up4⟩
      go_wp2_with fail
      refine (K2.out _).mono ?_
      rintro e w5 ⟨rfl, up5⟩
      go_wp2_with fail
      refine (K3.out _).mono ?_
      rintro e w6 ⟨rfl, up6⟩
      go_wp2_with fail
      go_ret
      exact ⟨rfl, up1.trans (up2.trans (up3.trans (up3b.trans (up4.trans (up5.trans up6)))))⟩
    · have K1 := Lib.hid h1
      have K2 := Lib.hid h2
      have K3 := Lib.hid h3
      have K4 := Lib.hid h4
      clear h1 h2 h3 h4
      go_enter Try.func6, Try.ntmps6
      go_wp2_with fail
      refine (alive_any _).mono ?_
      rintro e w1 ⟨rfl, up1⟩
      go_wp2_with fail
      refine (HX.out _).mono ?_
      rintro e w2 ⟨rfl, up2⟩
      go_wp2_with fail
      refine (H1.out _).mono ?_
      rintro e w3 ⟨rfl, up3⟩
      go_wp2_with fail
      refine (H2.out _).mono ?_
      rintro e w3b ⟨rfl, up3b⟩
      go_wp2_with fail
      refine (K1.out _).mono ?_
      rintro e w4 ⟨rfl, up4⟩
      go_wp2_with fail
      refine (K2.out _).mono ?_
      rintro e w5 ⟨rfl, up5⟩
      go_wp2_with fail
      refine (K3.out _).mono ?_
      rintro e w6 ⟨rfl, up6⟩
      go_wp2_with fail
      refine (K4.out _).mono ?_
      rintro e w7 ⟨rfl, up7⟩
      go_wp2_with fail
      go_ret
      exact ⟨rfl, up1.trans (up2.trans (up3.trans (up3b.trans (up4.trans (up5.trans (up6.trans up7))))))⟩
end Go.Proofs.Ytoobilnebodekaa
