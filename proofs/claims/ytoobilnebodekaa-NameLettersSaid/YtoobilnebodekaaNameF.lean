/- The walks of Split and Full of both sides. -/
import Derived.Test.YtoobilnebodekaaNameS
set_option linter.unusedSimpArgs false
namespace Go.Proofs.Ytoobilnebodekaa
open Go.RowKit

theorem splitO_none {l : List UInt8} (h : Lib.indexByte l 64 = -1) : splitO l = if nameB l = true then some (l, []) else none := by
  unfold splitO
  rw [if_pos h]
theorem splitO_some {l : List UInt8} {k : Nat} (h : Lib.indexByte l 64 = k) : splitO l = if nameB (l.take k) = true ∧ nameB (l.drop (k + 1)) = true then some (l.take k, l.drop (k + 1)) else none := by
  unfold splitO
  rw [if_neg (by omega), h]
  simp only [Int.toNat_natCast]
theorem at_not_ok : okB 64 = false := by decide
theorem name_no_at {l : List UInt8} (h : nameB l = true) (j : Nat) : l[j]? ≠ some 64 := by
  intro hj
  have hm := List.mem_of_getElem? hj
  have := ((nameB_iff l).1 h).2.2 64 hm
  rw [at_not_ok] at this
  cases this
theorem name_index {l : List UInt8} (h : nameB l = true) : Lib.indexByte l 64 = -1 := by
  rcases indexByte_cases l 64 with h1 | ⟨k, _, _, h2, _⟩
  · exact h1
  · exact absurd h2 (name_no_at h k)
theorem take_name_index {l : List UInt8} {k : Nat} (hk : l[k]? = some 64) (h : nameB (l.take k) = true) : Lib.indexByte l 64 = k := by
  rcases indexByte_cases l 64 with h1 | ⟨j, h1, _, h2, h3⟩
  · exact absurd hk (Lib.indexByte_none h1 k)
  · have : ¬ j < k := fun hlt => by
      have := name_no_at h j
      rw [List.getElem?_take, if_pos hlt] at this
      exact this h2
    have : ¬ k < j := fun hlt => h3 k hlt hk
    rw [h1]
    omega
/-- Is the text cut at k? -/
def hitB (l : List UInt8) (k : Nat) : Bool := decide (l[k]? = some 64) && nameB (l.take k) && nameB (l.drop (k + 1))
theorem hit_split {l : List UInt8} {k : Nat} (h1 : l[k]? = some 64) (h2 : nameB (l.take k) = true) (h3 : nameB (l.drop (k + 1)) = true) : splitO l = some (l.take k, l.drop (k + 1)) := by
  rw [splitO_some (take_name_index h1 h2), if_pos ⟨h2, h3⟩]
theorem name_split {l : List UInt8} (h : nameB l = true) : splitO l = some (l, []) := by
  rw [splitO_none (name_index h), if_pos h]
theorem miss_split {l : List UInt8} (h : nameB l = false) (hm : ∀ j, j < l.length → hitB l j = false) : splitO l = none := by
  rcases indexByte_cases l 64 with h1 | ⟨k, h1, hk, h2, _⟩
  · rw [splitO_none h1, h]; simp
  · rw [splitO_some h1, if_neg]
    rintro ⟨h3, h4⟩
    have := hm k hk
    simp [hitB, h2, h3, h4] at this

set_option maxHeartbeats 1000000 in
theorem split_any (w : World) (l : List UInt8) (hl : l.length ≤ 9223372036854775807) : Calls Try.prog 9 #[.string (strOf l)] w fun e w' => e = .returned (splitV (splitO l)) ∧ Up w w' := by
  rcases indexByte_cases l 64 with h | ⟨k, h, hk, _⟩
  · have C := Lib.hid (fun W => cut_none W l h)
    have R := Lib.hid (fun W => right_any W l)
    rw [splitO_none h]
    clear h
    generalize hb : nameB l = b at *
    clear hb
    have V : ∀ s, strOf l = s → splitV (if b = true then some (l, []) else none) = if b = true then .tuple #[.string s, .string ⟨#[]⟩, .int .i64 0] else .tuple #[.string ⟨#[]⟩, .string ⟨#[]⟩, .int .i64 141] := by
      rintro s rfl
      cases b <;> rfl
    rw [V _ rfl]
    clear V
    generalize strOf l = s at *
    cases b
    all_goals
      simp only [Bool.false_eq_true, false_and, and_false, and_self, if_false, if_true, reduceIte]
      go_enter Try.func9, Try.ntmps9
      go_wp2_with fail
      refine (C.out _).mono ?_
      rintro e w1 ⟨rfl, up1⟩
      go_wp2_with fail
      refine (R.out _).mono ?_
      rintro e w2 ⟨rfl, up2⟩
      go_wp2_with fail
      go_ret3
      exact ⟨rfl, up1.trans up2⟩
  · have C := Lib.hid (fun W => cut_some W l k h hk hl)
    have R1 := Lib.hid (fun W => right_any W (l.take k))
    have R2 := Lib.hid (fun W => right_any W (l.drop (k + 1)))
    rw [splitO_some h]
    clear h hk hl
    generalize l.take k = x at *
    generalize l.drop (k + 1) = y at *
    generalize hb : nameB x = b at *
    generalize hb2 : nameB y = b2 at *
    clear hb hb2
    have V : ∀ s t, strOf x = s → strOf y = t → splitV (if b = true ∧ b2 = true then some (x, y) else none) = if b = true ∧ b2 = true then .tuple #[.string s, .string t, .int .i64 0] else .tuple #[.string ⟨#[]⟩, .string ⟨#[]⟩, .int .i64 141] := by
      rintro s t rfl rfl
      cases b <;> cases b2 <;> rfl
    rw [V _ _ rfl rfl]
    clear V
    generalize strOf x = s at *
    generalize strOf y = t at *
    cases b
    · simp only [Bool.false_eq_true, false_and, and_false, and_self, if_false, if_true, reduceIte]
      go_enter Try.func9, Try.ntmps9
      go_wp2_with fail
      refine (C.out _).mono ?_
      rintro e w1 ⟨rfl, up1⟩
      go_wp2_with fail
      refine (R1.out _).mono ?_
      rintro e w2 ⟨rfl, up2⟩
      go_wp2_with fail
      go_ret3
      exact ⟨rfl, up1.trans up2⟩
    cases b2
    all_goals
      simp only [Bool.false_eq_true, false_and, and_false, and_self, if_false, if_true, reduceIte]
      go_enter Try.func9, Try.ntmps9
      go_wp2_with fail
      refine (C.out _).mono ?_
      rintro e w1 ⟨rfl, up1⟩
      go_wp2_with fail
      refine (R1.out _).mono ?_
      rintro e w2 ⟨rfl, up2⟩
      go_wp2_with fail
      refine (R2.out _).mono ?_
      rintro e w3 ⟨rfl, up3⟩
      go_wp2_with fail
      go_ret3
      exact ⟨rfl, up1.trans (up2.trans up3)⟩

theorem strOf_join (a b : List UInt8) : (strOf a ++ (⟨#[64]⟩ : ByteArray)) ++ strOf b = strOf (a ++ 64 :: b) := by
  apply ByteArray.ext
  simp [strOf, ByteArray.data_append]
theorem eq_nil_test (b : List UInt8) : ((strOf b).toList == []) = decide (b = []) := by
  rw [ByteArray.toList_eq, strOf_data]
  cases b <;> simp

set_option maxHeartbeats 1000000 in
theorem full_any (w : World) (a b : List UInt8) : Calls Try.prog 14 #[.string (strOf a), .string (strOf b)] w fun e w' => e = .returned (.string (strOf (fullO a b))) ∧ Up w w' := by
  have R1 := Lib.hid (fun W => right_any W a)
  have R2 := Lib.hid (fun W => right_any W b)
  have ht := eq_nil_test b
  have hf : strOf (fullO a b) = if nameB a = true then (if b = [] then strOf a else if nameB b = true then strOf (a ++ 64 :: b) else ⟨#[]⟩) else ⟨#[]⟩ := by
    unfold fullO
    split
    · split
      · rfl
      · split <;> rfl
    · rfl
  rw [hf, ← strOf_join]
  clear hf
  have hs1 : nameB a = true → (strOf a).size ≤ 24 := fun h => ((nameB_iff a).1 h).2.1
  have hs2 : nameB b = true → (strOf b).size ≤ 24 := fun h => ((nameB_iff b).1 h).2.1
  generalize strOf a = s at *
  generalize strOf b = t at *
  generalize nameB a = x at *
  generalize nameB b = y at *
  cases x
  · simp only [Bool.false_eq_true, false_and, and_false, and_self, if_false, if_true, reduceIte]
    go_enter Try.func14, Try.ntmps14
    go_wp2_with fail
    refine (R1.out _).mono ?_
    rintro e w1 ⟨rfl, up1⟩
    go_wp2_with fail
    go_ret
    exact ⟨rfl, up1⟩
  by_cases hb : b = []
  · have ht2 : (t.toList == []) = true := by rw [ht]; simpa using hb
    rw [if_pos rfl, if_pos hb]
    clear ht hb
    go_enter Try.func14, Try.ntmps14
    go_wp2_with fail
    refine (R1.out _).mono ?_
    rintro e w1 ⟨rfl, up1⟩
    go_wp2_with fail
    go_ret
    exact ⟨rfl, up1⟩
  have ht2 : (t.toList == []) = false := by rw [ht]; simpa using hb
  rw [if_pos rfl, if_neg hb]
  clear ht hb
  cases y
  · simp only [Bool.false_eq_true, false_and, and_false, and_self, if_false, if_true, reduceIte]
    go_enter Try.func14, Try.ntmps14
    go_wp2_with fail
    refine (R1.out _).mono ?_
    rintro e w1 ⟨rfl, up1⟩
    go_wp2_with fail
    refine (R2.out _).mono ?_
    rintro e w2 ⟨rfl, up2⟩
    go_wp2_with fail
    go_ret
    exact ⟨rfl, up1.trans up2⟩
  · simp only [Bool.false_eq_true, false_and, and_false, and_self, if_false, if_true, reduceIte]
    have z1 := hs1 rfl
    have z2 := hs2 rfl
    have z3 : ∀ W, (Op.stringOp .add s ⟨#[64]⟩).run Try.prog W = .ok (.string (s ++ ⟨#[64]⟩)) W := fun W => run_string_add_sum W s ⟨#[64]⟩ (by show s.size + 1 ≤ _; omega)
    have z4 : ∀ W, (Op.stringOp .add (s ++ ⟨#[64]⟩) t).run Try.prog W = .ok (.string ((s ++ ⟨#[64]⟩) ++ t)) W := fun W => run_string_add_sum W _ t (by rw [ByteArray.size_append']; show s.size + 1 + t.size ≤ _; omega)
    clear hs1 hs2 z1 z2
    generalize (s ++ ⟨#[64]⟩ : ByteArray) = st at *
    generalize (st ++ t : ByteArray) = stt at *
    go_enter Try.func14, Try.ntmps14
    go_wp2_with fail
    refine (R1.out _).mono ?_
    rintro e w1 ⟨rfl, up1⟩
    go_wp2_with fail
    refine (R2.out _).mono ?_
    rintro e w2 ⟨rfl, up2⟩
    go_wp2_with fail
    go_ret
    exact ⟨rfl, up1.trans up2⟩
end Go.Proofs.Ytoobilnebodekaa
