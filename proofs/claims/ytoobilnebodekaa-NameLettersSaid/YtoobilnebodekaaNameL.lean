/- How a string that came in is opened; nameAlive; NameNames, NameRights, NameFulls. -/
import Derived.Test.YtoobilnebodekaaNameR
import Derived.ChangeMaps5
import Derived.ChangeSame
set_option linter.unusedSimpArgs false
namespace Go.Proofs.Ytoobilnebodekaa
open Go.RowKit

theorem open_str {H : Type} {enc : TypeId × Value → H} {W : World} {base : Nat} {t : TypeId} {v : Value} {d : DataW H} {ps : List MemPlace} (ht : Try.prog.underlying t = some .string)
    (hval : Value.okWide Try.prog W .any base t v) (hd : DataW.Trod enc Try.prog W 0 (fun _ => true) true t v d ps) : ∃ l : List UInt8, v = .string (strOf l) ∧ l.length ≤ 9223372036854775807 := by
  obtain ⟨s, rfl, rfl, rfl, hs⟩ := Go.ChangeMaps.open_string ht hval hd
  refine ⟨s.data.toList, ?_, ?_⟩
  · obtain ⟨⟨l⟩⟩ := s
    rfl
  · unfold maxLen at hs
    exact hs

theorem home_split (W : World) : Calls Try.prog 9 #[.string ⟨#[104, 111, 109, 101, 64, 109, 111, 110, 100, 97, 121]⟩] W fun e w' => e = .returned (.tuple #[.string ⟨#[104, 111, 109, 101]⟩, .string ⟨#[109, 111, 110, 100, 97, 121]⟩, .int .i64 0]) ∧ Up W w' := by
  have h := split_any W [104, 111, 109, 101, 64, 109, 111, 110, 100, 97, 121] (by decide)
  rw [show splitO [104, 111, 109, 101, 64, 109, 111, 110, 100, 97, 121] = some ([104, 111, 109, 101], [109, 111, 110, 100, 97, 121]) from by decide] at h
  exact h
theorem home_full (W : World) : Calls Try.prog 14 #[.string ⟨#[104, 111, 109, 101]⟩, .string ⟨#[109, 111, 110, 100, 97, 121]⟩] W fun e w' => e = .returned (.string ⟨#[104, 111, 109, 101, 64, 109, 111, 110, 100, 97, 121]⟩) ∧ Up W w' := by
  have h := full_any W [104, 111, 109, 101] [109, 111, 110, 100, 97, 121]
  rw [show fullO [104, 111, 109, 101] [109, 111, 110, 100, 97, 121] = [104, 111, 109, 101, 64, 109, 111, 110, 100, 97, 121] from by decide] at h
  exact h
theorem home_right (W : World) : Calls Try.prog 12 #[.string ⟨#[104, 111, 109, 101]⟩] W fun e w' => e = .returned (.bool true) ∧ Up W w' := by
  have h := right_any W [104, 111, 109, 101]
  rw [show nameB [104, 111, 109, 101] = true from by decide] at h
  exact h
theorem home_not (W : World) : Calls Try.prog 12 #[.string ⟨#[104, 111, 109, 101, 64, 109, 111, 110, 100, 97, 121]⟩] W fun e w' => e = .returned (.bool false) ∧ Up W w' := by
  have h := right_any W [104, 111, 109, 101, 64, 109, 111, 110, 100, 97, 121]
  rw [show nameB [104, 111, 109, 101, 64, 109, 111, 110, 100, 97, 121] = false from by decide] at h
  exact h
theorem nil_split (W : World) : Calls Try.prog 9 #[.string ⟨#[]⟩] W fun e w' => e = .returned (.tuple #[.string ⟨#[]⟩, .string ⟨#[]⟩, .int .i64 141]) ∧ Up W w' := by
  have h := split_any W [] (by decide)
  rw [show splitO [] = none from by decide] at h
  exact h

theorem alive_any (w : World) : Calls Try.prog 10 #[] w fun e w' => e = .returned (.bool true) ∧ Up w w' := by
  go_enter Try.func10, Try.ntmps10
  go_wp2_with fail
  refine (home_split _).mono ?_
  rintro e w1 ⟨rfl, up1⟩
  go_wp2_with fail
  refine (home_full _).mono ?_
  rintro e w2 ⟨rfl, up2⟩
  go_wp2_with fail
  refine (home_right _).mono ?_
  rintro e w3 ⟨rfl, up3⟩
  go_wp2_with fail
  refine (home_not _).mono ?_
  rintro e w4 ⟨rfl, up4⟩
  go_wp2_with fail
  go_ret
  exact ⟨rfl, up1.trans (up2.trans (up3.trans up4))⟩

theorem nameNames_walk (w : World) : Calls Try.prog 3 #[] w fun e w' => e = .returned (.bool true) ∧ Up w w' := by
  go_enter Try.func3, Try.ntmps3
  go_wp2_with fail
  refine (nil_split _).mono ?_
  rintro e w1 ⟨rfl, up1⟩
  go_wp2_with fail
  refine (alive_any _).mono ?_
  rintro e w2 ⟨rfl, up2⟩
  go_wp2_with fail
  go_ret
  exact ⟨rfl, up1.trans up2⟩

theorem splitV_cases (l : List UInt8) : ∃ (x y : ByteArray) (n : Int), splitV (splitO l) = .tuple #[.string x, .string y, .int .i64 n] := by
  cases splitO l with
  | none => exact ⟨_, _, _, rfl⟩
  | some p => obtain ⟨a, b⟩ := p; exact ⟨_, _, _, rfl⟩
set_option maxHeartbeats 1000000 in
theorem nameRights_walk (w : World) (l : List UInt8) (hl : l.length ≤ 9223372036854775807) : Calls Try.prog 4 #[.string (strOf l)] w fun e w' => e = .returned (.bool true) ∧ Up w w' := by
  have S1 := Lib.hid (fun W => split_any W l hl)
  have S2 := Lib.hid (fun W => refSplit_any W l hl)
  have R1 := Lib.hid (fun W => right_any W l)
  have R2 := Lib.hid (fun W => refRight_any W l)
  obtain ⟨x, y, n, hv⟩ := splitV_cases l
  rw [hv] at S1 S2
  clear hv
  generalize strOf l = s at *
  generalize nameB l = b at *
  have hx : (x.toList == x.toList) = true := by simp
  have hy : (y.toList == y.toList) = true := by simp
  have hn : (n == n) = true := by simp
  have hb : (b == b) = true := by simp
  go_enter Try.func4, Try.ntmps4
  go_wp2_with fail
  refine (S1.out _).mono ?_
  rintro e w1 ⟨rfl, up1⟩
  go_wp2_with fail
  refine (S2.out _).mono ?_
  rintro e w2 ⟨rfl, up2⟩
  go_wp2_with fail
  refine (alive_any _).mono ?_
  rintro e w3 ⟨rfl, up3⟩
  go_wp2_with fail
  refine (R1.out _).mono ?_
  rintro e w4 ⟨rfl, up4⟩
  go_wp2_with fail
  refine (R2.out _).mono ?_
  rintro e w5 ⟨rfl, rfl⟩
  go_wp2_with fail
  go_ret
  exact ⟨rfl, up1.trans (up2.trans (up3.trans up4))⟩

theorem nameFulls_walk (w : World) (a : List UInt8) (_h : a.length ≤ 9223372036854775807) (b : List UInt8) (_h2 : b.length ≤ 9223372036854775807) : Calls Try.prog 5 #[.string (strOf a), .string (strOf b)] w fun e w' => e = .returned (.bool true) ∧ Up w w' := by
  have S1 := Lib.hid (fun W => full_any W a b)
  have S2 := Lib.hid (fun W => refFull_any W a b)
  generalize strOf (fullO a b) = x at *
  generalize strOf a = s at *
  generalize strOf b = t at *
  have hx : (x.toList == x.toList) = true := by simp
  go_enter Try.func5, Try.ntmps5
  go_wp2_with fail
  refine (alive_any _).mono ?_
  rintro e w1 ⟨rfl, up1⟩
  go_wp2_with fail
  refine (S1.out _).mono ?_
  rintro e w2 ⟨rfl, up2⟩
  go_wp2_with fail
  refine (S2.out _).mono ?_
  rintro e w3 ⟨rfl, up3⟩
  go_wp2_with fail
  go_ret
  exact ⟨rfl, up1.trans (up2.trans up3)⟩
end Go.Proofs.Ytoobilnebodekaa
