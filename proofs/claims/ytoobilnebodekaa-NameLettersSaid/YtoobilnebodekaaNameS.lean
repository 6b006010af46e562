/- Where a text is cut; the walks of the library's Cut, of Split and Full of both sides. -/
import Derived.Test.YtoobilnebodekaaName
import Derived.Lib.Strings
import Derived.Lib.Slices
import Derived.Lib.Walk
import Derived.Lib.Bytealg
import Derived.Lib.IndexLaws
set_option linter.unusedSimpArgs false
namespace Go.Proofs.Ytoobilnebodekaa
open Go.RowKit

theorem strOf_to (l : List UInt8) (k : Nat) : (strOf l).extract 0 k = strOf (l.take k) := by
  unfold strOf
  rw [ByteArray.extract_mk]
  simp
theorem strOf_from (l : List UInt8) (k : Nat) : (strOf l).extract k (strOf l).size = strOf (l.drop k) := by
  rw [strOf_size]
  unfold strOf
  rw [ByteArray.extract_mk]
  rw [List.take_of_length_le (by simp)]
theorem strOf_nil : strOf [] = ⟨#[]⟩ := rfl

theorem indexByte_cases (l : List UInt8) (c : UInt8) : Lib.indexByte l c = -1 ∨ ∃ k : Nat, Lib.indexByte l c = k ∧ k < l.length ∧ l[k]? = some c ∧ ∀ j, j < k → l[j]? ≠ some c := by
  by_cases h : Lib.indexByte l c = -1
  · exact .inl h
  · have hge := Lib.indexByte_ge l c
    obtain ⟨k, hk⟩ : ∃ k : Nat, Lib.indexByte l c = k := ⟨(Lib.indexByte l c).toNat, by omega⟩
    obtain ⟨h1, h2⟩ := Lib.indexByte_some hk
    refine .inr ⟨k, hk, ?_, h1, h2⟩
    rw [List.getElem?_eq_some_iff] at h1
    exact h1.1

/-- What 'Split' hands back. -/
def splitV : Option (List UInt8 × List UInt8) → Value
  | none => .tuple #[.string ⟨#[]⟩, .string ⟨#[]⟩, .int .i64 141]
  | some (a, b) => .tuple #[.string (strOf a), .string (strOf b), .int .i64 0]
def splitO (l : List UInt8) : Option (List UInt8 × List UInt8) :=
  if Lib.indexByte l 64 = -1 then (if nameB l = true then some (l, []) else none)
  else if nameB (l.take (Lib.indexByte l 64).toNat) = true ∧ nameB (l.drop ((Lib.indexByte l 64).toNat + 1)) = true then some (l.take (Lib.indexByte l 64).toNat, l.drop ((Lib.indexByte l 64).toNat + 1)) else none
def fullO (a b : List UInt8) : List UInt8 := if nameB a = true then (if b = [] then a else if nameB b = true then a ++ 64 :: b else []) else []

theorem index_byte (w : World) (l : List UInt8) : Calls Try.prog 19 #[.string (strOf l), .int .u8 64] w fun e w' => e = .returned (.int .i64 (Lib.indexByte l 64)) ∧ w = w' := by
  go_enter Try.func19, Try.ntmps19
  go_wp2
  rw [run_callFunc_extern Try.func23 (by kernel_rfl) (by kernel_rfl) (by kernel_rfl) (e := Extern.BytealgIndexByte.indexByte) (by kernel_rfl), Lib.run_indexByteString]
  simp only [Result.andThen]
  rw [Oper.upon_value]
  go_wp2
  go_ret
  exact ⟨rfl, rfl⟩

set_option maxHeartbeats 1000000 in
theorem index_at (w : World) (l : List UInt8) : Calls Try.prog 18 #[.string (strOf l), .string ⟨#[64]⟩] w fun e w' => e = .returned (.int .i64 (Lib.indexByte l 64)) ∧ w = w' := by
  have hc := Lib.hid (fun W => index_byte W l)
  have hd : (strOf l).toList = l := by rw [ByteArray.toList_eq, strOf_data]
  generalize strOf l = s at *
  by_cases h : l = [64]
  · subst h
    have ht : ([64] == s.toList) = true := by rw [hd]; rfl
    clear hd hc
    go_enter Try.func18, Try.ntmps18
    go_wp2_with fail
    go_ret
    exact ⟨rfl, rfl⟩
  · have ht : ([64] == s.toList) = false := by rw [hd]; simpa using fun e => h e.symm
    clear hd
    go_enter Try.func18, Try.ntmps18
    go_wp2_with fail
    refine (hc.out _).mono ?_
    rintro e w' ⟨rfl, rfl⟩
    go_wp2_with fail
    go_ret
    exact ⟨rfl, rfl⟩

theorem wrap_i64_nat (n : Nat) (h : n ≤ 9223372036854775807) : IntKind.i64.wrap (n : Int) = (n : Int) := by
  simp [IntKind.wrap, IntKind.bits, IntKind.signed]
  omega
/-- The library's Cut at '@' where there is none. -/
theorem cutL_none (w : World) (l : List UInt8) (h : Lib.indexByte l 64 = -1) : Calls Try.prog 17 #[.string (strOf l), .string ⟨#[64]⟩] w fun e w' => e = .returned (.tuple #[.string (strOf l), .string ⟨#[]⟩, .bool false]) ∧ Up w w' := by
  have hc := Lib.hid (fun W => index_at W l)
  rw [h] at hc
  clear h
  generalize strOf l = s at *
  go_enter Try.func17, Try.ntmps17
  go_wp2_with fail
  refine (hc.out _).mono ?_
  rintro e w' ⟨rfl, rfl⟩
  go_wp2_with fail
  go_ret3
  exact ⟨rfl, Up.refl _⟩
theorem cutL_some (w : World) (l : List UInt8) (k : Nat) (h : Lib.indexByte l 64 = k) (hk : k < l.length) (hl : l.length ≤ 9223372036854775807) : Calls Try.prog 17 #[.string (strOf l), .string ⟨#[64]⟩] w fun e w' => e = .returned (.tuple #[.string (strOf (l.take k)), .string (strOf (l.drop (k + 1))), .bool true]) ∧ Up w w' := by
  have hc := Lib.hid (fun W => index_at W l)
  rw [h] at hc
  clear h
  have hsz : (strOf l).size = l.length := rfl
  have e1 := strOf_to l k
  have e2 := strOf_from l (k + 1)
  rw [hsz] at e2
  generalize strOf l = s at *
  have h1 : ((k : Int) ≤ (l.length : Int)) = True := by simp; omega
  have h2 : IntKind.i64.wrap ((k : Int) + 1) = (k : Int) + 1 := wrap_i64_nat (k + 1) (by omega)
  have h3 : ((k : Int) + 1 ≤ (l.length : Int)) = True := by simp; omega
  have h3b : (0 ≤ (k : Int) + 1) = True := by simp; omega
  have h4 : ((k : Int) + 1).toNat = k + 1 := by omega
  go_enter Try.func17, Try.ntmps17
  go_wp2_with fail
  refine (hc.out _).mono ?_
  rintro e w' ⟨rfl, rfl⟩
  go_wp2_with fail
  go_quiet (fail)
  go_wp2_with fail
  go_ret3
  exact ⟨rfl, (Up.refl _).drewN _⟩
/-- strings.Cut at '@'. -/
theorem cut_none (w : World) (l : List UInt8) (h : Lib.indexByte l 64 = -1) : Calls Try.prog 16 #[.string (strOf l), .string ⟨#[64]⟩] w fun e w' => e = .returned (.tuple #[.string (strOf l), .string ⟨#[]⟩, .bool false]) ∧ Up w w' := by
  have hc := Lib.hid (fun W => cutL_none W l h)
  clear h
  generalize strOf l = s at *
  go_enter Try.func16, Try.ntmps16
  go_wp2_with fail
  refine (hc.out _).mono ?_
  rintro e w' ⟨rfl, up⟩
  go_wp2_with fail
  go_ret3
  exact ⟨rfl, up⟩
theorem cut_some (w : World) (l : List UInt8) (k : Nat) (h : Lib.indexByte l 64 = k) (hk : k < l.length) (hl : l.length ≤ 9223372036854775807) : Calls Try.prog 16 #[.string (strOf l), .string ⟨#[64]⟩] w fun e w' => e = .returned (.tuple #[.string (strOf (l.take k)), .string (strOf (l.drop (k + 1))), .bool true]) ∧ Up w w' := by
  have hc := Lib.hid (fun W => cutL_some W l k h hk hl)
  clear h
  generalize strOf l = s at *
  generalize strOf (l.take k) = s1 at *
  generalize strOf (l.drop (k + 1)) = s2 at *
  go_enter Try.func16, Try.ntmps16
  go_wp2_with fail
  refine (hc.out _).mono ?_
  rintro e w' ⟨rfl, up⟩
  go_wp2_with fail
  go_ret3
  exact ⟨rfl, up⟩
end Go.Proofs.Ytoobilnebodekaa
