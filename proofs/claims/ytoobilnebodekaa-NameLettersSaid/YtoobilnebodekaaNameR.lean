/- The document's Full and Split: the walks. -/
import Derived.Test.YtoobilnebodekaaNameF
set_option linter.unusedSimpArgs false
namespace Go.Proofs.Ytoobilnebodekaa
open Go.RowKit

set_option maxHeartbeats 1000000 in
theorem refFull_any (w : World) (a b : List UInt8) : Calls Try.prog 15 #[.string (strOf a), .string (strOf b)] w fun e w' => e = .returned (.string (strOf (fullO a b))) ∧ Up w w' := by
  have R1 := Lib.hid (fun W => refRight_any W a)
  have R2 := Lib.hid (fun W => refRight_any W b)
  have ht := eq_nil_test b
  have hf : strOf (fullO a b) = if nameB a = true then (if b = [] then strOf a else if nameB b = true then strOf (a ++ 64 :: b) else ⟨#[]⟩) else ⟨#[]⟩ := by
    unfold fullO
    split
    · split
      · rfl
      · split <;> rfl
    · rfl
  rw [hf, ← strOf_join]
  clear hf
  have hs1 : nameB a = true → (strOf a).size ≤ 24 := fun h => ((nameB_iff a).1 h).2.1
  have hs2 : nameB b = true → (strOf b).size ≤ 24 := fun h => ((nameB_iff b).1 h).2.1
  generalize strOf a = s at *
  generalize strOf b = t at *
  generalize nameB a = x at *
  generalize nameB b = y at *
  cases x
  · simp only [Bool.false_eq_true, false_and, and_false, and_self, if_false, if_true, reduceIte]
    go_enter Try.func15, Try.ntmps15
    go_wp2_with fail
    refine (R1.out _).mono ?_
    rintro e w1 ⟨rfl, rfl⟩
    go_wp2_with fail
    go_ret
    exact ⟨rfl, Up.refl _⟩
  by_cases hb : b = []
  · have ht2 : (t.toList == []) = true := by rw [ht]; simpa using hb
    rw [if_pos rfl, if_pos hb]
    clear ht hb
    go_enter Try.func15, Try.ntmps15
    go_wp2_with fail
    refine (R1.out _).mono ?_
    rintro e w1 ⟨rfl, rfl⟩
    go_wp2_with fail
    go_ret
    exact ⟨rfl, Up.refl _⟩
  have ht2 : (t.toList == []) = false := by rw [ht]; simpa using hb
  rw [if_pos rfl, if_neg hb]
  clear ht hb
  cases y
  · simp only [Bool.false_eq_true, false_and, and_false, and_self, if_false, if_true, reduceIte]
    go_enter Try.func15, Try.ntmps15
    go_wp2_with fail
    refine (R1.out _).mono ?_
    rintro e w1 ⟨rfl, rfl⟩
    go_wp2_with fail
    refine (R2.out _).mono ?_
    rintro e w2 ⟨rfl, rfl⟩
    go_wp2_with fail
    go_ret
    exact ⟨rfl, Up.refl _⟩
  · simp only [Bool.false_eq_true, false_and, and_false, and_self, if_false, if_true, reduceIte]
    have z1 := hs1 rfl
    have z2 := hs2 rfl
    have z3 : ∀ W, (Op.stringOp .add s ⟨#[64]⟩).run Try.prog W = .ok (.string (s ++ ⟨#[64]⟩)) W := fun W => run_string_add_sum W s ⟨#[64]⟩ (by show s.size + 1 ≤ _; omega)
    have z4 : ∀ W, (Op.stringOp .add (s ++ ⟨#[64]⟩) t).run Try.prog W = .ok (.string ((s ++ ⟨#[64]⟩) ++ t)) W := fun W => run_string_add_sum W _ t (by rw [ByteArray.size_append']; show s.size + 1 + t.size ≤ _; omega)
    clear hs1 hs2 z1 z2
    generalize (s ++ ⟨#[64]⟩ : ByteArray) = st at *
    generalize (st ++ t : ByteArray) = stt at *
    go_enter Try.func15, Try.ntmps15
    go_wp2_with fail
    refine (R1.out _).mono ?_
    rintro e w1 ⟨rfl, rfl⟩
    go_wp2_with fail
    refine (R2.out _).mono ?_
    rintro e w2 ⟨rfl, rfl⟩
    go_wp2_with fail
    go_ret
    exact ⟨rfl, Up.refl _⟩

theorem hit_iff (l : List UInt8) (k : Nat) (h : k < l.length) : hitB l k = (decide (l[k].toNat = 64) && nameB (l.take k) && nameB (l.drop (k + 1))) := by
  unfold hitB
  rw [List.getElem?_eq_getElem h]
  have : (some l[k] = some 64) ↔ l[k].toNat = 64 := by
    rw [Option.some.injEq, ← UInt8.toNat_inj]
    rfl
  rw [decide_eq_decide.2 this]
theorem at_of {l : List UInt8} {k : Nat} (h : k < l.length) (hc : l[k].toNat = 64) : l[k]? = some 64 := by
  rw [List.getElem?_eq_getElem h, Option.some.injEq, ← UInt8.toNat_inj]
  exact hc
theorem no_step {l : List UInt8} {k : Nat} (h : ∀ j, j < k → hitB l j = false) (hk : hitB l k = false) : ∀ j, j < k + 1 → hitB l j = false := by
  intro j hj
  by_cases e : j = k
  · rw [e]; exact hk
  · exact h j (by omega)

set_option maxHeartbeats 2000000 in
theorem refSplit_any (w : World) (l : List UInt8) (hl : l.length ≤ 9223372036854775807) : Calls Try.prog 11 #[.string (strOf l)] w fun e w' => e = .returned (splitV (splitO l)) ∧ Up w w' := by
  have R := Lib.hid (fun W => refRight_any W l)
  cases hb : nameB l
  case true =>
    rw [name_split hb]
    rw [hb] at R
    clear hb
    show Calls _ _ _ _ fun e w' => e = .returned (.tuple #[.string (strOf l), .string ⟨#[]⟩, .int .i64 0]) ∧ Up w w'
    generalize strOf l = s at *
    go_enter Try.func11, Try.ntmps11
    go_wp2_with fail
    refine (R.out _).mono ?_
    rintro e w1 ⟨rfl, rfl⟩
    go_wp2_with fail
    go_ret3
    exact ⟨rfl, Up.refl _⟩
  have M := Lib.hid (fun h => miss_split hb h)
  rw [hb] at R
  clear hb
  have E1 := Lib.hid (strOf_to l)
  have E2 := Lib.hid (strOf_from l)
  have G := Lib.hid (strOf_get l)
  have hsz : (strOf l).size = l.length := rfl
  have R1 := Lib.hid (fun W k => refRight_any W (l.take k))
  have R2 := Lib.hid (fun W k => refRight_any W (l.drop (k + 1)))
  have H := Lib.hid (fun k h1 h2 h3 => hit_split (l := l) (k := k) h1 h2 h3)
  have HI := Lib.hid (hit_iff l)
  have AT := Lib.hid (fun k h h2 => at_of (l := l) (k := k) h h2)
  generalize hs : strOf l = s at *
  have Hs := Lib.hid hs
  clear hs
  go_enter Try.func11, Try.ntmps11
  go_wp2_with fail
  refine (R.out _).mono ?_
  rintro e w1 ⟨rfl, rfl⟩
  go_wp2_with fail
  go_loop [5] (fun i => ∃ k : Nat, k ≤ l.length ∧ i = .int .i64 k ∧ ∀ j, j < k → hitB l j = false) (fun i => l.length - (intOf i).toNat)
  case atStart => exact ⟨0, Nat.zero_le _, rfl, fun j hj => by omega⟩
  case round =>
    obtain ⟨k, hk, rfl, hno⟩ := hrel
    have Hno := Lib.hid hno
    clear hno
    by_cases hlt : k < l.length
    · have hg := G.out k (by omega) hlt
      have hi := Lib.hid (HI.out k hlt)
      have hat := Lib.hid (AT.out k hlt)
      have hst := Lib.hid (fun h => no_step Hno.out h)
      have hh := Lib.hid (H.out k)
      have r1 := Lib.hid (fun W => R1.out W k)
      have r2 := Lib.hid (fun W => R2.out W k)
      have e1 := E1.out k
      have e2 := E2.out (k + 1)
      rw [hsz] at e2
      generalize l[k] = c at *
      generalize l.take k = x at *
      generalize l.drop (k + 1) = y at *
      have V : splitV (some (x, y)) = .tuple #[.string (strOf x), .string (strOf y), .int .i64 0] := rfl
      generalize nameB x = bx at *
      generalize nameB y = by' at *
      generalize strOf x = sx at *
      generalize strOf y = sy at *
      have b2 : ((k : Int) < (l.length : Int)) = True := by simp; omega
      have h1 : ((k : Int) ≤ (l.length : Int)) = True := by simp; omega
      have h2 : IntKind.i64.wrap ((k : Int) + 1) = (k : Int) + 1 := wrap_i64_nat (k + 1) (by omega)
      have h3 : ((k : Int) + 1 ≤ (l.length : Int)) = True := by simp; omega
      have h3b : (0 ≤ (k : Int) + 1) = True := by simp; omega
      have h4 : ((k : Int) + 1).toNat = k + 1 := by omega
      by_cases hc : c.toNat = 64
      case neg =>
        have hc1 : ((c.toNat : Int) == 64) = false := by simp; omega
        have hf : hitB l k = false := by rw [hi.out]; simp [hc]
        have Hf := Lib.hid hf
        clear hf hc e1 e2 V
        go_wp2_with fail
        go_round
        case rel => exact ⟨k + 1, by omega, by simp, hst.out Hf.out⟩
        case measure => simp [intOf]; omega
      have hc1 : ((c.toNat : Int) == 64) = true := by simp; omega
      have At := Lib.hid (hat.out hc)
      clear hat
      cases bx
      case false =>
        have hf : hitB l k = false := by rw [hi.out]; simp
        have Hf := Lib.hid hf
        clear hf hc e2 V
        go_wp2_with fail
        refine (r1.out _).mono ?_
        rintro e w1 ⟨rfl, rfl⟩
        go_wp2_with fail
        go_round
        case rel => exact ⟨k + 1, by omega, by simp, hst.out Hf.out⟩
        case measure => simp [intOf]; omega
      cases by'
      case false =>
        have hf : hitB l k = false := by rw [hi.out]; simp
        have Hf := Lib.hid hf
        clear hf hc V
        go_wp2_with fail
        refine (r1.out _).mono ?_
        rintro e w1 ⟨rfl, rfl⟩
        go_wp2_with fail
        refine (r2.out _).mono ?_
        rintro e w1 ⟨rfl, rfl⟩
        go_wp2_with fail
        go_round
        case rel => exact ⟨k + 1, by omega, by simp, hst.out Hf.out⟩
        case measure => simp [intOf]; omega
      have hres := hh.out At.out rfl rfl
      have HRes := Lib.hid hres
      have HV := Lib.hid V
      clear hres V hc
      go_wp2_with fail
      refine (r1.out _).mono ?_
      rintro e w1 ⟨rfl, rfl⟩
      go_wp2_with fail
      refine (r2.out _).mono ?_
      rintro e w1 ⟨rfl, rfl⟩
      go_wp2_with fail
      go_quiet (fail)
      go_wp2_with fail
      go_ret3
      exact ⟨by rw [HRes.out, HV.out] <;> rfl, (Up.refl _).drewN _⟩
    · obtain rfl : k = l.length := by omega
      have b2 : ((l.length : Int) < (l.length : Int)) = False := by simp
      go_wp2_with fail
      go_ret3
      exact ⟨by rw [M.out Hno.out] <;> rfl, Up.refl _⟩
end Go.Proofs.Ytoobilnebodekaa
