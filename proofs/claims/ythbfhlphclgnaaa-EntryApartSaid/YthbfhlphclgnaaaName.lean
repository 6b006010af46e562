/- Names: plain functions; the walks of Right of both sides. -/
import Derived.Test.YthbfhlphclgnaaaLaws
import Derived.Laws.RangeString
import Derived.Laws.RangeAny
set_option linter.unusedSimpArgs false
namespace Go.Proofs.Ythbfhlphclgnaaa
open Go.RowKit

def okB (c : UInt8) : Bool := (decide (97 ≤ c.toNat) && decide (c.toNat ≤ 122)) || (decide (48 ≤ c.toNat) && decide (c.toNat ≤ 57)) || decide (c.toNat = 45) || decide (c.toNat = 95)
def nameB (l : List UInt8) : Bool := decide (1 ≤ l.length) && decide (l.length ≤ 24) && l.all okB

theorem okB_iff (c : UInt8) : okB c = true ↔ (97 ≤ c.toNat ∧ c.toNat ≤ 122) ∨ (48 ≤ c.toNat ∧ c.toNat ≤ 57) ∨ c.toNat = 45 ∨ c.toNat = 95 := by
  simp [okB, or_assoc]
theorem nameB_iff (l : List UInt8) : nameB l = true ↔ 1 ≤ l.length ∧ l.length ≤ 24 ∧ ∀ c ∈ l, okB c = true := by
  simp [nameB, and_assoc]
theorem retB {x b : Bool} (h : x = true ↔ b = true) : Ending.returned (.bool x) = .returned (.bool b) := by rw [Bool.eq_iff_iff.2 h]
theorem strOf_get (l : List UInt8) (i : Nat) (h : i < (strOf l).size) (h' : i < l.length) : (strOf l)[i]'h = l[i] := rfl

theorem all_step {l : List UInt8} {k : Nat} (hk : k < l.length) (h : ∀ c ∈ l.take k, okB c = true) (hc : okB l[k] = true) : ∀ c ∈ l.take (k + 1), okB c = true := by
  rw [List.take_succ_eq_append_getElem hk]
  intro c hm
  rcases List.mem_append.1 hm with hm | hm
  · exact h c hm
  · simp at hm; subst hm; exact hc
theorem not_name {l : List UInt8} {k : Nat} (hk : k < l.length) (hc : okB l[k] = false) : nameB l = false := by
  rw [← Bool.not_eq_true, nameB_iff]
  rintro ⟨_, _, h⟩
  rw [h _ (List.getElem_mem hk)] at hc
  cases hc

set_option maxHeartbeats 1000000 in
theorem nrefRight_any (w : World) (l : List UInt8) :
    Calls Try.prog 43 #[.string (strOf l)] w fun e w' => e = .returned (.bool (nameB l)) ∧ w = w' := by
  have hsz : (strOf l).size = l.length := rfl
  have G := Lib.hid (strOf_get l)
  generalize strOf l = s at *
  by_cases hn : 1 ≤ l.length ∧ l.length ≤ 24
  case neg =>
    have hb : nameB l = false := by
      rw [← Bool.not_eq_true, nameB_iff]
      omega
    rw [hb]
    clear hb G
    generalize l.length = n at *
    by_cases h1 : n < 1
    · obtain rfl : n = 0 := by omega
      go_enter Try.func43, Try.ntmps43
      go_wp2_with fail
      go_ret
      exact ⟨rfl, rfl⟩
    · have h2 : decide ((n : Int) < 1) = false := by simp; omega
      have h3 : decide ((24 : Int) < (n : Int)) = true := by simp; omega
      clear h1 hn
      go_enter Try.func43, Try.ntmps43
      go_wp2_with fail
      go_ret
      exact ⟨rfl, rfl⟩
  have h2 : decide ((l.length : Int) < 1) = false := by simp; omega
  have h3 : decide ((24 : Int) < (l.length : Int)) = false := by simp; omega
  have Hn := Lib.hid hn
  clear hn
  go_enter Try.func43, Try.ntmps43
  go_wp2_with fail
  clear h2 h3
  go_loop [3] (fun i => ∃ k : Nat, k ≤ l.length ∧ i = .int .i64 k ∧ ∀ c ∈ l.take k, okB c = true) (fun i => l.length - (intOf i).toNat)
  case atStart => exact ⟨0, Nat.zero_le _, rfl, by simp⟩
  case round =>
    obtain ⟨k, hk, rfl, hall⟩ := hrel
    have Hall := Lib.hid hall
    clear hall
    by_cases hlt : k < l.length
    · have hg := G.out k (by omega) hlt
      have Hok := Lib.hid (okB_iff l[k])
      have Hnn := Lib.hid (fun h => not_name hlt h)
      have Hst := Lib.hid (fun h => all_step hlt Hall.out h)
      generalize l[k] = c at *
      have hc := c.toNat_lt
      have b1 : k < 24 := by have := Hn.out; omega
      have b2 : ((k : Int) < (l.length : Int)) = True := by simp; omega
      go_wp2_with fail
      all_goals
        clear b2
        try simp only [Bool.not_eq_false', Bool.not_eq_true', decide_eq_true_eq, decide_eq_false_iff_not, beq_iff_eq, beq_eq_false_iff_ne, Bool.not_eq_eq_eq_not, Bool.not_true, Bool.not_false, ne_eq] at *
        first
          | (go_round
             case rel => exact ⟨k + 1, by omega, by simp, Hst.out (Hok.out.2 (by omega))⟩
             case measure => simp [intOf]; omega)
          | (go_ret
             exact ⟨by rw [Hnn.out (by rw [← Bool.not_eq_true, Hok.out]; omega)] <;> rfl, rfl⟩)
    · obtain rfl : k = l.length := by omega
      have hb : nameB l = true := by
        rw [nameB_iff]
        have := Hn.out
        have := Hall.out
        rw [List.take_length] at this
        exact ⟨by omega, by omega, this⟩
      have b2 : ((l.length : Int) < (l.length : Int)) = False := by simp
      go_wp2_with fail
      go_ret
      exact ⟨by first | rfl | (rw [hb]; rfl), rfl⟩

theorem size_str {l : List UInt8} {s : ByteArray} (h : s.data.toList = l) : s.size = l.length := by rw [← h]; rfl
theorem width_pos (s : ByteArray) (pos : Nat) (h : pos < s.size) : 1 ≤ (Utf8.decode s pos).2 := by
  by_cases ha : (s[pos]'h).toNat < 128
  · rw [decode_ascii s pos h ha]
    exact Nat.le_refl _
  · exact (decode_high s pos h (by omega)).2
/-- A rune that may be in a name is a byte that may be in one. -/
theorem rune_ok (s : ByteArray) (pos : Nat) (h : pos < s.size) :
    ((97 ≤ (Utf8.decode s pos).1 ∧ (Utf8.decode s pos).1 ≤ 122) ∨ (48 ≤ (Utf8.decode s pos).1 ∧ (Utf8.decode s pos).1 ≤ 57) ∨ (Utf8.decode s pos).1 = 45 ∨ (Utf8.decode s pos).1 = 95 → okB (s[pos]'h) = true ∧ (Utf8.decode s pos).2 = 1) ∧
    (¬ ((97 ≤ (Utf8.decode s pos).1 ∧ (Utf8.decode s pos).1 ≤ 122) ∨ (48 ≤ (Utf8.decode s pos).1 ∧ (Utf8.decode s pos).1 ≤ 57) ∨ (Utf8.decode s pos).1 = 45 ∨ (Utf8.decode s pos).1 = 95) → okB (s[pos]'h) = false) := by
  by_cases ha : (s[pos]'h).toNat < 128
  · rw [decode_ascii s pos h ha]
    simp only
    refine ⟨fun hh => ⟨(okB_iff _).2 hh, trivial⟩, fun hh => ?_⟩
    rw [← Bool.not_eq_true, okB_iff]
    exact hh
  · have hd := (decode_high s pos h (by omega)).1
    refine ⟨fun hh => by omega, fun _ => ?_⟩
    rw [← Bool.not_eq_true, okB_iff]
    omega

set_option maxHeartbeats 2000000 in
theorem nright_any (w : World) (l : List UInt8) :
    Calls Try.prog 39 #[.string (strOf l)] w fun e w' => e = .returned (.bool (nameB l)) ∧ Up w w' := by
  have hsz : (strOf l).size = l.length := rfl
  have R := Lib.hid (fun i h => rune_ok (strOf l) i h)
  have Wd := Lib.hid (fun i h => width_pos (strOf l) i h)
  have G := Lib.hid (strOf_get l)
  generalize strOf l = s at *
  by_cases hn : 1 ≤ l.length ∧ l.length ≤ 24
  case neg =>
    have hb : nameB l = false := by
      rw [← Bool.not_eq_true, nameB_iff]
      omega
    rw [hb]
    clear hb G R Wd
    generalize l.length = n at *
    by_cases h1 : n < 1
    · obtain rfl : n = 0 := by omega
      go_enter Try.func39, Try.ntmps39
      go_wp2_with fail
      go_ret
      exact ⟨rfl, Up.refl _⟩
    · have h2 : decide ((n : Int) < 1) = false := by simp; omega
      have h3 : decide ((24 : Int) < (n : Int)) = true := by simp; omega
      clear h1 hn
      go_enter Try.func39, Try.ntmps39
      go_wp2_with fail
      go_ret
      exact ⟨rfl, Up.refl _⟩
  have h2 : decide ((l.length : Int) < 1) = false := by simp; omega
  have h3 : decide ((24 : Int) < (l.length : Int)) = false := by simp; omega
  have Hn := Lib.hid hn
  clear hn
  go_enter Try.func39, Try.ntmps39
  go_wp2_with fail
  clear h2 h3
  go_loopw [4] (fun _ w' => ∃ pos : Nat, pos ≤ l.length ∧ w' = w.iter s pos ∧ ∀ c ∈ l.take pos, okB c = true) (fun _ w' => s.size - w'.iterPos w.heap.size)
  case atStart => exact ⟨0, Nat.zero_le _, rfl, by simp⟩
  case round =>
    obtain ⟨k, hk, rfl, hall⟩ := hrel
    have Hall := Lib.hid hall
    clear hall
    by_cases hlt : k < l.length
    · have hp : k < s.size := by omega
      have hnx : ∀ ty, (Instr.next (.pointer (some ⟨w.heap.size, 0, none⟩)) true ty).run Try.prog (w.iter s k) = _ := fun ty => run_next_any w s k ty hp
      have hg := G.out k hp hlt
      have Rk := R.out k hp
      rw [hg] at Rk
      have Hnn := Lib.hid (fun h => not_name hlt h)
      have Hst := Lib.hid (fun h => all_step hlt Hall.out h)
      have hwd := Wd.out k hp
      generalize Utf8.decode s k = dd at *
      obtain ⟨rn, wd⟩ := dd
      simp only at Rk hnx hwd
      have RK := Lib.hid Rk
      generalize l[k] = c at *
      clear Rk
      go_wp2_with fail
      all_goals
        try simp only [Bool.not_eq_false', Bool.not_eq_true', decide_eq_true_eq, decide_eq_false_iff_not, beq_iff_eq, beq_eq_false_iff_ne, Bool.not_eq_eq_eq_not, Bool.not_true, Bool.not_false, ne_eq] at *
        first
          | (go_roundw
             case rel =>
               obtain ⟨r1, rfl⟩ := RK.out.1 (by omega)
               exact ⟨k + 1, by omega, rfl, Hst.out r1⟩
             case measure => simp; omega)
          | (go_ret
             exact ⟨by rw [Hnn.out (RK.out.2 (by omega))] <;> rfl, up_alloc _ _⟩)
    · have hnx : ∀ ty, (Instr.next (.pointer (some ⟨w.heap.size, 0, none⟩)) true ty).run Try.prog (w.iter s k) = _ := fun ty => run_next_end w s k ty (by omega)
      obtain rfl : k = l.length := by omega
      have hb : nameB l = true := by
        rw [nameB_iff]
        have := Hn.out
        have := Hall.out
        rw [List.take_length] at this
        exact ⟨by omega, by omega, this⟩
      go_wp2_with fail
      go_ret
      exact ⟨by first | rfl | (rw [hb]; rfl), up_alloc _ _⟩
end Go.Proofs.Ythbfhlphclgnaaa
