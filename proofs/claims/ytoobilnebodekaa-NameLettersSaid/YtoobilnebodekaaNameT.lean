/- NameLetters. -/
import Derived.Test.YtoobilnebodekaaNameM
import Derived.Laws.IdiomStrings
set_option linter.unusedSimpArgs false
namespace Go.Proofs.Ytoobilnebodekaa
open Go.RowKit

theorem frozen_row (w : World) (cs : Array Value) (t : TypeId) (fr : Nat × Nat) (i : Nat) (h : i < fr.1) : (w.alloc (.cells cs t fr)).frozen? ⟨w.heap.size, i, none⟩ = false := by
  have hh : (w.alloc (.cells cs t fr)).heap[w.heap.size]? = some (.cells cs t fr) := by
    show (w.heap.push _)[w.heap.size]? = _
    simp
  unfold World.frozen?
  rw [hh]
  simp
  omega
theorem cell_row (w : World) (cs : Array Value) (t : TypeId) (fr : Nat × Nat) (i : Nat) (v : Value) (h : cs[i]? = some v) : (w.alloc (.cells cs t fr)).cell? ⟨w.heap.size, i, none⟩ = some v := by
  have hh : (w.alloc (.cells cs t fr)).heap[w.heap.size]? = some (.cells cs t fr) := by
    show (w.heap.push _)[w.heap.size]? = _
    simp
  unfold World.cell?
  rw [hh]
  exact h
theorem bytesRow_get (l : List UInt8) (cap i : Nat) (h : i < l.length) : (bytesRow (strOf l) cap)[i]? = some (byteCell l[i]) := by
  unfold bytesRow
  rw [Array.getElem?_append_left (by simpa [strOf] using h)]
  simp [strOf, byteCell, h]

def okN (n : Nat) : Bool := (decide (97 ≤ n) && decide (n ≤ 122)) || (decide (48 ≤ n) && decide (n ≤ 57)) || decide (n = 45) || decide (n = 95)
theorem letter_cases (n : Nat) : ∃ p1 p2 p3 p4 p5 p6 : Bool, decide ((97 : Int) ≤ (n : Int)) = p1 ∧ decide ((n : Int) ≤ 122) = p2 ∧ decide ((48 : Int) ≤ (n : Int)) = p3 ∧ decide ((n : Int) ≤ 57) = p4 ∧ ((n : Int) == 45) = p5 ∧ ((n : Int) == 95) = p6 ∧ okN n = ((p1 && p2) || (p3 && p4) || p5 || p6) ∧
    ((p1, p2, p3, p4, p5, p6) = (true, true, true, false, false, false) ∨ (p1, p2, p3, p4, p5, p6) = (false, true, true, true, false, false) ∨ (p1, p2, p3, p4, p5, p6) = (false, true, false, true, true, false) ∨ (p1, p2, p3, p4, p5, p6) = (false, true, true, false, false, true) ∨
     (p1, p2, p3, p4, p5, p6) = (false, true, false, true, false, false) ∨ (p1, p2, p3, p4, p5, p6) = (false, true, true, false, false, false) ∨ (p1, p2, p3, p4, p5, p6) = (true, false, true, false, false, false)) := by
  refine ⟨decide (97 ≤ n), decide (n ≤ 122), decide (48 ≤ n), decide (n ≤ 57), decide (n = 45), decide (n = 95), ?_, ?_, ?_, ?_, ?_, ?_, rfl, ?_⟩
  · exact decide_eq_decide.2 (by omega)
  · exact decide_eq_decide.2 (by omega)
  · exact decide_eq_decide.2 (by omega)
  · exact decide_eq_decide.2 (by omega)
  · rw [Bool.eq_iff_iff]; simp; omega
  · rw [Bool.eq_iff_iff]; simp; omega
  · simp only [Prod.mk.injEq, decide_eq_true_eq, decide_eq_false_iff_not]
    omega
theorem okB_ofNat (n : Nat) (h : n < 256) : okB (UInt8.ofNat n) = okN n := by
  unfold okB okN
  have : (UInt8.ofNat n).toNat = n := by simp; omega
  rw [this]

theorem name_set {l : List UInt8} (h : nameB l = true) (k : Nat) (hk : k < l.length) (c : UInt8) : nameB (l.set k c) = okB c := by
  have hn := (nameB_iff l).1 h
  cases hc : okB c
  · exact not_name (k := k) (by simpa using hk) (by simpa using hc)
  · rw [nameB_iff]
    refine ⟨by simpa using hn.1, by simpa using hn.2.1, fun x hx => ?_⟩
    rcases List.mem_or_eq_of_mem_set hx with hx | rfl
    · exact hn.2.2 x hx
    · exact hc
theorem name_more {l : List UInt8} (h : nameB l = true) : nameB (l ++ [97]) = decide (l.length < 24) := by
  have hn := (nameB_iff l).1 h
  rw [Bool.eq_iff_iff, nameB_iff]
  simp only [List.length_append, List.length_singleton, decide_eq_true_eq]
  constructor
  · intro hh; omega
  · intro hh
    refine ⟨by omega, by omega, fun c hc => ?_⟩
    rcases List.mem_append.1 hc with hc | hc
    · exact hn.2.2 c hc
    · simp at hc; subst hc; decide
theorem name_at (l : List UInt8) : nameB (l ++ [64]) = false := not_name (k := l.length) (by simp) (by simpa using at_not_ok)
theorem strOf_app1 (l : List UInt8) (c : UInt8) : (strOf l ++ (⟨#[c]⟩ : ByteArray)) = strOf (l ++ [c]) := by
  apply ByteArray.ext
  simp [strOf, ByteArray.data_append]

/-- '[]byte(s)', and one byte written over: what the world is, and what it reads as. -/
theorem conv_set (l : List UInt8) (k n : Nat) (hk : k < l.length) (hn : n < 256) (hl : l.length ≤ 24) : ∃ (wc : World → World) (cp : World → Nat),
    (∀ W, (convert 9 34 (.string (strOf l))).run Try.prog W = .ok (.slice (some ⟨W.heap.size, 0, none⟩) l.length (cp W)) (wc W)) ∧
    (∀ W, (wc W).cell? ⟨W.heap.size, k, none⟩ = some (byteCell l[k])) ∧ (∀ W, (wc W).frozen? ⟨W.heap.size, k, none⟩ = false) ∧ (∀ W, Up W (wc W)) ∧
    (∀ W, (convert 34 9 (.slice (some ⟨W.heap.size, 0, none⟩) l.length (cp W))).run Try.prog ((wc W).setCell ⟨W.heap.size, k, none⟩ (.int .u8 (n : Int))) = .ok (.string (strOf (l.set k (UInt8.ofNat n)))) ((wc W).setCell ⟨W.heap.size, k, none⟩ (.int .u8 (n : Int)))) := by
  refine ⟨fun W => W.drew.alloc (.cells (bytesRow (strOf l) (grownCap W (strOf l).size 0 5)) 5 ((bytesRow (strOf l) (grownCap W (strOf l).size 0 5)).size, (bytesRow (strOf l) (grownCap W (strOf l).size 0 5)).size + 1)), fun W => grownCap W (strOf l).size 0 5, ?_, ?_, ?_, ?_, ?_⟩
  · intro W
    exact run_bytes_of_string W 9 34 5 (strOf l) Try.underlying9 Try.underlying34 Try.underlying5
  · intro W
    exact cell_row W.drew _ _ _ k _ (bytesRow_get l _ k hk)
  · intro W
    refine frozen_row W.drew _ _ _ k ?_
    simp [bytesRow, strOf]
    omega
  · intro W
    exact (Up.refl W).drew.alloc _
  · intro W
    have hsz : (strOf l).size = l.length := rfl
    have hge := grownCap_ge W l.length 0 5
    have hle := grownCap_le_maxLen W l.length 0 5 (by unfold maxLen; omega)
    have hlen : (l.set k (UInt8.ofNat n)).length = l.length := by simp
    refine run_string_of_bytes 34 5 Try.underlying34 Try.underlying5 9 Try.underlying9 _ _ _ ?_
    refine .inr ⟨W.heap.size, 0, _, by rw [hlen], by omega, by rw [hlen, hsz]; exact hge, by rw [hsz]; exact hle, fun i hi => ?_⟩
    rw [hlen] at hi
    rw [Nat.zero_add]
    by_cases e : i = k
    · subst e
      have hc := cell_row W.drew (bytesRow (strOf l) (grownCap W (strOf l).size 0 5)) 5 ((bytesRow (strOf l) (grownCap W (strOf l).size 0 5)).size, (bytesRow (strOf l) (grownCap W (strOf l).size 0 5)).size + 1) i _ (bytesRow_get l _ i hk)
      refine (World.cell?_setCell_same _ _ _ hc).trans ?_
      rw [List.getElem_set_self]
      unfold byteCell
      rw [show (UInt8.ofNat n).toNat = n from by simp; omega]
    · rw [World.cell?_setCell_other _ _ _ _ (by intro h; simp at h; try omega)]
      rw [List.getElem_set_ne (fun h => e h.symm)]
      exact cell_row W.drew _ _ _ i _ (bytesRow_get l _ i hi)

set_option maxHeartbeats 8000000 in
theorem nameLetters_walk (w : World) (l : List UInt8) (_hl : l.length ≤ 9223372036854775807) (i : Int) (_hi : -9223372036854775808 ≤ i ∧ i ≤ 9223372036854775807) (n : Nat) (hn : n < 256) :
    Calls Try.prog 8 #[.string (strOf l), .int .i64 i, .int .u8 (n : Int)] w fun e w' => e = .returned (.bool true) ∧ Up w w' := by
  have R1 := Lib.hid (fun W => right_any W l)
  cases hb : nameB l
  · rw [hb] at R1
    clear hb
    generalize strOf l = s at *
    go_enter Try.func8, Try.ntmps8
    go_wp2_with fail
    refine (alive_any _).mono ?_
    rintro e w1 ⟨rfl, up1⟩
    go_wp2_with fail
    refine (R1.out _).mono ?_
    rintro e w2 ⟨rfl, up2⟩
    go_wp2_with fail
    go_ret
    exact ⟨rfl, up1.trans up2⟩
  rw [hb] at R1
  have hsz : (strOf l).size = l.length := rfl
  by_cases hi : 0 ≤ i ∧ i < l.length
  case neg =>
    clear hb
    by_cases h0 : i < 0
    · have t1 : decide (i < 0) = true := by simpa using h0
      clear hi h0
      generalize strOf l = s at *
      go_enter Try.func8, Try.ntmps8
      go_wp2_with fail
      refine (alive_any _).mono ?_
      rintro e w1 ⟨rfl, up1⟩
      go_wp2_with fail
      refine (R1.out _).mono ?_
      rintro e w2 ⟨rfl, up2⟩
      go_wp2_with fail
      go_ret
      exact ⟨rfl, up1.trans up2⟩
    · have t1 : decide (i < 0) = false := by simpa using h0
      have t2 : decide ((l.length : Int) ≤ i) = true := by simp; omega
      clear hi h0
      generalize strOf l = s at *
      go_enter Try.func8, Try.ntmps8
      go_wp2_with fail
      refine (alive_any _).mono ?_
      rintro e w1 ⟨rfl, up1⟩
      go_wp2_with fail
      refine (R1.out _).mono ?_
      rintro e w2 ⟨rfl, up2⟩
      go_wp2_with fail
      go_ret
      exact ⟨rfl, up1.trans up2⟩
  obtain ⟨k, rfl⟩ : ∃ k : Nat, i = k := ⟨i.toNat, by omega⟩
  have hk : k < l.length := by omega
  have hlen := (nameB_iff l).1 hb
  have l24 : l.length ≤ 24 := hlen.2.1
  clear hlen hi
  have R2 := Lib.hid (fun W => right_any W (l.set k (UInt8.ofNat n)))
  rw [name_set hb k hk, okB_ofNat n hn] at R2
  have R3 := Lib.hid (fun W => right_any W (l ++ [97]))
  rw [name_more hb] at R3
  have R4 := Lib.hid (fun W => right_any W (l ++ [64]))
  rw [name_at] at R4
  clear hb
  have z1 : ∀ W, (Op.stringOp .add (strOf l) ⟨#[97]⟩).run Try.prog W = .ok (.string (strOf (l ++ [97]))) W := fun W => by
    rw [← strOf_app1]; exact run_string_add_sum W _ ⟨#[97]⟩ (by show (strOf l).size + 1 ≤ _; omega)
  have z2 : ∀ W, (Op.stringOp .add (strOf l) ⟨#[64]⟩).run Try.prog W = .ok (.string (strOf (l ++ [64]))) W := fun W => by
    rw [← strOf_app1]; exact run_string_add_sum W _ ⟨#[64]⟩ (by show (strOf l).size + 1 ≤ _; omega)
  obtain ⟨wc, cp, c1, c2, c3, c4, c5⟩ := conv_set l k n hk hn l24
  have C4 := Lib.hid c4
  clear c4
  have t1 : decide ((k : Int) < 0) = false := by simp
  have t2 : decide ((l.length : Int) ≤ (k : Int)) = false := by simp; omega
  have t3 : ((k : Int) < (l.length : Int)) = True := by simp; omega
  have t4 : decide ((l.length : Int) < 24) = decide (l.length < 24) := decide_eq_decide.2 (by omega)
  have t5 : (decide (l.length < 24) == decide (l.length < 24)) = true := by simp
  generalize decide (l.length < 24) = b24 at *
  obtain ⟨p1, p2, p3, p4, p5, p6, e1, e2, e3, e4, e5, e6, ho, hc⟩ := letter_cases n
  rw [ho] at R2
  clear ho
  have HL := Lib.hid l24
  have HN := Lib.hid hn
  clear l24 hn
  generalize hs : strOf l = s at *
  generalize strOf (l ++ [97]) = s97 at *
  generalize strOf (l ++ [64]) = s64 at *
  generalize ht : strOf (l.set k (UInt8.ofNat n)) = t at *
  have HS := Lib.hid hs
  have HT := Lib.hid ht
  clear hs ht
  go_enter Try.func8, Try.ntmps8
  go_wp2_with fail
  refine (alive_any _).mono ?_
  rintro e w1 ⟨rfl, up1⟩
  go_wp2_with fail
  refine (R1.out _).mono ?_
  rintro e w2 ⟨rfl, up2⟩
  have upw := Lib.hid (up1.trans up2)
  clear up1 up2
  rcases hc with h | h | h | h | h | h | h
  all_goals
    simp only [Prod.mk.injEq] at h
    obtain ⟨rfl, rfl, rfl, rfl, rfl, rfl⟩ := h
    simp only [Bool.and_true, Bool.and_false, Bool.or_false, Bool.or_true, Bool.false_and, Bool.true_and, Bool.false_or, Bool.true_or, Bool.and_self, Bool.or_self] at R2
    go_wp2_with fail
    refine (R2.out _).mono ?_
    rintro e w4 ⟨rfl, up4⟩
    have upw4 := Lib.hid (((upw.out.trans (C4.out w2)).setCell upw.out.size (.int .u8 (n : Int))).trans up4)
    clear up4
    go_wp2_with fail
    refine (R3.out _).mono ?_
    rintro e w5 ⟨rfl, up5⟩
    go_wp2_with fail
    refine (R4.out _).mono ?_
    rintro e w6 ⟨rfl, up6⟩
    go_wp2_with fail
    go_ret
    exact ⟨rfl, upw4.out.trans (up5.trans up6)⟩
end Go.Proofs.Ytoobilnebodekaa
