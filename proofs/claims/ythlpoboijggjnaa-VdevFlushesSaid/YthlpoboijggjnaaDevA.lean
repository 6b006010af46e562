/- The chapter's example. -/
import Derived.Test.YthlpoboijggjnaaDevN
set_option linter.unusedSimpArgs false
set_option linter.unusedVariables false
namespace Go.Proofs.Ythlpoboijggjnaa
open Go.RowKit

/-- A device of the call's own. -/
structure DevAt (w w' : World) (h : Hnd) (v : DevD) : Prop where
  dv : Dv w' h v
  up : Up w w'
  own : ∀ b, Foot h b → w.heap.size ≤ b
theorem DevAt.turn {w w1 w2 : World} {h : Hnd} {v v' : DevD} (A : DevAt w w1 h v) (T : Turned w1 h v' w2) : ∃ vp, DevAt w w2 { h with vp := vp } v' ∧ Touch (Foot h) w1 w2 := by
  obtain ⟨vp, D, T, O⟩ := T
  refine ⟨vp, ⟨D, T.up A.up A.own, fun b hb => ?_⟩, T⟩
  rcases Turned.foot (w' := w2) O b hb with h1 | h1
  · exact A.own b h1
  · exact Nat.le_trans A.up.size h1
theorem DevAt.touch {w w1 w2 : World} {h : Hnd} {v v' : DevD} (A : DevAt w w1 h v) (D : Dv w2 h v') (T : Touch (Foot h) w1 w2) : DevAt w w2 h v' := ⟨D, T.up A.up A.own, A.own⟩
theorem DevAt.upTo {w w1 w2 : World} {h : Hnd} {v : DevD} (A : DevAt w w1 h v) (U : Up w1 w2) : DevAt w w2 h v := ⟨A.dv.up U, A.up.trans U, A.own⟩
theorem IsOnes.touch {α : Type} {f : α → Value} {w w' : World} {v : Value} {l : List α} {F : Nat → Prop} (h : IsOnes f w v l) (T : Touch F w w') (hF : ∀ b, v.ownBlock = some b → ¬ F b) : IsOnes f w' v l := by
  rcases h with h | ⟨b, off, cap, h1, h2, h3, h4, h5⟩
  · exact .inl h
  · exact .inr ⟨b, off, cap, h1, h2, h3, h4, fun i hi => cell_touch (h5 i hi) T (hF b (by rw [h1]; rfl))⟩
section
variable {P : Program}
theorem wpList_build1 {ops : Array Oper} {rest : List Oper} {o : Oper} {a : Act} {w : World} {Q : Exit → Act → World → Prop} (hw : Region.wanted o (yielded ops a.tmps) = true) (t : TypeId) (i : Nat) (x : Operand) (ho : o.op = .build t #[(i, x)]) (v : Value) (hx : a.eval x = v) (C : Array Value) (hb : P.built t [(i, v)] = some C)
    (h : wpList P ops Q rest (a.put o.dst (.agg C)) w) : wpList P ops Q (o :: rest) a w :=
  BigFrame.wpList_want hw fun _ hK => wp_build t #[(i, x)] ho (by simp [hx, hb]) (hK _ _ (by simpa [hx, hb] using h))
end
def a1 : Sec := ⟨1 :: List.replicate 127 0, by kernel_rfl⟩
def a2 : Sec := ⟨2 :: List.replicate 127 0, by kernel_rfl⟩
theorem built_a1 : Try.prog.built 29 [(0, .int .u8 1)] = some (secC a1.val) := by kernel_rfl
theorem built_a2 : Try.prog.built 29 [(0, .int .u8 2)] = some (secC a2.val) := by kernel_rfl
def e0 : DevD := newD (clampN 4)
def e1 : DevD := e0.written 0 a1
def e2 : DevD := e1.written 1 a2
def e3 : DevD := e2.counted
def e4 : DevD := e3.crashed [false, true]
theorem e_facts : e0.writeE 0 = 0 ∧ e1.writeE 1 = 0 ∧ e2.pend.length = 2 ∧ e2.readE 0 = 0 ∧ e2.readS 0 = a1 ∧ e4.stableAt 0 = zSec ∧ e4.stableAt 1 = a2 ∧ e4.pend.length = 0 ∧ e4.ops = 3 ∧ e0.pend.length = 0 ∧ e1.pend.length = 1 ∧ e3.pend.length = 2 := by
  refine ⟨?_, ?_, ?_, ?_, ?_, ?_, ?_, ?_, ?_, ?_, ?_, ?_⟩ <;> kernel_rfl

set_option maxRecDepth 100000 in
set_option maxHeartbeats 8000000 in
theorem alive_any (w : World) : Calls Try.prog 8 #[] w fun e w' => e = .returned (.bool true) ∧ Up w w' := by
  obtain ⟨f0, f1, f2, f3, f4, f5, f6, f7, f8, f9, f10, f11⟩ := e_facts
  have NW := Lib.hid (dnew_any w 4 (by omega))
  have W0 := Lib.hid (show ∀ W h, Dv W h e0 → Calls Try.prog 11 #[.pointer (some ⟨h.d, 0, none⟩), .int .i64 0, .agg (secC a1.val)] W fun e w' => e = .returned (.int .i64 0) ∧ Turned W h e1 w' from fun W h D => by
    have := dwrite_any W h e0 D 0 (by omega) a1 (by omega)
    rw [f0] at this
    exact this)
  have W1 := Lib.hid (show ∀ W h, Dv W h e1 → Calls Try.prog 11 #[.pointer (some ⟨h.d, 0, none⟩), .int .i64 1, .agg (secC a2.val)] W fun e w' => e = .returned (.int .i64 0) ∧ Turned W h e2 w' from fun W h D => by
    have := dwrite_any W h e1 D 1 (by omega) a2 (by omega)
    rw [f1] at this
    exact this)
  have P2 := Lib.hid (show ∀ W h, Dv W h e2 → Calls Try.prog 16 #[.pointer (some ⟨h.d, 0, none⟩)] W fun e w' => e = .returned (.int .i64 2) ∧ W = w' from fun W h D => by
    have := dpending_any W h e2 D
    rw [f2] at this
    exact this)
  have R2 := Lib.hid (show ∀ W h, Dv W h e2 → Calls Try.prog 12 #[.pointer (some ⟨h.d, 0, none⟩), .int .i64 0] W fun e w' => e = .returned (.tuple #[.agg (secC a1.val), .int .i64 0]) ∧ Dv w' h e3 ∧ Touch (Foot h) W w' from fun W h D => by
    have := dread_any W h e2 D 0 (by omega)
    rw [f3, f4] at this
    exact this)
  have C3 := Lib.hid (show ∀ W h, Dv W h e3 → ∀ vk, (∀ w', Touch (Foot h) W w' → IsOnes boolCell w' vk [false, true]) → Calls Try.prog 14 #[.pointer (some ⟨h.d, 0, none⟩), vk] W fun e w' => e = .returned (.tuple #[]) ∧ Turned W h e4 w' from fun W h D vk HK => dcrash_any W h e3 D (by omega) vk [false, true] HK)
  have S0 := Lib.hid (show ∀ W h, Dv W h e4 → Calls Try.prog 15 #[.pointer (some ⟨h.d, 0, none⟩), .int .i64 0] W fun e w' => e = .returned (.agg (secC zeroS)) ∧ Up W w' from fun W h D => by
    have := dstable_any W h e4 D 0 (by omega)
    rw [f5] at this
    exact this)
  have S1 := Lib.hid (show ∀ W h, Dv W h e4 → Calls Try.prog 15 #[.pointer (some ⟨h.d, 0, none⟩), .int .i64 1] W fun e w' => e = .returned (.agg (secC a2.val)) ∧ Up W w' from fun W h D => by
    have := dstable_any W h e4 D 1 (by omega)
    rw [f6] at this
    exact this)
  have P4 := Lib.hid (show ∀ W h, Dv W h e4 → Calls Try.prog 16 #[.pointer (some ⟨h.d, 0, none⟩)] W fun e w' => e = .returned (.int .i64 0) ∧ W = w' from fun W h D => by
    have := dpending_any W h e4 D
    rw [f7] at this
    exact this)
  have O4 := Lib.hid (show ∀ W h, Dv W h e4 → Calls Try.prog 20 #[.pointer (some ⟨h.d, 0, none⟩)] W fun e w' => e = .returned (.int .i64 3) ∧ W = w' from fun W h D => by
    have := dops_any W h e4 D
    rw [f8] at this
    exact this)
  have EQ1 := sec_eq a1.val a1.val a1.property a1.property
  rw [show decide (a1.val = a1.val) = true by simp] at EQ1
  have EQ0 := sec_eq zeroS zeroS rfl rfl
  rw [show decide (zeroS = zeroS) = true by simp] at EQ0
  have EQ2 := sec_eq a2.val a2.val a2.property a2.property
  rw [show decide (a2.val = a2.val) = true by simp] at EQ2
  have HS1 := Lib.hid (info_secV a1)
  have Z1 := Lib.hid (show (secC zeroS).size = (secC a1.val).size by rw [secV_size]; rfl)
  clear f0 f1 f2 f3 f4 f5 f6 f7 f8 f9 f10 f11
  go_enter Try.func8, Try.ntmps8
  go_wp2_with fail
  refine NW.out.mono ?_
  rintro e w1 ⟨h, rfl, D1, U1, O1⟩
  have A1 := Lib.hid (show DevAt w w1 h e0 from ⟨D1, U1, O1⟩)
  clear D1 U1 O1 NW
  go_wp2_with (refine wpList_build1 rfl 29 0 (.const (.int .u8 1)) rfl _ rfl (secC a1.val) built_a1 ?_)
  refine (W0.out _ _ A1.out.dv).mono ?_
  rintro e w2 ⟨rfl, T2⟩
  obtain ⟨vp2, A2, _⟩ := A1.out.turn T2
  have A2 := Lib.hid A2
  clear T2 A1
  go_wp2_with (refine wpList_build1 rfl 29 0 (.const (.int .u8 2)) rfl _ rfl (secC a2.val) built_a2 ?_)
  refine (W1.out _ _ A2.out.dv).mono ?_
  rintro e w3 ⟨rfl, T3⟩
  obtain ⟨vp3, A3, _⟩ := A2.out.turn T3
  have A3 := Lib.hid A3
  clear T3 A2
  go_wp2_with fail
  refine (P2.out _ _ A3.out.dv).mono ?_
  rintro e w3' ⟨rfl, rfl⟩
  go_wp2_with fail
  refine (R2.out _ _ A3.out.dv).mono ?_
  rintro e w4 ⟨rfl, D4, T4⟩
  have A4 := Lib.hid (A3.out.touch D4 T4)
  clear D4 T4 A3
  go_wp2_with (first
    | (refine wpList_alloc_blk rfl 29 rfl (secC zeroS) zero_sec ?_)
    | (refine wpList_store_new (w := w4) rfl 29 (.tmp 2) (.tmp 27) rfl w4.heap.size rfl (secC a1.val) rfl rfl 29 (secC zeroS) HS1.out Z1.out (secC_one _) ?_))
  have B5 := Lib.hid ((Blk.new w4 29 (secC a1.val)).up (up_alloc _ (.cells #[.bool false, .bool true] 4)))
  have A5 := Lib.hid (A4.out.upTo (((Up.refl w4).alloc (.cells (secC a1.val) 29)).alloc (.cells #[.bool false, .bool true] 4)))
  have N0 := Lib.hid (show ¬ Foot { h with vp := vp3 } w4.heap.size from fun hf => Nat.lt_irrefl _ (A4.out.dv.foot_lt _ hf))
  have N1 : ¬ Foot { h with vp := vp3 } (w4.heap.size + 1) := fun hf => by have := A4.out.dv.foot_lt _ hf; omega
  have K5 := IsOnes.litAt (f := boolCell) (w4.alloc (.cells (secC a1.val) 29)) (w4.heap.size + 1) (by rw [size_alloc]) #[.bool false, .bool true] 4 (0, 0) [false, true] 2 rfl (by unfold maxLen; omega) rfl
  refine (C3.out _ _ A5.out.dv _ (fun w' T => IsOnes.touch K5 T (fun b hb => by cases hb; exact N1))).mono ?_
  rintro e w6 ⟨rfl, T6⟩
  obtain ⟨vp6, A6, TT⟩ := A5.out.turn T6
  have A6 := Lib.hid A6
  have B6 := Lib.hid (B5.out.touch TT N0.out)
  clear T6 TT K5 N1 N0 A5 A4 B5
  go_wp2_with (first
    | (refine wpList_load_blkG rfl 29 (.tmp 2) rfl w4.heap.size rfl 29 _ B6.out _ Try.underlying29 rfl (info_secV a1) ?_)
    | (refine wpList_build1 rfl 29 0 (.const (.int .u8 1)) rfl _ rfl (secC a1.val) built_a1 ?_))
  refine (S0.out _ _ A6.out.dv).mono ?_
  rintro e w7 ⟨rfl, U7⟩
  have A7 := Lib.hid (A6.out.upTo U7)
  clear U7 A6 B6
  go_wp2_with (refine wpList_build0 rfl 29 rfl (secC zeroS) built_sec ?_)
  refine (S1.out _ _ A7.out.dv).mono ?_
  rintro e w8 ⟨rfl, U8⟩
  have A8 := Lib.hid (A7.out.upTo U8)
  clear U8 A7
  go_wp2_with (refine wpList_build1 rfl 29 0 (.const (.int .u8 2)) rfl _ rfl (secC a2.val) built_a2 ?_)
  refine (P4.out _ _ A8.out.dv).mono ?_
  rintro e w9 ⟨rfl, rfl⟩
  go_wp2_with fail
  refine (O4.out _ _ A8.out.dv).mono ?_
  rintro e w10 ⟨rfl, rfl⟩
  go_wp2_with fail
  go_ret
  exact ⟨rfl, A8.out.up⟩

set_option maxHeartbeats 2000000 in
theorem vdevNames_walk (w : World) : Calls Try.prog 3 #[] w fun e w' => e = .returned (.bool true) ∧ Up w w' := by
  have AL := Lib.hid (alive_any w)
  have N1 := Lib.hid (fun W => dnew_any W (-1) (by omega))
  have N2 := Lib.hid (fun W => dnew_any W 9999 (by omega))
  have L1 := Lib.hid (show ∀ W h, Dv W h (newD (clampN (-1))) → Calls Try.prog 10 #[.pointer (some ⟨h.d, 0, none⟩)] W fun e w' => e = .returned (.int .i64 0) ∧ W = w' from fun W h D => by
    have := dlen_any W h _ D
    rw [show (newD (clampN (-1))).stable.length = 0 from by kernel_rfl] at this
    exact this)
  have L2 := Lib.hid (show ∀ W h, Dv W h (newD (clampN 9999)) → Calls Try.prog 10 #[.pointer (some ⟨h.d, 0, none⟩)] W fun e w' => e = .returned (.int .i64 1024) ∧ W = w' from fun W h D => by
    have := dlen_any W h _ D
    rw [show (newD (clampN 9999)).stable.length = 1024 from List.length_replicate] at this
    exact this)
  go_enter Try.func3, Try.ntmps3
  go_wp2_with fail
  refine AL.out.mono ?_
  rintro e w1 ⟨rfl, U1⟩
  have U1 := Lib.hid U1
  go_wp2_with fail
  refine (N1.out w1).mono ?_
  rintro e w2 ⟨h, rfl, D2, U2, _⟩
  have U2 := Lib.hid (U1.out.trans U2)
  have D2 := Lib.hid D2
  go_wp2_with fail
  refine (L1.out _ _ D2.out).mono ?_
  rintro e w3 ⟨rfl, rfl⟩
  go_wp2_with fail
  refine (N2.out w2).mono ?_
  rintro e w4 ⟨h', rfl, D4, U4, _⟩
  have U4 := Lib.hid (U2.out.trans U4)
  have D4 := Lib.hid D4
  go_wp2_with fail
  refine (L2.out _ _ D4.out).mono ?_
  rintro e w5 ⟨rfl, rfl⟩
  go_wp2_with fail
  go_ret
  exact ⟨rfl, U4.out⟩
end Go.Proofs.Ythlpoboijggjnaa
