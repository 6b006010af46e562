/- bytes.Equal; entry.Read at bytes without records; the example that every statement of layer 15 asks first. -/
import Derived.Test.YthbfhlphclgnaaaSetD
set_option linter.unusedSimpArgs false
set_option linter.unusedVariables false
namespace Go.Proofs.Ythbfhlphclgnaaa
open Go.RowKit Go.Sort

set_option maxHeartbeats 1000000 in
theorem bequal_any (w : World) (v u : Value) (a b : List UInt8) (hv : IsBytes w v a) (hu : IsBytes w u b) :
    Calls Try.prog 24 #[v, u] w fun e w' => e = .returned (.bool (decide (a = b))) ∧ w = w' := by
  have c1 := toStr w v a hv
  have c2 := toStr w u b hu
  have ST := Lib.hid (str_test a b)
  generalize strOf a = x at *
  generalize strOf b = y at *
  clear hv hu
  go_enter Try.func24, Try.ntmps24
  go_wp2_with fail
  go_ret
  exact ⟨by rw [← ST.out] <;> rfl, rfl⟩

theorem info_set3 : (Try.prog.info? 44).map (fun i => (i.zero, i.size, i.bytes)) = some (some (.agg zSetC), 11, 112) := by kernel_rfl
theorem texts_elem : Try.prog.underlying 50 = some (.slice (Try.prog.elem 50)) := by kernel_rfl
theorem texts_size : ∀ W : World, (sizeOf (Try.prog.elem 50)).run Try.prog W = .ok 1 W := fun W => by
  rw [show Try.prog.elem 50 = 29 from by kernel_rfl]
  obtain ⟨i, hi, _, hz1, _⟩ := info_parts info_bytes
  simp [sizeOf, typeInfo, hi, hz1]

set_option maxRecDepth 100000 in
set_option maxHeartbeats 4000000 in
theorem read_none (w : World) (v : Value) (b : List UInt8) (hv : IsBytes w v b) (hb : splitB b = none) :
    Calls Try.prog 9 #[v] w fun e w' => e = .returned (.tuple #[.int .u64 0, .slice none 0 0, .int .i64 151]) ∧ Up w w' := by
  have SP := Lib.hid (split_any w v b hv)
  have HB := Lib.hid hb
  obtain ⟨a, c, rfl⟩ := hv.slice
  clear hv hb
  go_enter Try.func9, Try.ntmps9
  go_wp2_with fail
  refine SP.out.mono ?_
  rintro e w2 (⟨ts, hsome, _⟩ | ⟨_, rfl, U2⟩)
  · rw [HB.out] at hsome; cases hsome
  go_wp2_with fail
  go_ret3
  exact ⟨rfl, U2⟩

set_option maxRecDepth 100000 in
set_option maxHeartbeats 4000000 in
theorem read_one (w : World) (v : Value) (n : Nat) (hn : n ≤ 281474976710655) (hv : IsBytes w v (joinBytes [headBytes n])) (hs : splitB (joinBytes [headBytes n]) = some [headBytes n]) (hg : getNums [8] (headBytes n) = [n]) :
    Calls Try.prog 9 #[v] w fun e w' => ∃ vl, e = .returned (.tuple #[.int .u64 (n : Int), .slice vl 0 0, .int .i64 0]) ∧ Up w w' := by
  have SP := Lib.hid (split_any w v _ hv)
  have HS := Lib.hid hs
  have HG := Lib.hid hg
  have HV := Lib.hid hv
  have BQ := Lib.hid (show ∀ W u, Up w W → IsBytes W u (joinBytes [headBytes n]) → Calls Try.prog 24 #[u, v] W fun e w' => e = .returned (.bool true) ∧ W = w' from fun W u U h => by
    have := bequal_any W u v _ _ h (hv.up U)
    rw [decide_eq_true rfl] at this
    exact this)
  have SB := Lib.hid (show setsO n [] = some (joinBytes [headBytes n]) by unfold setsO; rw [if_pos ⟨hn, by simp, fun x hx => by cases hx⟩]; rfl)
  have HL := Lib.hid (headBytes_length n)
  obtain ⟨a, c, rfl⟩ := hv.slice
  generalize (joinBytes [headBytes n]).length = bl at *
  clear hv hs hg
  go_enter Try.func9, Try.ntmps9
  go_wp2_with fail
  refine SP.out.mono ?_
  rintro e w2 (⟨ts, hsome, v5, rfl, OT, U2⟩ | ⟨hbad, _⟩)
  rotate_left
  · rw [HS.out] at hbad; cases hbad
  rw [HS.out] at hsome
  obtain rfl := Option.some.inj hsome
  obtain ⟨vs, hvl, hvo, hve⟩ := OT
  match vs, hvl with
  | [x], _ =>
  have hx := hve 0 (by simp) (by simp)
  obtain ⟨g, cap, rfl, hge, hgl, hcells, _, _⟩ := Own.row hvo (by simp)
  have c0 : w2.cell? ⟨g, 0, none⟩ = some (slCell x) := hcells 0 (by simp)
  obtain ⟨xa, xn, xc⟩ := x
  have hxb : IsBytes w2 (.slice xa xn xc) (headBytes n) := hx.ones
  obtain ⟨xa', xc', hxe⟩ := hxb.slice
  simp only [Value.slice.injEq] at hxe
  obtain ⟨rfl, rfl, rfl⟩ := hxe
  unfold slCell at c0
  simp only at c0
  have U2h := Lib.hid U2
  have HXB := Lib.hid hxb
  have UA := up_alloc w2 (.cells #[.int .i64 8] 3)
  have GT := Lib.hid (show Calls Try.prog 22 #[.slice (some ⟨w2.heap.size, 0, none⟩) 1 1, .slice xa (headBytes n).length xc] (w2.alloc (.cells #[.int .i64 8] 3)) (fun e w' => ∃ v, e = .returned (.tuple #[v, .int .i64 0]) ∧ Own u64Cell 22 w' w.heap.size v [n] ∧ Up w2 w') from by
    have i1 : IsOnes intCell _ (.slice (some ⟨w2.heap.size, 0, none⟩) 1 1) [8] := IsOnes.litAt (f := intCell) w2 w2.heap.size rfl #[.int .i64 8] 3 (0, 0) [8] 1 rfl (by unfold maxLen; omega) rfl
    refine (get_any _ _ [8] i1 (by simp) _ (headBytes n) (HXB.out.up UA)).mono fun e w' h => ?_
    rcases h with ⟨_, v, rfl, ho, hu⟩ | ⟨hno, _⟩
    · rw [HG.out] at ho
      exact ⟨v, rfl, ho.mono (U2h.out.trans UA).size, UA.trans hu⟩
    · refine absurd ⟨by unfold okWs; intro w hw; simp at hw; omega, ?_⟩ hno
      rw [HL.out]; rfl)
  have c0' := UA.cell c0
  have MK : ∀ W : World, (Instr.makeSlice 23 (.int .i64 0) (.int .i64 0)).run Try.prog W = .ok (.slice (some ⟨W.heap.size, 0, none⟩) 0 0) (W.alloc (.cells (madeCells zSetC 0) 44)) := fun W => run_makeR0 (P := Try.prog) 23 44 (.agg zSetC) 11 112 Try.underlying23 info_set3 0 (by omega) (by omega) W
  have PF : ∀ W : World, (Instr.slice 50 (.slice (some ⟨g, 0, none⟩) 1 cap) (some (.int .i64 1)) none none).run Try.prog W = .ok (partOf 1 (some ⟨g, 0, none⟩) 1 1 cap) W := fun W => run_part_from (P := Try.prog) 50 1 texts_elem texts_size (some ⟨g, 0, none⟩) 1 cap 1 (by omega) W
  obtain ⟨pa, pc, hp⟩ : ∃ pa pc, partOf 1 (some ⟨g, 0, none⟩) 1 1 cap = .slice pa 0 pc := ⟨_, _, rfl⟩
  rw [hp] at PF
  clear hp hcells hve hvo hx hxb U2 UA SP
  generalize (headBytes n).length = hl at *
  go_wp2_with fail
  refine GT.out.mono ?_
  rintro e w4 ⟨v7, rfl, O7, U4⟩
  obtain ⟨g7, cap7, rfl, _, _, hc7, _, _⟩ := Own.row O7 (by simp)
  have c7 : w4.cell? ⟨g7, 0, none⟩ = some (.int .u64 (n : Int)) := hc7 0 (by simp)
  have UM := up_alloc w4 (.cells (madeCells zSetC 0) 44)
  have c7' := UM.cell c7
  have U5 := Lib.hid ((U2h.out.trans U4).trans UM)
  have BS := Lib.hid (setsBytes_any (w4.alloc (.cells (madeCells zSetC 0) 44)) n (by omega) (.slice (some ⟨w4.heap.size, 0, none⟩) 0 0) [] ⟨[], rfl, .inl ⟨rfl, some ⟨w4.heap.size, 0, none⟩, 0, rfl, Nat.zero_le _, fun h => by cases h⟩, fun _ h => by cases h⟩ (fun x hx => by cases hx))
  clear hc7 O7 c0 c0' GT
  go_wp2_with fail
  generalize hw5 : w4.alloc (.cells (madeCells zSetC 0) 44) = w5 at *
  go_loopw [8, 48] (fun lv i wr => lv = .slice (some ⟨w4.heap.size, 0, none⟩) 0 0 ∧ i = .int .i64 0 ∧ wr = w5) (fun _ i _ => 0)
  case atStart => exact ⟨rfl, rfl, rfl⟩
  case round =>
    obtain ⟨rfl, rfl, rfl⟩ := hrel
    go_wp2_with fail
    refine BS.out.mono ?_
    rintro e w6 (⟨hbad, _⟩ | ⟨m, v13, hsome, rfl, O13, U6⟩)
    · rw [SB.out] at hbad; cases hbad
    rw [SB.out] at hsome
    obtain rfl := Option.some.inj hsome
    have c8 := U6.cell c7'
    have U7 := Lib.hid (U5.out.trans U6)
    have B13 := Lib.hid O13.ones
    clear O13 U6 hsome
    go_wp2_with fail
    refine (BQ.out _ _ U7.out B13.out).mono ?_
    rintro e w8 ⟨rfl, rfl⟩
    go_wp2_with fail
    go_ret3
    exact ⟨_, rfl, U7.out⟩

def vol : SetD := ⟨1, [118], false, 1, 0, 0, 8, hole, []⟩
def volC : Array Value := setC vol (.slice none 0 0)
theorem built_vol : Try.prog.built 44 [(0, .int .u64 1), (1, .string ⟨#[118]⟩), (3, .int .u64 1), (6, .int .i64 8)] = some volC := by kernel_rfl
theorem wpList_build4 {P : Program} {ops : Array Oper} {rest : List Oper} {o : Oper} {a : Act} {w : World} {Q : Exit → Act → World → Prop} (hw : Region.wanted o (yielded ops a.tmps) = true) (t : TypeId) (i0 i1 i2 i3 : Nat) (x0 x1 x2 x3 : Operand) (ho : o.op = .build t #[(i0, x0), (i1, x1), (i2, x2), (i3, x3)])
    (v0 v1 v2 v3 : Value) (h0 : a.eval x0 = v0) (h1 : a.eval x1 = v1) (h2 : a.eval x2 = v2) (h3 : a.eval x3 = v3) (C : Array Value) (hb : P.built t [(i0, v0), (i1, v1), (i2, v2), (i3, v3)] = some C)
    (h : wpList P ops Q rest (a.put o.dst (.agg C)) w) : wpList P ops Q (o :: rest) a w :=
  BigFrame.wpList_want hw fun _ hK => wp_build t #[(i0, x0), (i1, x1), (i2, x2), (i3, x3)] ho (by simp [h0, h1, h2, h3, hb]) (hK _ _ (by simpa [h0, h1, h2, h3, hb] using h))
set_option maxHeartbeats 2000000 in
theorem volume_any (w : World) : Calls Try.prog 25 #[] w fun e w' => e = .returned (.agg volC) ∧ Up w w' := by
  have UA := up_alloc w (.cells zSetC 44)
  have BN := Blk.new w 44 volC
  have UB := Lib.hid (up_alloc w (.cells volC 44))
  have HI := Lib.hid (show (Try.prog.info? 44).map (·.size) = some volC.size from info_setV vol _)
  have HO := Lib.hid (show volC.all (·.oneCell') = true from setC_one vol _ _ _)
  have HZ := Lib.hid (show zSetC.size = volC.size from rfl)
  have BB := Lib.hid built_vol
  have B1 := Lib.hid BN
  clear BN UA
  generalize volC = C at *
  go_enter Try.func25, Try.ntmps25
  go_wp2_with (first
    | ((with_reducible refine wg_alloc 44 ?_); refine wpList_alloc_blk rfl 44 rfl zSetC zero_set ?_)
    | ((with_reducible refine wg_build 44 _ ?_); refine wpList_build4 rfl 44 0 1 3 6 _ _ _ _ rfl _ _ _ _ rfl rfl rfl rfl C BB.out ?_)
    | ((with_reducible refine wg_store 44 (.tmp 0) (.tmp 1) ?_); refine ws_new w rfl 44 (.tmp 0) (.tmp 1) rfl C 44 zSetC rfl rfl rfl HI.out HZ.out HO.out ?_))
  (try simp only [Exit.inBlock, Exit.then])
  exact bodyPost_ret (v := .agg C) (results_set rfl _ _ _ w.heap.size 44 _ rfl B1.out _ Try.underlying44 rfl HI.out) rfl ⟨rfl, UB.out⟩
def exB : List UInt8 := [1, 0, 8, 0, 1, 0, 0, 0, 0, 0, 0, 0]
theorem ex_facts : joinBytes [headBytes 1] = exB ∧ splitB exB = some [headBytes 1] ∧ getNums [8] (headBytes 1) = [1] ∧ rightS vol = true := by
  refine ⟨by decide, by decide, by decide, by decide⟩
set_option maxRecDepth 100000 in
set_option maxHeartbeats 4000000 in
theorem entryAlive_any (w : World) : Calls Try.prog 10 #[] w fun e w' => e = .returned (.bool true) ∧ Up w w' := by
  obtain ⟨x1, x2, x3, x4⟩ := ex_facts
  have SB := Lib.hid (show setsO 1 [] = some exB by unfold setsO; rw [if_pos ⟨by omega, by simp, fun x hx => by cases hx⟩]; exact congrArg some x1)
  have BS := Lib.hid (setsBytes_any w 1 (by omega) (.slice none 0 0) [] (IsSets.nil w) (fun x hx => by cases hx))
  have RD := Lib.hid (show ∀ W v, IsBytes W v exB → Calls Try.prog 9 #[v] W fun e w' => ∃ vl, e = .returned (.tuple #[.int .u64 1, .slice vl 0 0, .int .i64 0]) ∧ Up W w' from fun W v h => read_one W v 1 (by omega) (by rw [x1]; exact h) (by rw [x1]; exact x2) x3)
  have VO := Lib.hid volume_any
  have SR := Lib.hid (show ∀ W, Calls Try.prog 16 #[.agg volC] W fun e w' => e = .returned (.bool true) ∧ Up W w' from fun W => by
    have := sright_any W vol (.slice none 0 0) (IsRow.nil _ _)
    rw [x4] at this
    exact this)
  clear x1 x2 x3 x4
  go_enter Try.func10, Try.ntmps10
  go_wp2_with fail
  refine BS.out.mono ?_
  rintro e w2 (⟨hbad, _⟩ | ⟨m, v1, hsome, rfl, O1, U2⟩)
  · rw [SB.out] at hbad; cases hbad
  rw [SB.out] at hsome
  obtain rfl := Option.some.inj hsome
  obtain ⟨aa, ac, rfl⟩ := O1.ones.slice
  have O1 := Lib.hid O1.ones
  have U2 := Lib.hid U2
  clear BS hsome
  have LIT := Lib.hid (IsOnes.lit (f := byteCell) w2 #[.int .u8 1, .int .u8 0, .int .u8 8, .int .u8 0, .int .u8 1, .int .u8 0, .int .u8 0, .int .u8 0, .int .u8 0, .int .u8 0, .int .u8 0, .int .u8 0] 5 (0, 0) exB 12 rfl (by unfold maxLen; omega) rfl)
  have UL := Lib.hid (up_alloc w2 (.cells #[.int .u8 1, .int .u8 0, .int .u8 8, .int .u8 0, .int .u8 1, .int .u8 0, .int .u8 0, .int .u8 0, .int .u8 0, .int .u8 0, .int .u8 0, .int .u8 0] 5))
  go_wp2_with fail
  refine (RD.out _ _ LIT.out).mono ?_
  rintro e w4 ⟨vl, rfl, U4⟩
  have CV := toStr w4 _ exB (IsOnes.up O1.out (UL.out.trans U4))
  rw [show strOf exB = ⟨#[1, 0, 8, 0, 1, 0, 0, 0, 0, 0, 0, 0]⟩ from rfl] at CV
  have U5 := Lib.hid ((U2.out.trans UL.out).trans U4)
  clear U4 LIT UL O1
  go_wp2_with fail
  refine (VO.out _).mono ?_
  rintro e w6 ⟨rfl, U6⟩
  have U7 := Lib.hid (U5.out.trans U6)
  clear CV U6
  go_wp2_with fail
  refine (SR.out _).mono ?_
  rintro e w7 ⟨rfl, U8⟩
  go_wp2_with fail
  go_ret
  exact ⟨rfl, U7.out.trans U8⟩

set_option maxRecDepth 100000 in
set_option maxHeartbeats 2000000 in
theorem entryNames_walk (w : World) : Calls Try.prog 3 #[] w fun e w' => e = .returned (.bool true) ∧ Up w w' := by
  have RN := Lib.hid (read_none w (.slice none 0 0) [] (IsOnes.nil _ _) (by decide))
  have AL := Lib.hid entryAlive_any
  go_enter Try.func3, Try.ntmps3
  go_wp2_with fail
  refine RN.out.mono ?_
  rintro e w2 ⟨rfl, U2⟩
  have U2 := Lib.hid U2
  go_wp2_with fail
  refine (AL.out _).mono ?_
  rintro e w3 ⟨rfl, U3⟩
  go_wp2_with fail
  go_ret
  exact ⟨rfl, U2.out.trans U3⟩

end Go.Proofs.Ythbfhlphclgnaaa
