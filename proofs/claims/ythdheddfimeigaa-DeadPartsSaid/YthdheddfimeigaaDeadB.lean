/- dead.Add: the walk. -/
import Derived.Test.YthdheddfimeigaaDeadA
set_option linter.unusedSimpArgs false
namespace Go.Proofs.Ythdheddfimeigaa
open Go.RowKit Go.Sort

def AddPost (o : Option (List PtrD)) (w : World) (e : Ending) (w' : World) : Prop :=
  match o with
  | none => e = .returned (.tuple #[.slice none 0 0, .int .i64 131]) ∧ Up w w'
  | some m => ∃ u, e = .returned (.tuple #[u, .int .i64 0]) ∧ OwnPtrs w' w.heap.size u m ∧ Up w w'
theorem run_size3 : ∀ W : World, (sizeOf (Try.prog.elem 22)).run Try.prog W = .ok 3 W := fun W => by
  obtain ⟨i, hi⟩ : ∃ i, Try.prog.info? (Try.prog.elem 22) = some i := Option.isSome_iff_exists.1 (by kernel_rfl)
  rw [run_sizeOf W hi]
  have : Try.prog.cellsOf (Try.prog.elem 22) = 3 := by kernel_rfl
  rw [this]
theorem ptrs_elem : Try.prog.underlying 22 = some (.slice (Try.prog.elem 22)) := by kernel_rfl

set_option maxHeartbeats 4000000 in
theorem add_any (w : World) (v : Value) (l : List PtrD) (hv : IsPtrs w v l) (hs : SortedP l) (q : PtrD) (hr : l.length * 24 ≤ 281474976710632) :
    Calls Try.prog 10 #[v, ptrV q] w fun e w' => AddPost (addO l q) w e w' := by
  have hlen : l.length ≤ 11728124029609 := by omega
  obtain ⟨w0, hw0⟩ : ∃ w0, w0 = (w.alloc (.cells #[v] 22)).alloc (.cells #[.int .i64 q.loc, .int .u64 (q.birth : Int), .int .u32 (q.sum : Int)] 29) := ⟨_, rfl⟩
  have up0 : Up w w0 := by rw [hw0]; exact (up_alloc _ _).alloc _
  have c0 : w0.cell? ⟨w.heap.size, 0, none⟩ = some v := by rw [hw0]; exact (up_alloc _ _).cell (cell_new w _ _ _ 0 _ rfl)
  have d0 : w0.cell? ⟨w.heap.size + 1, 0, none⟩ = some (.int .i64 q.loc) := by rw [hw0, ← World.size_alloc]; exact cell_new _ _ _ _ 0 _ rfl
  have d1 : w0.cell? ⟨w.heap.size + 1, 1, none⟩ = some (.int .u64 (q.birth : Int)) := by rw [hw0, ← World.size_alloc]; exact cell_new _ _ _ _ 1 _ rfl
  have d2 : w0.cell? ⟨w.heap.size + 1, 2, none⟩ = some (.int .u32 (q.sum : Int)) := by rw [hw0, ← World.size_alloc]; exact cell_new _ _ _ _ 2 _ rfl
  have hv0 : IsPtrs w0 v l := IsRow.up hv up0
  have SE := Lib.hid (search_any w0 v l hv0 hs q w.heap.size (w.heap.size + 1) c0 d0 d1 d2 l.length rfl (by omega))
  have F := Lib.hid (fun W => fits_any W q)
  have hmem := mem_pos hs q
  have hple := posI_le l q
  have hao : addO l q = if fitB q = true ∧ q ∉ l then some (l.take (posI l q) ++ q :: l.drop (posI l q)) else none := rfl
  rw [hao]
  clear hao
  have CA : ∀ w1, Up w0 w1 → w1.cell? ⟨w.heap.size, 0, none⟩ = some v ∧ w1.cell? ⟨w.heap.size + 1, 0, none⟩ = some (.int .i64 q.loc) ∧ w1.cell? ⟨w.heap.size + 1, 1, none⟩ = some (.int .u64 (q.birth : Int)) ∧ w1.cell? ⟨w.heap.size + 1, 2, none⟩ = some (.int .u32 (q.sum : Int)) := fun w1 u => ⟨u.cell c0, u.cell d0, u.cell d1, u.cell d2⟩
  have CA' := Lib.hid CA
  have HV0 := Lib.hid hv0
  have TE := Lib.hid (fun (h : posI l q < l.length) w1 (u : Up w0 w1) => add_test (IsRow.up hv0 u) (posI l q) h)
  clear CA c0 d0 d1 d2 hv0 hs hv
  generalize posI l q = i at *
  have NEQ : ∀ (h : i < l.length) W, (Op.equalIn 10000 29 (.agg #[.int .i64 l[i].loc, .int .u64 (l[i].birth : Int), .int .u32 (l[i].sum : Int)]) (.agg #[.int .i64 q.loc, .int .u64 (q.birth : Int), .int .u32 (q.sum : Int)])).run Try.prog W = .ok (decide (l[i] = q)) W := fun h W => ptr_eq l[i].loc q.loc l[i].birth l[i].sum q.birth q.sum W
  have NEQ' := Lib.hid NEQ
  clear NEQ
  -- the three ways
  cases hf : fitB q
  case false =>
    rw [if_neg (by simp)]
    rw [hf] at F
    clear hf hmem NEQ' TE
    show Calls _ _ _ _ fun e w' => e = .returned (.tuple #[.slice none 0 0, .int .i64 131]) ∧ Up w w'
    obtain ⟨ql, qb, qs⟩ := q
    unfold ptrV at *
    simp only at CA' F SE hw0
    go_enter Try.func10, Try.ntmps10
    obtain ⟨a, cap, rfl⟩ := HV0.out.slice
    go_wp2_with fail
    rw [← hw0]
    refine SE.out.mono ?_
    rintro e w1 ⟨rfl, up1⟩
    obtain ⟨c0, d0, d1, d2⟩ := CA'.out w1 up1
    have x0 := cell_regrown c0
    have x1 := cell_regrown d0
    have x2 := cell_regrown d1
    have x3 := cell_regrown d2
    have upw := up0.trans up1
    clear hw0 up0 up1 c0 d0 d1 d2
    go_wp2_with fail
    refine wp_region_quiet_below (by kernel_rfl) (by kernel_rfl) ?_
    repeat (go_big_quiet_step ((go_at_call 30; exact Calls.regrown_of (F.out _))))
    refine wpQuiet_nil ?_
    intro w4 hw'
    obtain ⟨⟨d, os⟩, hw4⟩ := hw'
    have up4 : Up w1 w4 := by rw [hw4]; exact below_regrown _ _ _
    clear hw4 x0 x1 x2 x3
    go_wp2_with fail
    go_ret2
    exact ⟨rfl, upw.trans up4⟩
  by_cases hm : q ∈ l
  · rw [if_neg (by simp [hm])]
    rw [hf] at F
    obtain ⟨hi, he⟩ := hmem.1 hm
    have te := TE.out hi
    have NE := NEQ'.out hi
    have hd : decide (l[i] = q) = true := by simpa using he
    rw [hd] at NE
    clear hf hmem NEQ' TE hd he hm
    show Calls _ _ _ _ fun e w' => e = .returned (.tuple #[.slice none 0 0, .int .i64 131]) ∧ Up w w'
    have t1 : ((i : Int) < (l.length : Int)) = True := by simp; omega
    have t2 : decide (i < l.length) = true := by simp; omega
    generalize l[i] = p at *
    obtain ⟨pl, pb, ps⟩ := p
    obtain ⟨ql, qb, qs⟩ := q
    unfold ptrV at *
    simp only at CA' F SE hw0 NE te
    have TE := Lib.hid te
    clear te
    go_enter Try.func10, Try.ntmps10
    obtain ⟨a, cap, rfl⟩ := HV0.out.slice
    go_wp2_with fail
    rw [← hw0]
    refine SE.out.mono ?_
    rintro e w1 ⟨rfl, up1⟩
    obtain ⟨c0, d0, d1, d2⟩ := CA'.out w1 up1
    obtain ⟨b, off, cap', hvv, e0, e1, e2⟩ := TE.out w1 up1
    simp only [Value.slice.injEq, true_and] at hvv
    obtain ⟨rfl, rfl⟩ := hvv
    have x0 := cell_regrown c0
    have x1 := cell_regrown d0
    have x2 := cell_regrown d1
    have x3 := cell_regrown d2
    have x4 := cell_regrown e0
    have x5 := cell_regrown e1
    have x6 := cell_regrown e2
    have upw := up0.trans up1
    clear hw0 up0 up1 c0 d0 d1 d2 e0 e1 e2
    go_wp2_with fail
    refine wp_region_quiet_below (by kernel_rfl) (by kernel_rfl) ?_
    repeat (go_big_quiet_step ((go_at_call 30; exact Calls.regrown_of (F.out _))))
    refine wpQuiet_nil ?_
    intro w4 hw'
    obtain ⟨⟨d, os⟩, hw4⟩ := hw'
    have up4 : Up w1 w4 := by rw [hw4]; exact below_regrown _ _ _
    clear hw4 x0 x1 x2 x3 x4 x5 x6
    go_wp2_with fail
    go_ret2
    exact ⟨rfl, upw.trans up4⟩
  rw [if_pos ⟨rfl, hm⟩]
  rw [hf] at F
  have Q : (decide (i < l.length) = false ∧ ((i : Int) < (l.length : Int)) = False) ∨ ∃ h : i < l.length, decide (l[i] = q) = false := by
    by_cases h : i < l.length
    · refine .inr ⟨h, ?_⟩
      simp only [decide_eq_false_iff_not]
      exact fun e => hm (hmem.2 ⟨h, e⟩)
    · exact .inl ⟨by simpa using h, by simp; omega⟩
  have MK : ∀ W : World, (Instr.makeSlice 22 (.int .i64 0) (.int .i64 ((l.length : Int) + 1))).run Try.prog W = _ := fun W => by
    have := run_makeR0 (P := Try.prog) 22 29 _ 3 24 Try.underlying22 info_ptr (l.length + 1) (by omega) (by omega) W
    simpa using this
  have wr1 : IntKind.i64.wrap ((l.length : Int) + 1) = (l.length : Int) + 1 := wrap_i64_nat (l.length + 1) (by omega)
  have RM := Lib.hid (fun W (B : Nat) (hB : B ≤ W.heap.size) => OwnRow.room pcells 3 29 W (.agg #[.int .i64 0, .int .u64 0, .int .u32 0]) B (l.length + 1) hB (by omega))
  generalize madeCells (Value.agg #[.int .i64 0, .int .u64 0, .int .u32 0]).cells ((l.length + 1) * 3) = zr at *
  have Lt := Lib.hid (show (l.take i).length = i by rw [List.length_take]; omega)
  have Ld := Lib.hid (show (l.drop i).length = l.length - i by simp)
  clear hf hmem hm
  show Calls _ _ _ _ fun e w' => ∃ u, e = .returned (.tuple #[u, .int .i64 0]) ∧ OwnPtrs w' w.heap.size u (l.take i ++ q :: l.drop i) ∧ Up w w'
  obtain ⟨a, cap, rfl⟩ := HV0.out.slice
  have hcap : l.length ≤ cap := by
    rcases HV0.out with ⟨rfl, _⟩ | ⟨b, off, cap', hx, _, h1, _⟩
    · simp
    · simp at hx; omega
  have PT1 : ∀ W, (Instr.slice 22 (.slice a l.length cap) none (some (.int .i64 (i : Int))) none).run Try.prog W = .ok (partOf 3 a 0 i cap) W := run_part_to (P := Try.prog) 22 3 ptrs_elem run_size3 a l.length cap i (by omega)
  have PT2 : ∀ W, (Instr.slice 22 (.slice a l.length cap) (some (.int .i64 (i : Int))) none none).run Try.prog W = .ok (partOf 3 a i l.length cap) W := run_part_from (P := Try.prog) 22 3 ptrs_elem run_size3 a l.length cap i hple
  have PI1 : IsPtrs w0 (partOf 3 a 0 i cap) (l.take i) := by simpa using IsRow.part pw HV0.out (lo := 0) (hi := i) (by omega) hple
  have PI2 : IsPtrs w0 (partOf 3 a i l.length cap) (l.drop i) := by simpa using IsRow.part pw HV0.out (lo := i) (hi := l.length) hple (Nat.le_refl _)
  have PI1' := Lib.hid PI1
  have PI2' := Lib.hid PI2
  clear PI1 PI2
  generalize partOf 3 a 0 i cap = pv1 at *
  generalize partOf 3 a i l.length cap = pv2 at *
  rcases Q with ⟨q1, q2⟩ | ⟨hi, hd⟩
  · clear NEQ' TE
    obtain ⟨ql, qb, qs⟩ := q
    unfold ptrV at *
    simp only at CA' F SE hw0
    go_enter Try.func10, Try.ntmps10
    go_wp2_with fail
    rw [← hw0]
    clear hw0
    refine SE.out.mono ?_
    rintro e w1 ⟨rfl, up1⟩
    obtain ⟨c0, d0, d1, d2⟩ := CA'.out w1 up1
    have x0 := cell_regrown c0
    have x1 := cell_regrown d0
    have x2 := cell_regrown d1
    have x3 := cell_regrown d2
    clear c0 d0 d1 d2
    go_wp2_with fail
    refine wp_region_quiet_below (by kernel_rfl) (by kernel_rfl) ?_
    repeat (go_big_quiet_step ((go_at_call 30; exact Calls.regrown_of (F.out _))))
    refine wpQuiet_nil ?_
    intro w4 hw'
    obtain ⟨⟨d, os⟩, hw4⟩ := hw'
    have up4 : Up w1 w4 := by rw [hw4]; exact below_regrown _ _ _
    clear hw4 x0 x1 x2 x3
    have up04 := up1.trans up4
    clear up1 up4
    obtain ⟨c0, d0, d1, d2⟩ := CA'.out w4 up04
    have upz := up_alloc w4 (.cells zr 29)
    have up05 := up04.trans upz
    have own5 := RM.out w4 w0.heap.size up04.size
    have p1 := IsRow.up PI1'.out up05
    obtain ⟨f0, f1, f2, f3⟩ := CA'.out _ up05
    have hz0 := up05.size
    go_wp2_with (at_builtin; refine wpList_append_room pw rfl (.tmp 33) (.tmp 36) 22 rfl w0.heap.size 29 (.agg #[.int .i64 0, .int .u64 0, .int .u32 0]) 24 Try.underlying22 info_ptr w4.heap.size (l.length + 1) 0 [] rfl rfl own5 pv1 (l.take i) rfl p1 i (by rw [Lt.out]; simp) (by omega) hz0 ?_)
    intro w6 own6 _ b6
    try rw [List.nil_append] at own6
    have up06 : Up w0 w6 := up05.below_trans b6 (Nat.le_refl _)
    clear c0 d0 d1 d2 f0 f1 f2 f3 own5 p1 b6 hz0 upz up05 up04
    obtain ⟨c0, d0, d1, d2⟩ := CA'.out _ up06
    have up07 := up06.trans (up_alloc w6 (.cells #[.int .i64 ql, .int .u64 (qb : Int), .int .u32 (qs : Int)] 29))
    have own7 := own6.up (up_alloc w6 (.cells #[.int .i64 ql, .int .u64 (qb : Int), .int .u32 (qs : Int)] 29))
    have hz7 := up07.size
    obtain ⟨f0, f1, f2, f3⟩ := CA'.out _ up07
    go_wp2_with (at_builtin; refine wpList_append_room pw rfl (.tmp 38) (.tmp 40) 22 rfl w0.heap.size 29 (.agg #[.int .i64 0, .int .u64 0, .int .u32 0]) 24 Try.underlying22 info_ptr w4.heap.size (l.length + 1) i (l.take i) Lt.out.symm rfl own7 (.slice (some ⟨w6.heap.size, 0, none⟩) 1 1) [⟨ql, qb, qs⟩] rfl (one_lit w6 _ rfl ql qb qs) (i + 1) (by rw [Lt.out]; simp) (by omega) hz7 ?_)
    intro w8 own8 _ b8
    have up08 : Up w0 w8 := up07.below_trans b8 (Nat.le_refl _)
    clear c0 d0 d1 d2 f0 f1 f2 f3 own6 own7 b8 hz7 up07 up06
    obtain ⟨c0, d0, d1, d2⟩ := CA'.out _ up08
    have p2 := IsRow.up PI2'.out up08
    have hz8 := up08.size
    go_wp2_with (at_builtin; refine wpList_append_room pw rfl (.tmp 42) (.tmp 45) 22 rfl w0.heap.size 29 (.agg #[.int .i64 0, .int .u64 0, .int .u32 0]) 24 Try.underlying22 info_ptr w4.heap.size (l.length + 1) (i + 1) (l.take i ++ [⟨ql, qb, qs⟩]) (by rw [List.length_append, Lt.out]; rfl) rfl own8 pv2 (l.drop i) rfl p2 (l.length + 1) (by rw [List.length_append, Lt.out, Ld.out]; simp; omega) (by omega) hz8 ?_)
    intro w9 own9 _ b9
    go_wp2_with fail
    go_ret2
    exact ⟨_, rfl, own9.mono up0.size, (up0.trans up08).below_trans b9 up0.size⟩
  · have te := TE.out hi
    have NE := NEQ'.out hi
    rw [hd] at NE
    clear NEQ' TE hd
    have t1 : ((i : Int) < (l.length : Int)) = True := by simp; omega
    have t2 : decide (i < l.length) = true := by simp; omega
    generalize l[i] = p at *
    obtain ⟨pl, pb, ps⟩ := p
    obtain ⟨ql, qb, qs⟩ := q
    unfold ptrV at *
    simp only at CA' F SE hw0 NE te
    have TE := Lib.hid te
    clear te
    go_enter Try.func10, Try.ntmps10
    go_wp2_with fail
    rw [← hw0]
    clear hw0
    refine SE.out.mono ?_
    rintro e w1 ⟨rfl, up1⟩
    obtain ⟨c0, d0, d1, d2⟩ := CA'.out w1 up1
    obtain ⟨b, off, cap', hvv, e0, e1, e2⟩ := TE.out w1 up1
    simp only [Value.slice.injEq, true_and] at hvv
    obtain ⟨rfl, rfl⟩ := hvv
    have x0 := cell_regrown c0
    have x1 := cell_regrown d0
    have x2 := cell_regrown d1
    have x3 := cell_regrown d2
    have x4 := cell_regrown e0
    have x5 := cell_regrown e1
    have x6 := cell_regrown e2
    clear c0 d0 d1 d2 e0 e1 e2
    go_wp2_with fail
    refine wp_region_quiet_below (by kernel_rfl) (by kernel_rfl) ?_
    repeat (go_big_quiet_step ((go_at_call 30; exact Calls.regrown_of (F.out _))))
    refine wpQuiet_nil ?_
    intro w4 hw'
    obtain ⟨⟨d, os⟩, hw4⟩ := hw'
    have up4 : Up w1 w4 := by rw [hw4]; exact below_regrown _ _ _
    clear hw4 x0 x1 x2 x3 x4 x5 x6
    have up04 := up1.trans up4
    clear up1 up4
    obtain ⟨c0, d0, d1, d2⟩ := CA'.out w4 up04
    have upz := up_alloc w4 (.cells zr 29)
    have up05 := up04.trans upz
    have own5 := RM.out w4 w0.heap.size up04.size
    have p1 := IsRow.up PI1'.out up05
    obtain ⟨f0, f1, f2, f3⟩ := CA'.out _ up05
    have hz0 := up05.size
    go_wp2_with (at_builtin; refine wpList_append_room pw rfl (.tmp 33) (.tmp 36) 22 rfl w0.heap.size 29 (.agg #[.int .i64 0, .int .u64 0, .int .u32 0]) 24 Try.underlying22 info_ptr w4.heap.size (l.length + 1) 0 [] rfl rfl own5 pv1 (l.take i) rfl p1 i (by rw [Lt.out]; simp) (by omega) hz0 ?_)
    intro w6 own6 _ b6
    try rw [List.nil_append] at own6
    have up06 : Up w0 w6 := up05.below_trans b6 (Nat.le_refl _)
    clear c0 d0 d1 d2 f0 f1 f2 f3 own5 p1 b6 hz0 upz up05 up04
    obtain ⟨c0, d0, d1, d2⟩ := CA'.out _ up06
    have up07 := up06.trans (up_alloc w6 (.cells #[.int .i64 ql, .int .u64 (qb : Int), .int .u32 (qs : Int)] 29))
    have own7 := own6.up (up_alloc w6 (.cells #[.int .i64 ql, .int .u64 (qb : Int), .int .u32 (qs : Int)] 29))
    have hz7 := up07.size
    obtain ⟨f0, f1, f2, f3⟩ := CA'.out _ up07
    go_wp2_with (at_builtin; refine wpList_append_room pw rfl (.tmp 38) (.tmp 40) 22 rfl w0.heap.size 29 (.agg #[.int .i64 0, .int .u64 0, .int .u32 0]) 24 Try.underlying22 info_ptr w4.heap.size (l.length + 1) i (l.take i) Lt.out.symm rfl own7 (.slice (some ⟨w6.heap.size, 0, none⟩) 1 1) [⟨ql, qb, qs⟩] rfl (one_lit w6 _ rfl ql qb qs) (i + 1) (by rw [Lt.out]; simp) (by omega) hz7 ?_)
    intro w8 own8 _ b8
    have up08 : Up w0 w8 := up07.below_trans b8 (Nat.le_refl _)
    clear c0 d0 d1 d2 f0 f1 f2 f3 own6 own7 b8 hz7 up07 up06
    obtain ⟨c0, d0, d1, d2⟩ := CA'.out _ up08
    have p2 := IsRow.up PI2'.out up08
    have hz8 := up08.size
    go_wp2_with (at_builtin; refine wpList_append_room pw rfl (.tmp 42) (.tmp 45) 22 rfl w0.heap.size 29 (.agg #[.int .i64 0, .int .u64 0, .int .u32 0]) 24 Try.underlying22 info_ptr w4.heap.size (l.length + 1) (i + 1) (l.take i ++ [⟨ql, qb, qs⟩]) (by rw [List.length_append, Lt.out]; rfl) rfl own8 pv2 (l.drop i) rfl p2 (l.length + 1) (by rw [List.length_append, Lt.out, Ld.out]; simp; omega) (by omega) hz8 ?_)
    intro w9 own9 _ b9
    go_wp2_with fail
    go_ret2
    exact ⟨_, rfl, own9.mono up0.size, (up0.trans up08).below_trans b9 up0.size⟩
end Go.Proofs.Ythdheddfimeigaa
