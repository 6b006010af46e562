/- DeadAdds. -/
import Derived.Test.YthdheddfimeigaaDeadL1
import Derived.Test.YthdheddfimeigaaDeadR
import Derived.Test.YthdheddfimeigaaDeadD
import Derived.Test.YthdheddfimeigaaDeadE
set_option linter.unusedSimpArgs false
namespace Go.Proofs.Ythdheddfimeigaa
open Go.RowKit Go.Sort

def AddPost2 (m : List PtrD) (c : Int) (w : World) (e : Ending) (w' : World) : Prop := ∃ u, e = .returned (.tuple #[u, .int .i64 c]) ∧ IsPtrs w' u m ∧ Up w w'
theorem AddPost.two {o : Option (List PtrD)} {w w' : World} {e : Ending} (h : AddPost o w e w') : AddPost2 (o.getD []) (if o = none then 131 else 0) w e w' := by
  cases o with
  | none => exact ⟨_, h.1, IsRow.nil _ _, h.2⟩
  | some m =>
    obtain ⟨u, h1, h2, h3⟩ := h
    exact ⟨u, by rw [h1]; rfl, OwnRow.row h2 pw, h3⟩
def Split2 (s : Nat) (l : List PtrD) (w : World) (e : Ending) (w' : World) : Prop := ∃ u1 u2, e = .returned (.tuple #[u1, u2]) ∧ IsPtrs w' u1 (oldL s l) ∧ IsPtrs w' u2 (youngL s l) ∧ Up w w'
theorem split2 {s : Nat} {l : List PtrD} {w w' : World} {e : Ending} (h : ∃ u1 u2, e = .returned (.tuple #[u1, u2]) ∧ OwnPtrs w' w.heap.size u1 (oldL s l) ∧ OwnPtrs w' w.heap.size u2 (youngL s l) ∧ Up w w') : Split2 s l w e w' := by
  obtain ⟨u1, u2, h1, h2, h3, h4⟩ := h
  exact ⟨u1, u2, h1, OwnRow.row h2 pw, OwnRow.row h3 pw, h4⟩

set_option maxHeartbeats 8000000 in
theorem deadAdds_walk (w : World) (v : Value) (l : List PtrD) (hv : IsPtrs w v l) (hr : l.length * 24 ≤ 140737488351232) (_hq : ∀ x ∈ l, x.wf) (q : PtrD) (_hp : q.wf) (s : Nat) (_hs : s < 18446744073709551616) :
    Calls Try.prog 4 #[v, ptrV q, .int .u64 (s : Int)] w fun e w' => e = .returned (.bool true) ∧ Up w w' := by
  have RT := Lib.hid (fun W (up : Up w W) => lright_any W v l (IsRow.up hv up))
  have RR := Lib.hid (fun W (up : Up w W) => rright_any W v l (IsRow.up hv up))
  have upb := up_alloc w (.cells #[.int .i64 q.loc, .int .u64 (q.birth : Int), .int .u32 (q.sum : Int)] 29)
  have d0 : (w.alloc (.cells #[.int .i64 q.loc, .int .u64 (q.birth : Int), .int .u32 (q.sum : Int)] 29)).cell? ⟨w.heap.size, 0, none⟩ = some (.int .i64 q.loc) := cell_new w _ _ _ 0 _ rfl
  have d1 : (w.alloc (.cells #[.int .i64 q.loc, .int .u64 (q.birth : Int), .int .u32 (q.sum : Int)] 29)).cell? ⟨w.heap.size, 1, none⟩ = some (.int .u64 (q.birth : Int)) := cell_new w _ _ _ 1 _ rfl
  have d2 : (w.alloc (.cells #[.int .i64 q.loc, .int .u64 (q.birth : Int), .int .u32 (q.sum : Int)] 29)).cell? ⟨w.heap.size, 2, none⟩ = some (.int .u32 (q.sum : Int)) := cell_new w _ _ _ 2 _ rfl
  show Calls Try.prog _ #[_, .agg #[.int .i64 q.loc, .int .u64 (q.birth : Int), .int .u32 (q.sum : Int)], _] _ _
  cases hR : rightB l
  case false =>
    rw [hR] at RT RR
    clear d0 d1 d2
    go_enter Try.func4, Try.ntmps4
    go_wp2_with fail
    refine (alive_any _).mono ?_
    rintro e w1 ⟨rfl, up1⟩
    have U1 := upb.trans up1
    clear upb up1
    go_wp2_with fail
    refine (RT.out _ U1).mono ?_
    rintro e w2 ⟨rfl, up2⟩
    have U2 := U1.trans up2
    go_wp2_with fail
    refine (RR.out _ U2).mono ?_
    rintro e w3 ⟨rfl, up3⟩
    have U3 := U2.trans up3
    go_wp2_with fail
    refine (RR.out _ U3).mono ?_
    rintro e w4 ⟨rfl, up4⟩
    go_wp2_with fail
    go_ret
    exact ⟨rfl, U3.trans up4⟩
  rw [hR] at RT RR
  have hs := right_sorted hR
  obtain ⟨M, hM⟩ : ∃ M, M = (addO l q).getD [] := ⟨_, rfl⟩
  obtain ⟨c, hcc⟩ : ∃ c : Int, c = (if addO l q = none then 131 else 0) := ⟨_, rfl⟩
  have A1 := Lib.hid (show ∀ W u, IsPtrs W u l → Calls Try.prog 10 #[u, .agg #[.int .i64 q.loc, .int .u64 (q.birth : Int), .int .u32 (q.sum : Int)]] W fun e w' => AddPost2 M c W e w' from fun W u h => by
    rw [hM, hcc]
    exact (add_any W u l h hs q (by omega)).mono fun e w' h => AddPost.two h)
  have A2 := Lib.hid (show ∀ W, Up w W → Calls Try.prog 15 #[v, .agg #[.int .i64 q.loc, .int .u64 (q.birth : Int), .int .u32 (q.sum : Int)]] W fun e w' => AddPost2 M c W e w' from fun W up => by
    rw [hM, hcc]
    exact (radd_any W v l (IsRow.up hv up) hs q (by omega)).mono fun e w' h => AddPost.two h)
  have S1 := Lib.hid (fun W u (h : IsPtrs W u l) => (split_any W u l h s (by omega)).mono fun e w' h => split2 h)
  have S2 := Lib.hid (fun W (up : Up w W) => (rsplit_any W v l (IsRow.up hv up) s (by omega)).mono fun e w' h => split2 h)
  have B1 := Lib.hid (fun W u (h : IsPtrs W u l) => births_any W u l h (by omega))
  have B2 := Lib.hid (fun W (up : Up w W) => rbirths_any W v l (IsRow.up hv up) (by omega))
  have SM := Lib.hid (show ∀ W u u' m, IsPtrs W u m → IsPtrs W u' m → Calls Try.prog 18 #[u, u'] W fun e w' => BoolUp true W e w' from fun W u u' m h h' => by
    have := same_any W u u' m m h h'
    rw [show decide (m = m) = true by simp] at this
    exact this)
  have SN := Lib.hid (show ∀ W u u' m, IsOnes u64Cell W u m → IsOnes u64Cell W u' m → Calls Try.prog 19 #[u, u'] W fun e w' => BoolUp true W e w' from fun W u u' m h h' => by
    have := sameNums_any W u u' m m h h'
    rw [show decide (m = m) = true by simp] at this
    exact this)
  unfold AddPost2 at A1 A2
  unfold Split2 at S1 S2
  have HV := Lib.hid hv
  have cc : (c == c) = true := by simp
  clear hM hcc hs hR hv
  have CA := Lib.hid (show ∀ W, Up (w.alloc (.cells #[.int .i64 q.loc, .int .u64 (q.birth : Int), .int .u32 (q.sum : Int)] 29)) W → W.cell? ⟨w.heap.size, 0, none⟩ = some (.int .i64 q.loc) ∧ W.cell? ⟨w.heap.size, 1, none⟩ = some (.int .u64 (q.birth : Int)) ∧ W.cell? ⟨w.heap.size, 2, none⟩ = some (.int .u32 (q.sum : Int)) from fun W u => ⟨u.cell d0, u.cell d1, u.cell d2⟩)
  clear d0 d1 d2
  go_enter Try.func4, Try.ntmps4
  go_wp2_with fail
  refine (alive_any _).mono ?_
  rintro e w1 ⟨rfl, up1⟩
  have U1 := Lib.hid (up1)
  have UB := Lib.hid upb
  clear upb up1
  go_wp2_with fail
  refine (RT.out _ (UB.out.trans U1.out)).mono ?_
  rintro e w2 ⟨rfl, up2⟩
  have U2 := Lib.hid (U1.out.trans up2)
  clear up2 U1
  go_wp2_with fail
  refine (RR.out _ (UB.out.trans U2.out)).mono ?_
  rintro e w3 ⟨rfl, up3⟩
  have U3 := Lib.hid (U2.out.trans up3)
  clear up3 U2
  go_wp2_with fail
  refine (RR.out _ (UB.out.trans U3.out)).mono ?_
  rintro e w4 ⟨rfl, up4⟩
  have U4 := Lib.hid (U3.out.trans up4)
  clear up4 U3
  have hv4 := IsRow.up HV.out (UB.out.trans U4.out)
  go_wp2_with (at_builtin; refine wpList_fresh_row pw rfl (.tmp 28) (.tmp 29) 22 rfl 29 (.agg #[.int .i64 0, .int .u64 0, .int .u32 0]) 24 Try.underlying22 info_ptr rfl w4.heap.size rfl rfl v l rfl hv4 (by omega) ?_)
  intro own w5 hown up5
  have U5 := Lib.hid (U4.out.trans up5)
  have O5 := Lib.hid (OwnRow.row hown pw)
  clear hown up5 U4 hv4
  obtain ⟨d0, d1, d2⟩ := CA.out _ U5.out
  go_wp2_with fail
  refine (A1.out _ _ O5.out).mono ?_
  rintro e w6 ⟨x, rfl, hx, up6⟩
  have U6 := Lib.hid (U5.out.trans up6)
  have O6 := Lib.hid (IsRow.up O5.out up6)
  have X6 := Lib.hid hx
  clear hx up6 U5 O5 d0 d1 d2
  obtain ⟨d0, d1, d2⟩ := CA.out _ U6.out
  go_wp2_with fail
  refine (A2.out _ (UB.out.trans U6.out)).mono ?_
  rintro e w7 ⟨x2, rfl, hx2, up7⟩
  have U7 := Lib.hid (U6.out.trans up7)
  have O7 := Lib.hid (IsRow.up O6.out up7)
  have X7 := Lib.hid (IsRow.up X6.out up7)
  have Y7 := Lib.hid hx2
  clear hx2 up7 U6 O6 X6 d0 d1 d2
  go_wp2_with fail
  refine (S1.out _ _ O7.out).mono ?_
  rintro e w8 ⟨u1, u2, rfl, h1, h2, up8⟩
  have U8 := Lib.hid (U7.out.trans up8)
  have O8 := Lib.hid (IsRow.up O7.out up8)
  have X8 := Lib.hid (IsRow.up X7.out up8)
  have Y8 := Lib.hid (IsRow.up Y7.out up8)
  have P8 := Lib.hid h1
  have Q8 := Lib.hid h2
  clear h1 h2 up8 U7 O7 X7 Y7
  go_wp2_with fail
  refine (S2.out _ (UB.out.trans U8.out)).mono ?_
  rintro e w9 ⟨u3, u4, rfl, h1, h2, up9⟩
  have U9 := Lib.hid (U8.out.trans up9)
  have O9 := Lib.hid (IsRow.up O8.out up9)
  have X9 := Lib.hid (IsRow.up X8.out up9)
  have Y9 := Lib.hid (IsRow.up Y8.out up9)
  have P9 := Lib.hid (IsRow.up P8.out up9)
  have Q9 := Lib.hid (IsRow.up Q8.out up9)
  have P9' := Lib.hid h1
  have Q9' := Lib.hid h2
  clear h1 h2 up9 U8 O8 X8 Y8 P8 Q8
  go_wp2_with fail
  refine (SM.out _ _ _ _ X9.out Y9.out).mono ?_
  rintro e w10 ⟨rfl, up10⟩
  have U10 := Lib.hid (U9.out.trans up10)
  have O10 := Lib.hid (IsRow.up O9.out up10)
  have P10 := Lib.hid (IsRow.up P9.out up10)
  have Q10 := Lib.hid (IsRow.up Q9.out up10)
  have P10' := Lib.hid (IsRow.up P9'.out up10)
  have Q10' := Lib.hid (IsRow.up Q9'.out up10)
  clear up10 U9 O9 X9 Y9 P9 Q9 P9' Q9'
  go_wp2_with fail
  refine (SM.out _ _ _ _ P10.out P10'.out).mono ?_
  rintro e w11 ⟨rfl, up11⟩
  have U11 := Lib.hid (U10.out.trans up11)
  have O11 := Lib.hid (IsRow.up O10.out up11)
  have Q11 := Lib.hid (IsRow.up Q10.out up11)
  have Q11' := Lib.hid (IsRow.up Q10'.out up11)
  clear up11 U10 O10 P10 Q10 P10' Q10'
  go_wp2_with fail
  refine (SM.out _ _ _ _ Q11.out Q11'.out).mono ?_
  rintro e w12 ⟨rfl, up12⟩
  have U12 := Lib.hid (U11.out.trans up12)
  have O12 := Lib.hid (IsRow.up O11.out up12)
  clear up12 U11 O11 Q11 Q11'
  go_wp2_with fail
  refine (B1.out _ _ O12.out).mono ?_
  rintro e w13 ⟨n1, rfl, hn1, up13⟩
  have U13 := Lib.hid (U12.out.trans up13)
  have O13 := Lib.hid (IsRow.up O12.out up13)
  have N13 := Lib.hid hn1.ones
  clear hn1 up13 U12 O12
  go_wp2_with fail
  refine (B2.out _ (UB.out.trans U13.out)).mono ?_
  rintro e w14 ⟨n2, rfl, hn2, up14⟩
  have U14 := Lib.hid (U13.out.trans up14)
  have O14 := Lib.hid (IsRow.up O13.out up14)
  have N14 := Lib.hid (N13.out.up up14)
  have N14' := Lib.hid hn2.ones
  clear hn2 up14 U13 O13 N13
  go_wp2_with fail
  refine (SN.out _ _ _ _ N14.out N14'.out).mono ?_
  rintro e w15 ⟨rfl, up15⟩
  have U15 := Lib.hid (U14.out.trans up15)
  have O15 := Lib.hid (IsRow.up O14.out up15)
  clear up15 U14 O14 N14 N14'
  have hv15 := IsRow.up HV.out (UB.out.trans U15.out)
  go_wp2_with fail
  refine (SM.out _ _ _ _ O15.out hv15).mono ?_
  rintro e w16 ⟨rfl, up16⟩
  go_wp2_with fail
  go_ret
  exact ⟨rfl, UB.out.trans (U15.out.trans up16)⟩
end Go.Proofs.Ythdheddfimeigaa
