/- DeadCuts. -/
import Derived.Test.YthdheddfimeigaaDeadL1
set_option linter.unusedSimpArgs false
namespace Go.Proofs.Ythdheddfimeigaa
open Go.RowKit Go.Sort

theorem parts_length (s : Nat) (l : List PtrD) : (oldL s l).length + (youngL s l).length = l.length := by
  unfold oldL youngL
  induction l with
  | nil => rfl
  | cons x l ih =>
    by_cases h : x.birth ≤ s
    · have h2 : ¬ s < x.birth := by omega
      simp [h, h2]
      omega
    · have h2 : s < x.birth := by omega
      simp [h, h2]
      omega
theorem old_comm (a b : Nat) (l : List PtrD) : oldL b (oldL a l) = oldL a (oldL b l) := by
  unfold oldL
  rw [List.filter_filter, List.filter_filter]
  congr 1
  funext p
  exact Bool.and_comm _ _
theorem young_comm (a b : Nat) (l : List PtrD) : youngL b (youngL a l) = youngL a (youngL b l) := by
  unfold youngL
  rw [List.filter_filter, List.filter_filter]
  congr 1
  funext p
  exact Bool.and_comm _ _
def SplitPost (s : Nat) (l : List PtrD) (w : World) (e : Ending) (w' : World) : Prop :=
  ∃ a1 c1 a2 c2, e = .returned (.tuple #[.slice a1 (oldL s l).length c1, .slice a2 (youngL s l).length c2]) ∧ IsPtrs w' (.slice a1 (oldL s l).length c1) (oldL s l) ∧ IsPtrs w' (.slice a2 (youngL s l).length c2) (youngL s l) ∧ Up w w'
theorem split_at (w : World) (v : Value) (l : List PtrD) (hv : IsPtrs w v l) (s : Nat) (hr : l.length * 24 ≤ 140737488355328) :
    Calls Try.prog 16 #[v, .int .u64 (s : Int)] w fun e w' => SplitPost s l w e w' := by
  refine (split_any w v l hv s hr).mono ?_
  rintro e w' ⟨u1, u2, rfl, h1, h2, up⟩
  have k1 := OwnRow.row h1 pw
  have k2 := OwnRow.row h2 pw
  obtain ⟨a1, c1, rfl⟩ := k1.slice
  obtain ⟨a2, c2, rfl⟩ := k2.slice
  exact ⟨a1, c1, a2, c2, rfl, k1, k2, up⟩

set_option maxHeartbeats 8000000 in
theorem deadCuts_walk (w : World) (v : Value) (l : List PtrD) (hv : IsPtrs w v l) (hr : l.length * 24 ≤ 140737488351232) (_hq : ∀ x ∈ l, x.wf) (a : Nat) (_ha : a < 18446744073709551616) (b : Nat) (_hb : b < 18446744073709551616) :
    Calls Try.prog 5 #[v, .int .u64 (a : Int), .int .u64 (b : Int)] w fun e w' => e = .returned (.bool true) ∧ Up w w' := by
  have RT := Lib.hid (fun W (up : Up w W) => lright_any W v l (IsRow.up hv up))
  cases hR : rightB l
  case false =>
    rw [hR] at RT
    go_enter Try.func5, Try.ntmps5
    go_wp2_with fail
    refine (alive_any _).mono ?_
    rintro e w1 ⟨rfl, up1⟩
    go_wp2_with fail
    refine (RT.out _ up1).mono ?_
    rintro e w2 ⟨rfl, up2⟩
    go_wp2_with fail
    go_ret
    exact ⟨rfl, up1.trans up2⟩
  rw [hR] at RT
  have n0 := parts_length a l
  have n1 := parts_length b (oldL a l)
  have n2 := parts_length b (youngL a l)
  have n3 := parts_length b l
  have n4 := parts_length a (oldL b l)
  have n5 := parts_length a (youngL b l)
  have S1 := Lib.hid (fun W (up : Up w W) => split_at W v l (IsRow.up hv up) a (by omega))
  have S2 := Lib.hid (fun W u (h : IsPtrs W u (oldL a l)) => split_at W u (oldL a l) h b (by omega))
  have S3 := Lib.hid (fun W u (h : IsPtrs W u (youngL a l)) => split_at W u (youngL a l) h b (by omega))
  have S4 := Lib.hid (fun W (up : Up w W) => split_at W v l (IsRow.up hv up) b (by omega))
  have S5 := Lib.hid (fun W u (h : IsPtrs W u (oldL b l)) => split_at W u (oldL b l) h a (by omega))
  have S6 := Lib.hid (fun W u (h : IsPtrs W u (youngL b l)) => split_at W u (youngL b l) h a (by omega))
  have M1 := Lib.hid (fun W u u' (h : IsPtrs W u (oldL b (oldL a l))) (h' : IsPtrs W u' (oldL a (oldL b l))) => same_any W u u' _ _ h h')
  have M2 := Lib.hid (fun W u u' (h : IsPtrs W u (youngL b (youngL a l))) (h' : IsPtrs W u' (youngL a (youngL b l))) => same_any W u u' _ _ h h')
  have q1 : decide (oldL b (oldL a l) = oldL a (oldL b l)) = true := by simpa using old_comm a b l
  have q2 : decide (youngL b (youngL a l) = youngL a (youngL b l)) = true := by simpa using young_comm a b l
  rw [q1] at M1
  rw [q2] at M2
  have BI := Lib.hid (fun W (up : Up w W) => births_any W v l (IsRow.up hv up) (by omega))
  have BL := births_le l l.length (Nat.le_refl _)
  rw [List.take_length] at BL
  unfold SplitPost at S1 S2 S3 S4 S5 S6
  clear q1 q2 n3 n4 n5 hR
  obtain ⟨va, vc, rfl⟩ := hv.slice
  clear hv
  generalize youngL a (youngL b l) = L10 at *
  generalize oldL a (youngL b l) = L9 at *
  generalize youngL a (oldL b l) = L8 at *
  generalize oldL a (oldL b l) = L7 at *
  generalize youngL b (youngL a l) = L6 at *
  generalize oldL b (youngL a l) = L5 at *
  generalize youngL b (oldL a l) = L4 at *
  generalize oldL b (oldL a l) = L3 at *
  generalize youngL b l = L12 at *
  generalize oldL b l = L11 at *
  generalize youngL a l = L2 at *
  generalize oldL a l = L1 at *
  have w1' : IntKind.i64.wrap ((L3.length : Int) + (L4.length : Int)) = (L3.length : Int) + (L4.length : Int) := wrap_i64_nat (L3.length + L4.length) (by omega)
  have w2' : IntKind.i64.wrap ((L3.length : Int) + (L4.length : Int) + (L5.length : Int)) = (L3.length : Int) + (L4.length : Int) + (L5.length : Int) := wrap_i64_nat (L3.length + L4.length + L5.length) (by omega)
  have w3' : IntKind.i64.wrap ((L3.length : Int) + (L4.length : Int) + (L5.length : Int) + (L6.length : Int)) = (l.length : Int) := by
    rw [show (L3.length : Int) + (L4.length : Int) + (L5.length : Int) + (L6.length : Int) = (l.length : Int) by omega]
    exact wrap_i64_nat l.length (by omega)
  have t1 : ((l.length : Int) == (l.length : Int)) = true := by simp
  go_enter Try.func5, Try.ntmps5
  go_wp2_with fail
  refine (alive_any _).mono ?_
  rintro e w1 ⟨rfl, up1⟩
  have U1 := Lib.hid up1
  clear up1
  go_wp2_with fail
  refine (RT.out _ U1.out).mono ?_
  rintro e w2 ⟨rfl, up2⟩
  have U2 := Lib.hid (U1.out.trans up2)
  clear up2 U1
  go_wp2_with fail
  refine (S1.out _ U2.out).mono ?_
  rintro e w3 ⟨a1, c1, a2, c2, rfl, h1, h2, up3⟩
  have U3 := Lib.hid (U2.out.trans up3)
  have H1 := Lib.hid h1
  have H2 := Lib.hid h2
  clear up3 U2 h1 h2
  go_wp2_with fail
  refine (S2.out _ _ H1.out).mono ?_
  rintro e w4 ⟨a3, c3, a4, c4, rfl, h3, h4, up4⟩
  have U4 := Lib.hid (U3.out.trans up4)
  have H3 := Lib.hid h3
  have H2' := Lib.hid (IsRow.up H2.out up4)
  clear up4 U3 h3 h4 H1 H2
  go_wp2_with fail
  refine (S3.out _ _ H2'.out).mono ?_
  rintro e w5 ⟨a5, c5, a6, c6, rfl, h5, h6, up5⟩
  have U5 := Lib.hid (U4.out.trans up5)
  have H3' := Lib.hid (IsRow.up H3.out up5)
  have H6 := Lib.hid h6
  clear up5 U4 h5 h6 H2' H3
  go_wp2_with fail
  refine (S4.out _ U5.out).mono ?_
  rintro e w6 ⟨a7, c7, a8, c8, rfl, h7, h8, up6⟩
  have U6 := Lib.hid (U5.out.trans up6)
  have H3 := Lib.hid (IsRow.up H3'.out up6)
  have H6' := Lib.hid (IsRow.up H6.out up6)
  have H7 := Lib.hid h7
  have H8 := Lib.hid h8
  clear up6 U5 h7 h8 H3' H6
  go_wp2_with fail
  refine (S5.out _ _ H7.out).mono ?_
  rintro e w7 ⟨a9, c9, a10, c10, rfl, h9, h10, up7⟩
  have U7 := Lib.hid (U6.out.trans up7)
  have H3' := Lib.hid (IsRow.up H3.out up7)
  have H6 := Lib.hid (IsRow.up H6'.out up7)
  have H8' := Lib.hid (IsRow.up H8.out up7)
  have H9 := Lib.hid h9
  clear up7 U6 h9 h10 H3 H6' H8 H7
  go_wp2_with fail
  refine (S6.out _ _ H8'.out).mono ?_
  rintro e w8 ⟨a11, c11, a12, c12, rfl, h11, h12, up8⟩
  have U8 := Lib.hid (U7.out.trans up8)
  have H3 := Lib.hid (IsRow.up H3'.out up8)
  have H6' := Lib.hid (IsRow.up H6.out up8)
  have H9' := Lib.hid (IsRow.up H9.out up8)
  have H12 := Lib.hid h12
  clear up8 U7 h11 h12 H3' H6 H8' H9
  go_wp2_with fail
  refine (M1.out _ _ _ H3.out H9'.out).mono ?_
  rintro e w9 ⟨rfl, up9⟩
  have U9 := Lib.hid (U8.out.trans up9)
  have H6 := Lib.hid (IsRow.up H6'.out up9)
  have H12' := Lib.hid (IsRow.up H12.out up9)
  clear up9 U8 H3 H9' H6' H12
  go_wp2_with fail
  refine (M2.out _ _ _ H6.out H12'.out).mono ?_
  rintro e w10 ⟨rfl, up10⟩
  have U10 := Lib.hid (U9.out.trans up10)
  clear up10 U9
  go_wp2_with fail
  refine (BI.out _ U10.out).mono ?_
  rintro e w11 ⟨u, rfl, ho, up11⟩
  obtain ⟨ba, bc, rfl⟩ := ho.ones.slice
  have t2 : decide (((birthsL l).length : Int) ≤ (l.length : Int)) = true := by simp; omega
  have t2' : decide ((birthsL l).length ≤ l.length) = true := by simp; omega
  clear ho
  go_wp2_with fail
  go_ret
  exact ⟨by first | rfl | simp, U10.out.trans up11⟩
end Go.Proofs.Ythdheddfimeigaa
