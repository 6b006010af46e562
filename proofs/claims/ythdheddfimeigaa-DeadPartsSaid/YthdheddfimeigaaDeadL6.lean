/- DeadMerges: the walk (lists of at most 1048576). -/
import Derived.Test.YthdheddfimeigaaDeadN
import Derived.Test.YthdheddfimeigaaDeadL5
set_option linter.unusedSimpArgs false
namespace Go.Proofs.Ythdheddfimeigaa
open Go.RowKit Go.Sort

theorem RMPost.two {o : Option (List PtrD)} {w w' : World} {e : Ending} (h : RMPost o w e w') : AddPost2 (o.getD []) (if o = none then 131 else 0) w e w' := by
  rcases h with ⟨rfl, h1, h2⟩ | ⟨m, u, rfl, h1, h2, h3⟩
  · exact ⟨_, h1, IsRow.nil _ _, h2⟩
  · exact ⟨u, by rw [h1]; rfl, h2, h3⟩

set_option maxHeartbeats 8000000 in
theorem deadMerges_walk (w : World) (v : Value) (a : List PtrD) (hv : IsPtrs w v a) (hr : a.length ≤ 1048576) (_hq : ∀ x ∈ a, x.wf) (v2 : Value) (b : List PtrD) (hv2 : IsPtrs w v2 b) (hr2 : b.length ≤ 1048576) (_hq2 : ∀ x ∈ b, x.wf) :
    Calls Try.prog 6 #[v, v2] w fun e w' => e = .returned (.bool true) ∧ Up w w' := by
  have RA := Lib.hid (fun W (up : Up w W) => rright_any W v a (IsRow.up hv up))
  have RB := Lib.hid (fun W (up : Up w W) => rright_any W v2 b (IsRow.up hv2 up))
  cases hA : rightB a
  case false =>
    rw [hA] at RA
    go_enter Try.func6, Try.ntmps6
    go_wp2_with fail
    refine (alive_any _).mono ?_
    rintro e w1 ⟨rfl, up1⟩
    go_wp2_with fail
    refine (RA.out _ up1).mono ?_
    rintro e w2 ⟨rfl, up2⟩
    go_wp2_with fail
    go_ret
    exact ⟨rfl, up1.trans up2⟩
  cases hB : rightB b
  case false =>
    rw [hA] at RA
    rw [hB] at RB
    go_enter Try.func6, Try.ntmps6
    go_wp2_with fail
    refine (alive_any _).mono ?_
    rintro e w1 ⟨rfl, up1⟩
    go_wp2_with fail
    refine (RA.out _ up1).mono ?_
    rintro e w2 ⟨rfl, up2⟩
    go_wp2_with fail
    refine (RB.out _ (up1.trans up2)).mono ?_
    rintro e w3 ⟨rfl, up3⟩
    go_wp2_with fail
    go_ret
    exact ⟨rfl, up1.trans (up2.trans up3)⟩
  rw [hA] at RA
  rw [hB] at RB
  obtain ⟨pa, fa⟩ := (right_iff a).1 hA
  obtain ⟨pb, fb⟩ := (right_iff b).1 hB
  obtain ⟨M, hM⟩ : ∃ M, M = (mergeF a b).getD [] := ⟨_, rfl⟩
  obtain ⟨c, hcc⟩ : ∃ c : Int, c = (if mergeF a b = none then 131 else 0) := ⟨_, rfl⟩
  have M1 := Lib.hid (show ∀ W u u', IsPtrs W u a → IsPtrs W u' b → Calls Try.prog 21 #[u, u'] W fun e w' => AddPost2 M c W e w' from fun W u u' h h' => by
    rw [hM, hcc]
    exact (merge_any W u u' a b h h' (by omega)).mono fun e w' h => MergePost.two h)
  have M2 := Lib.hid (show ∀ W, Up w W → Calls Try.prog 22 #[v, v2] W fun e w' => AddPost2 M c W e w' from fun W up => by
    rw [hM, hcc]
    exact (rmerge_any W v v2 a b (IsRow.up hv up) (IsRow.up hv2 up) pa fa pb fb (by omega)).mono fun e w' h => RMPost.two h)
  have SM := Lib.hid (show ∀ W u u' m, IsPtrs W u m → IsPtrs W u' m → Calls Try.prog 18 #[u, u'] W fun e w' => BoolUp true W e w' from fun W u u' m h h' => by
    have := same_any W u u' m m h h'
    rw [show decide (m = m) = true by simp] at this
    exact this)
  unfold AddPost2 at M1 M2
  have HV := Lib.hid hv
  have HV2 := Lib.hid hv2
  have cc : (c == c) = true := by simp
  clear hM hcc hA hB pa fa pb fb hv hv2
  go_enter Try.func6, Try.ntmps6
  go_wp2_with fail
  refine (alive_any _).mono ?_
  rintro e w1 ⟨rfl, up1⟩
  have U1 := Lib.hid up1
  clear up1
  go_wp2_with fail
  refine (RA.out _ U1.out).mono ?_
  rintro e w2 ⟨rfl, up2⟩
  have U2 := Lib.hid (U1.out.trans up2)
  clear up2 U1
  go_wp2_with fail
  refine (RB.out _ U2.out).mono ?_
  rintro e w3 ⟨rfl, up3⟩
  have U3 := Lib.hid (U2.out.trans up3)
  clear up3 U2
  have hv3 := IsRow.up HV.out U3.out
  go_wp2_with (at_builtin; refine wpList_fresh_row pw rfl (.tmp 20) (.tmp 21) 22 rfl 29 (.agg #[.int .i64 0, .int .u64 0, .int .u32 0]) 24 Try.underlying22 info_ptr rfl w3.heap.size rfl rfl v a rfl hv3 (by omega) ?_)
  intro z0 w4 hown up4
  have U4 := Lib.hid (U3.out.trans up4)
  have Z4 := Lib.hid (OwnRow.row hown pw)
  clear hown up4 U3 hv3
  have hv4 := IsRow.up HV2.out U4.out
  go_wp2_with (at_builtin; refine wpList_fresh_row pw rfl (.tmp 23) (.tmp 24) 22 rfl 29 (.agg #[.int .i64 0, .int .u64 0, .int .u32 0]) 24 Try.underlying22 info_ptr rfl w4.heap.size rfl rfl v2 b rfl hv4 (by omega) ?_)
  intro z1 w5 hown up5
  have U5 := Lib.hid (U4.out.trans up5)
  have Z5 := Lib.hid (IsRow.up Z4.out up5)
  have Y5 := Lib.hid (OwnRow.row hown pw)
  clear hown up5 U4 hv4 Z4
  go_wp2_with fail
  refine (M1.out _ _ _ Z5.out Y5.out).mono ?_
  rintro e w6 ⟨x, rfl, hx, up6⟩
  have U6 := Lib.hid (U5.out.trans up6)
  have X6 := Lib.hid hx
  clear up6 U5 hx Z5 Y5
  go_wp2_with fail
  refine (M2.out _ U6.out).mono ?_
  rintro e w7 ⟨y, rfl, hy, up7⟩
  have U7 := Lib.hid (U6.out.trans up7)
  have X7 := Lib.hid (IsRow.up X6.out up7)
  have Y7 := Lib.hid hy
  clear up7 U6 hy X6
  go_wp2_with fail
  refine (SM.out _ _ _ _ X7.out Y7.out).mono ?_
  rintro e w8 ⟨rfl, up8⟩
  go_wp2_with fail
  go_ret
  exact ⟨rfl, U7.out.trans up8⟩
end Go.Proofs.Ythdheddfimeigaa
