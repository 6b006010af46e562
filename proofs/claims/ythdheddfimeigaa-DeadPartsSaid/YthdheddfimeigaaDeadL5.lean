/- DeadTurns: the walk. -/
import Derived.Test.YthdheddfimeigaaDeadL4
set_option linter.unusedSimpArgs false
namespace Go.Proofs.Ythdheddfimeigaa
open Go.RowKit Go.Sort

theorem MergePost.two {o : Option (List PtrD)} {w w' : World} {e : Ending} (h : MergePost o w e w') : AddPost2 (o.getD []) (if o = none then 131 else 0) w e w' := by
  rcases h with ⟨rfl, h1, h2⟩ | ⟨m, u, rfl, h1, h2, h3⟩
  · exact ⟨_, h1, IsRow.nil _ _, h2⟩
  · exact ⟨u, by rw [h1]; rfl, OwnRow.row h2 pw, h3⟩

set_option maxHeartbeats 8000000 in
theorem deadTurns_walk (w : World) (v : Value) (a : List PtrD) (hv : IsPtrs w v a) (hr : a.length * 24 ≤ 140737488351232) (_hq : ∀ x ∈ a, x.wf) (v2 : Value) (b : List PtrD) (hv2 : IsPtrs w v2 b) (hr2 : b.length * 24 ≤ 140737488351232) (_hq2 : ∀ x ∈ b, x.wf) :
    Calls Try.prog 7 #[v, v2] w fun e w' => e = .returned (.bool true) ∧ Up w w' := by
  have RA := Lib.hid (fun W (up : Up w W) => lright_any W v a (IsRow.up hv up))
  have RB := Lib.hid (fun W (up : Up w W) => lright_any W v2 b (IsRow.up hv2 up))
  cases hA : rightB a
  case false =>
    rw [hA] at RA
    go_enter Try.func7, Try.ntmps7
    go_wp2_with fail
    refine (alive_any _).mono ?_
    rintro e w1 ⟨rfl, up1⟩
    go_wp2_with fail
    refine (RA.out _ up1).mono ?_
    rintro e w2 ⟨rfl, up2⟩
    go_wp2_with fail
    go_ret
    exact ⟨rfl, up1.trans up2⟩
  cases hB : rightB b
  case false =>
    rw [hA] at RA
    rw [hB] at RB
    go_enter Try.func7, Try.ntmps7
    go_wp2_with fail
    refine (alive_any _).mono ?_
    rintro e w1 ⟨rfl, up1⟩
    go_wp2_with fail
    refine (RA.out _ up1).mono ?_
    rintro e w2 ⟨rfl, up2⟩
    go_wp2_with fail
    refine (RB.out _ (up1.trans up2)).mono ?_
    rintro e w3 ⟨rfl, up3⟩
    go_wp2_with fail
    go_ret
    exact ⟨rfl, up1.trans (up2.trans up3)⟩
  rw [hA] at RA
  rw [hB] at RB
  obtain ⟨pa, fa⟩ := (right_iff a).1 hA
  obtain ⟨pb, fb⟩ := (right_iff b).1 hB
  obtain ⟨M, hM⟩ : ∃ M, M = (mergeF a b).getD [] := ⟨_, rfl⟩
  obtain ⟨c, hcc⟩ : ∃ c : Int, c = (if mergeF a b = none then 131 else 0) := ⟨_, rfl⟩
  have M1 := Lib.hid (show ∀ W, Up w W → Calls Try.prog 21 #[v, v2] W fun e w' => AddPost2 M c W e w' from fun W up => by
    rw [hM, hcc]
    exact (merge_any W v v2 a b (IsRow.up hv up) (IsRow.up hv2 up) (by omega)).mono fun e w' h => MergePost.two h)
  have M2 := Lib.hid (show ∀ W, Up w W → Calls Try.prog 21 #[v2, v] W fun e w' => AddPost2 M c W e w' from fun W up => by
    rw [hM, hcc, merge_comm _ a b (Nat.le_refl _)]
    exact (merge_any W v2 v b a (IsRow.up hv2 up) (IsRow.up hv up) (by omega)).mono fun e w' h => MergePost.two h)
  have HC1 := Lib.hid (show mergeF a b = none → c = 131 from fun h => by rw [hcc, if_pos h])
  have HC2 := Lib.hid (show ∀ z, mergeF a b = some z → c = 0 ∧ M = z from fun z h => by rw [hcc, hM, h]; simp)
  have SM := Lib.hid (show ∀ W u u' m, IsPtrs W u m → IsPtrs W u' m → Calls Try.prog 18 #[u, u'] W fun e w' => BoolUp true W e w' from fun W u u' m h h' => by
    have := same_any W u u' m m h h'
    rw [show decide (m = m) = true by simp] at this
    exact this)
  unfold AddPost2 at M1 M2
  have cc : (c != c) = false := by simp
  have PA := Lib.hid pa
  have PB := Lib.hid pb
  have FB := Lib.hid fb
  have ST := Lib.hid (TurnInv.start (b := b) pa fa)
  have HV := Lib.hid hv
  have HV2 := Lib.hid hv2
  clear hM hcc hA hB pa fa pb fb hv hv2
  obtain ⟨ab, cb, rfl⟩ := HV2.out.slice
  go_enter Try.func7, Try.ntmps7
  go_wp2_with fail
  refine (alive_any _).mono ?_
  rintro e w1 ⟨rfl, up1⟩
  have U1 := Lib.hid up1
  clear up1
  go_wp2_with fail
  refine (RA.out _ U1.out).mono ?_
  rintro e w2 ⟨rfl, up2⟩
  have U2 := Lib.hid (U1.out.trans up2)
  clear up2 U1
  go_wp2_with fail
  refine (RB.out _ U2.out).mono ?_
  rintro e w3 ⟨rfl, up3⟩
  have U3 := Lib.hid (U2.out.trans up3)
  clear up3 U2
  go_wp2_with fail
  refine (M1.out _ U3.out).mono ?_
  rintro e w4 ⟨x, rfl, hx, up4⟩
  have U4 := Lib.hid (U3.out.trans up4)
  have X4 := Lib.hid hx
  clear up4 U3 hx
  go_wp2_with fail
  refine (M2.out _ U4.out).mono ?_
  rintro e w5 ⟨y, rfl, hy, up5⟩
  have U5 := Lib.hid (U4.out.trans up5)
  have X5 := Lib.hid (IsRow.up X4.out up5)
  have Y5 := Lib.hid hy
  clear up5 U4 hy X4
  go_wp2_with fail
  refine (SM.out _ _ _ _ X5.out Y5.out).mono ?_
  rintro e w6 ⟨rfl, up6⟩
  have U6 := Lib.hid (U5.out.trans up6)
  have X6 := Lib.hid (IsRow.up X5.out up6)
  clear up6 U5 X5 Y5
  have hv6 := IsRow.up HV.out U6.out
  go_wp2_with (at_builtin; refine wpList_fresh_row pw rfl (.tmp 45) (.tmp 46) 22 rfl 29 (.agg #[.int .i64 0, .int .u64 0, .int .u32 0]) 24 Try.underlying22 info_ptr rfl w6.heap.size rfl rfl v a rfl hv6 (by omega) ?_)
  intro z0 w7 hown up7
  have U7 := Lib.hid (U6.out.trans up7)
  have X7 := Lib.hid (IsRow.up X6.out up7)
  have Z7 := Lib.hid (OwnRow.row hown pw)
  clear hown up7 U6 hv6 X6
  go_wp2_with fail
  go_loopw [9, 50] (fun u i wr => ∃ (k : Nat) (z : List PtrD), k ≤ b.length ∧ i = .int .i64 k ∧ IsPtrs wr u z ∧ TurnInv a b z k ∧ Up w7 wr) (fun _ i _ => b.length - (intOf i).toNat)
  case atStart => exact ⟨0, a, Nat.zero_le _, rfl, Z7.out, ST.out, Up.refl _⟩
  case round =>
    obtain ⟨k, z, hk, rfl, hz, hti, upr⟩ := hrel
    have HTI := Lib.hid hti
    have HZ := Lib.hid hz
    clear hti hz
    by_cases hlt : k < b.length
    · obtain ⟨bb, off, rfl, _, _, hc⟩ := ptrs_at (IsRow.up HV2.out (U7.out.trans upr)) (by omega)
      have hc0 := (hc k hlt).1
      have hc1 := (hc k hlt).2.1
      have hc2 := (hc k hlt).2.2
      have b2 : ((k : Int) < (b.length : Int)) = True := by simp; omega
      have upa := up_alloc wr (.cells #[.int .i64 b[k].loc, .int .u64 (b[k].birth : Int), .int .u32 (b[k].sum : Int)] 29)
      have AD := Lib.hid (show ∀ W u, IsPtrs W u z → Calls Try.prog 10 #[u, .agg #[.int .i64 b[k].loc, .int .u64 (b[k].birth : Int), .int .u32 (b[k].sum : Int)]] W fun e w' => AddPost (addO z b[k]) W e w' from fun W u h => add_any W u z h (pw_sorted.1 HTI.out.pw) b[k] (by have := HTI.out.len; omega))
      have hzz := IsRow.up HZ.out upa
      have HZZ := Lib.hid hzz
      rcases HTI.out.step PB.out FB.out hlt with ⟨h1, h2⟩ | ⟨h1, m, h2, h3⟩
      · have hno := merge_in PA.out PB.out h1 (List.getElem_mem hlt)
        have hc131 := HC1.out hno
        rw [h2] at AD
        unfold AddPost at AD
        subst hc131
        clear h1 h2 hno hzz cc hc
        go_wp2_with fail
        refine (AD.out _ _ HZZ.out).mono ?_
        rintro e w8 ⟨rfl, up8⟩
        go_wp2_with fail
        go_ret
        exact ⟨rfl, U7.out.trans (upr.trans (upa.trans up8))⟩
      · rw [h2] at AD
        unfold AddPost at AD
        have HN := Lib.hid h3
        clear h1 h2 h3 hzz hc
        go_wp2_with fail
        refine (AD.out _ _ HZZ.out).mono ?_
        rintro e w8 ⟨u8, rfl, ho8, up8⟩
        have hz8 := OwnRow.row ho8 pw
        have HZ8 := Lib.hid hz8
        clear ho8 hz8
        go_wp2_with fail
        go_roundw
        case rel => exact ⟨k + 1, m, by omega, by go_num, HZ8.out, HN.out, upr.trans (upa.trans up8)⟩
        case measure => simp [intOf]; omega
    · obtain rfl : k = b.length := by omega
      have hme := HTI.out.end PA.out PB.out
      obtain ⟨hc0, hMz⟩ := HC2.out z hme
      subst hc0 hMz
      have hrz : rightB M = true := (right_iff M).2 ⟨HTI.out.pw, HTI.out.fit⟩
      have RZ := Lib.hid (fun W u (h : IsPtrs W u M) => lright_any W u M h)
      rw [hrz] at RZ
      clear hme hrz cc
      go_wp2_with fail
      refine (SM.out _ _ _ _ HZ.out (IsRow.up X7.out upr)).mono ?_
      rintro e w8 ⟨rfl, up8⟩
      go_wp2_with fail
      refine (RZ.out _ _ (IsRow.up HZ.out up8)).mono ?_
      rintro e w9 ⟨rfl, up9⟩
      go_wp2_with fail
      go_ret
      exact ⟨rfl, U7.out.trans (upr.trans (up8.trans up9))⟩
end Go.Proofs.Ythdheddfimeigaa
