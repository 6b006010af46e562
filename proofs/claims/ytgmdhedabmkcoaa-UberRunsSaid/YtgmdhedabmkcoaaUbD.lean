/- The uber of a sector: plain functions; uber.Read: the walk. -/
import Derived.Test.YtgmdhedabmkcoaaUbB
import Derived.Test.YtgmdhedabmkcoaaHeld
set_option linter.unusedSimpArgs false
set_option linter.unusedVariables false
namespace Go.Proofs.Ytgmdhedabmkcoaa
open Go.RowKit Go.Sort

theorem info_secU (x : Sec) : (Try.prog.info? 34).map (·.size) = some (secC x.val).size := by rw [secC_size, x.property]; exact info_sec
def zUb : UbD := ⟨0, 0, hole, 0, 0⟩
def ubOf (s : List UInt8) : UbD := ⟨numVal ((s.drop 4).take 8), numVal ((s.drop 12).take 8), ptrOf ((s.drop 20).take 16), (numVal ((s.drop 36).take 4) : Nat), (numVal ((s.drop 40).take 4) : Nat)⟩
def uread (s : List UInt8) : Option UbD := if rightU (ubOf s) = true ∧ ubBytes (ubOf s) = s then some (ubOf s) else none
def URead (s : List UInt8) (w : World) (e : Ending) (w' : World) : Prop := e = .returned (.tuple #[.agg (uC ((uread s).getD zUb)), .bool (uread s).isSome]) ∧ Up w w'
theorem ubOf_wf (s : List UInt8) : (ubOf s).wf := by
  have h1 := numVal_le (l := (s.drop 4).take 8) (k := 8) (by simp; omega)
  have h2 := numVal_le (l := (s.drop 12).take 8) (k := 8) (by simp; omega)
  have h3 := numVal_le (l := (s.drop 36).take 4) (k := 4) (by simp; omega)
  have h4 := numVal_le (l := (s.drop 40).take 4) (k := 4) (by simp; omega)
  have h5 := numVal_le (l := ((s.drop 20).take 16).take 4) (k := 4) (by simp; omega)
  have h6 := numVal_le (l := (((s.drop 20).take 16).drop 4).take 8) (k := 8) (by simp; omega)
  have h7 := numVal_le (l := ((s.drop 20).take 16).drop 12) (k := 4) (by simp; omega)
  unfold UbD.wf ubOf ptrOf PtrD.wf
  simp only
  omega
theorem built_ub (u : UbD) : Try.prog.built 27 [(0, .int .u64 (u.txg : Int)), (1, .int .u64 (u.stamp : Int)), (2, .agg (pcA u.tab)), (3, .int .i64 u.len), (4, .int .i64 u.sec)] = some (uC u) := by kernel_rfl
theorem built_ub0 : Try.prog.built 27 [] = some (uC zUb) := by kernel_rfl
theorem zero_ub : ∀ W : World, (zeroValue 27).run Try.prog W = .ok (.agg (uC zUb)) W :=
  (zero_of_info (P := Try.prog) (t := 27) (v := .agg (uC zUb)) (n := 7) (by kernel_rfl)).1
theorem uread_tab {s : List UInt8} (h : goodB (ptrOf ((s.drop 20).take 16)) = false) : uread s = none := by
  unfold uread
  rw [if_neg]
  intro hh
  have := ((rightU_iff _).1 hh.1).2.2.1.1
  unfold ubOf at this
  simp only at this
  rw [h] at this
  cases this
theorem getNums_88 {b : List UInt8} (h : b.length = 16) : getNums [8, 8] b = [numVal (b.take 8), numVal (b.drop 8)] := by
  show [numVal (b.take 8), numVal ((b.drop 8).take 8)] = _
  rw [List.take_of_length_le (l := b.drop 8) (by rw [List.length_drop]; omega)]
theorem getNums_44 {b : List UInt8} (h : b.length = 8) : getNums [4, 4] b = [numVal (b.take 4), numVal (b.drop 4)] := by
  show [numVal (b.take 4), numVal ((b.drop 4).take 4)] = _
  rw [List.take_of_length_le (l := b.drop 4) (by rw [List.length_drop]; omega)]

set_option maxRecDepth 100000 in
set_option maxHeartbeats 8000000 in
theorem uread_any (w : World) (s : List UInt8) (hs : s.length = 128) : Calls Try.prog 14 #[.agg (secC s)] w fun e w' => URead s w e w' := by
  have HS := Lib.hid hs
  have UA1 := up_alloc w (.cells (secC s) 34)
  have UA2 := up_alloc (w.alloc (.cells (secC s) 34)) (.cells (uC zUb) 27)
  have sz1 := sz_alloc w (.cells (secC s) 34)
  have B1 := Lib.hid ((Blk.new w 34 (secC s)).up UA2)
  have z1 := Blk.new (w.alloc (.cells (secC s) 34)) 27 (uC zUb)
  rw [sz1] at z1
  have Z1 := Lib.hid z1
  have U1 := Lib.hid (UA1.trans UA2)
  have BZ := Lib.hid built_ub0
  have HZI := Lib.hid (info_uV zUb)
  have HZ1 := Lib.hid (uC_one zUb)
  have SL1 : ∀ W, (Instr.sliceAt 34 (.pointer (some ⟨w.heap.size, 0, none⟩)) (some (.int .i64 4)) (some (.int .i64 20)) none).run Try.prog W = .ok (.slice (some ⟨w.heap.size, 4, none⟩) 16 124) W := fun W => slice_sec w.heap.size 4 20 4 20 rfl rfl (by omega) (by omega) (by omega) W
  have SL2 : ∀ W, (Instr.sliceAt 34 (.pointer (some ⟨w.heap.size, 0, none⟩)) (some (.int .i64 20)) (some (.int .i64 36)) none).run Try.prog W = .ok (.slice (some ⟨w.heap.size, 20, none⟩) 16 108) W := fun W => slice_sec w.heap.size 20 36 20 36 rfl rfl (by omega) (by omega) (by omega) W
  have SL3 : ∀ W, (Instr.sliceAt 34 (.pointer (some ⟨w.heap.size, 0, none⟩)) (some (.int .i64 36)) (some (.int .i64 44)) none).run Try.prog W = .ok (.slice (some ⟨w.heap.size, 36, none⟩) 8 92) W := fun W => slice_sec w.heap.size 36 44 36 44 rfl rfl (by omega) (by omega) (by omega) W
  clear hs UA1 UA2 sz1 z1
  go_enter Try.func14, Try.ntmps14
  go_wp2_with (first
    | ((with_reducible refine wg_alloc 27 ?_); refine wpList_alloc_blk rfl 27 rfl (uC zUb) zero_ub ?_))
  have GT1N : getNums [8, 8] ((s.drop 4).take 16) = [numVal ((s.drop 4).take 8), numVal ((s.drop 12).take 8)] := by
    rw [getNums_88 (by rw [List.length_take, List.length_drop, HS.out]; rfl), List.take_take, List.drop_take, List.drop_drop]
    rfl
  have GT1S : w.heap.size ≤ (((w.alloc (.cells (secC s) 34)).alloc (.cells (uC zUb) 27)).alloc (.cells #[.int .i64 8, .int .i64 8] 3)).heap.size := by rw [sz_alloc, sz_alloc, sz_alloc]; omega
  have GT1A := up_alloc ((w.alloc (.cells (secC s) 34)).alloc (.cells (uC zUb) 27)) (.cells #[.int .i64 8, .int .i64 8] 3)
  have GT1 := Lib.hid (show Calls Try.prog 40 #[.slice (some ⟨w.heap.size + 1 + 1, 0, none⟩) 2 2, .slice (some ⟨w.heap.size, 4, none⟩) 16 124] (((w.alloc (.cells (secC s) 34)).alloc (.cells (uC zUb) 27)).alloc (.cells #[.int .i64 8, .int .i64 8] 3)) (fun e w' => ∃ v, e = .returned (.tuple #[v, .int .i64 0]) ∧ Own u64Cell 22 w' w.heap.size v [numVal ((s.drop 4).take 8), numVal ((s.drop 12).take 8)] ∧ Up ((w.alloc (.cells (secC s) 34)).alloc (.cells (uC zUb) 27)) w') from by
    have i1 : IsOnes intCell _ (.slice (some ⟨w.heap.size + 1 + 1, 0, none⟩) 2 2) [8, 8] := IsOnes.litAt (f := intCell) ((w.alloc (.cells (secC s) 34)).alloc (.cells (uC zUb) 27)) (w.heap.size + 1 + 1) (by rw [sz_alloc, sz_alloc]) #[.int .i64 8, .int .i64 8] 3 (0, 0) [8, 8] 2 rfl (by unfold maxLen; omega) rfl
    have hb := blk_bytes ((B1.out).up GT1A) 4 16 124 (by rw [HS.out]; omega) (by omega) (by omega) (by omega)
    refine (get_any _ _ [8, 8] i1 (by simp) _ _ hb).mono fun e w' h => ?_
    rcases h with ⟨_, v, rfl, ho, hu⟩ | ⟨hno, _⟩
    · exact ⟨v, rfl, by rw [GT1N] at ho; exact ho.mono (GT1S), GT1A.trans hu⟩
    · refine absurd ⟨by unfold okWs; intro w hw; simp at hw; omega, ?_⟩ hno
      rw [List.length_take, List.length_drop, HS.out]; rfl)
  clear GT1A GT1N GT1S
  go_wp2_with (first
    | ((with_reducible refine wg_alloc 27 ?_); refine wpList_alloc_blk rfl 27 rfl (uC zUb) zero_ub ?_))
  refine GT1.out.mono ?_
  rintro e w3 ⟨v4, rfl, O4, U2⟩
  obtain ⟨g4, cap4, rfl, _, _, hc4, _, _⟩ := Own.row O4 (by simp)
  obtain ⟨tx, htx⟩ : ∃ n, n = numVal ((s.drop 4).take 8) := ⟨_, rfl⟩
  obtain ⟨st, hst⟩ : ∃ n, n = numVal ((s.drop 12).take 8) := ⟨_, rfl⟩
  have m0 : w3.cell? ⟨g4, 0, none⟩ = some (.int .u64 (tx : Int)) := by rw [htx]; exact hc4 0 (by simp)
  have m1 : w3.cell? ⟨g4, 1, none⟩ = some (.int .u64 (st : Int)) := by rw [hst]; exact hc4 1 (by simp)
  have HTX := Lib.hid htx
  have HST := Lib.hid hst
  have B3 := Lib.hid (B1.out.up U2)
  have Z3 := Lib.hid (Z1.out.up U2)
  have U3 := Lib.hid (U1.out.trans U2)
  have RD := Lib.hid (read_any w3 _ _ (blk_bytes B3.out 20 16 108 (by rw [HS.out]; omega) (by omega) (by omega) (by omega)))
  unfold PRead at RD
  clear GT1 hc4 O4 U2 B1 Z1 U1 htx hst
  (try simp only [List.length_cons, List.length_nil, Nat.zero_add, Nat.reduceAdd])
  go_wp2_with fail
  refine RD.out.mono ?_
  rintro e w4 (⟨root, hroot, rfl, U4⟩ | ⟨hbad, rfl, U4⟩)
  rotate_left
  · have HF := Lib.hid (show uread s = none from uread_tab (by
      unfold readB at hbad
      split at hbad
      · cases hbad
      · rename_i hh
        rw [← Bool.not_eq_true]
        exact fun hg => hh ⟨by rw [List.length_take, List.length_drop, HS.out]; rfl, hg⟩))
    have U4' := U4.trans (up_alloc w4 (.cells (pcA hole) 25))
    have Z5 := Lib.hid (Z3.out.up U4')
    have U5 := Lib.hid (U3.out.trans U4')
    clear hbad U4 U4' RD B3 Z3 U3 m0 m1
    unfold ptrV hole
    unfold pcA hole at Z5 U5
    go_wp2_with (first
      | ((with_reducible refine wg_build 27 #[] ?_); refine wpList_build0 rfl 27 rfl (uC zUb) BZ.out ?_)
      | ((with_reducible refine wg_store 27 (.tmp 2) (.tmp 26) ?_); refine wpList_store_blk rfl 27 (.tmp 2) (.tmp 26) rfl (w.heap.size + 1) (uC zUb) rfl rfl 27 (uC zUb) Z5.out HZI.out rfl HZ1.out ?_))
    intro w9 b9 g9
    have U9 := U5.out.below_trans (below_grown g9 (Nat.le_of_lt Z5.out.lt) (fun j hj => by cases hj; exact Nat.le_refl _)) (Nat.le_succ _)
    go_wp2_with fail
    (try simp only [Exit.inBlock, Exit.then])
    exact bodyPost_ret (v := .tuple #[.agg (uC zUb), .bool false]) (results_blk rfl _ _ _ (w.heap.size + 1) 27 _ _ rfl rfl b9 _ Try.underlying27 rfl HZI.out) rfl (by unfold URead; rw [HF.out]; exact ⟨rfl, U9⟩)
  have htab : ptrOf ((s.drop 20).take 16) = root := by
    unfold readB at hroot
    split at hroot
    · exact Option.some.inj hroot
    · cases hroot
  have HTB := Lib.hid htab
  have U4' := U4.trans (up_alloc w4 (.cells (pcA root) 25))
  have BR := Lib.hid (Blk.new w4 25 (pcA root))
  have B4 := Lib.hid (B3.out.up U4')
  have Z4 := Lib.hid (Z3.out.up U4')
  have U5 := Lib.hid (U3.out.trans U4')
  have m0' := U4'.cell m0
  have m1' := U4'.cell m1
  have GT2N : getNums [4, 4] ((s.drop 36).take 8) = [numVal ((s.drop 36).take 4), numVal ((s.drop 40).take 4)] := by
    rw [getNums_44 (by rw [List.length_take, List.length_drop, HS.out]; rfl), List.take_take, List.drop_take, List.drop_drop]
    rfl
  have GT2S : w.heap.size ≤ ((w4.alloc (.cells (pcA root) 25)).alloc (.cells #[.int .i64 4, .int .i64 4] 3)).heap.size := by have := (U5.out.trans (up_alloc _ (.cells #[.int .i64 4, .int .i64 4] 3))).size; exact this
  have GT2A := up_alloc (w4.alloc (.cells (pcA root) 25)) (.cells #[.int .i64 4, .int .i64 4] 3)
  have GT2 := Lib.hid (show Calls Try.prog 40 #[.slice (some ⟨w4.heap.size + 1, 0, none⟩) 2 2, .slice (some ⟨w.heap.size, 36, none⟩) 8 92] ((w4.alloc (.cells (pcA root) 25)).alloc (.cells #[.int .i64 4, .int .i64 4] 3)) (fun e w' => ∃ v, e = .returned (.tuple #[v, .int .i64 0]) ∧ Own u64Cell 22 w' w.heap.size v [numVal ((s.drop 36).take 4), numVal ((s.drop 40).take 4)] ∧ Up (w4.alloc (.cells (pcA root) 25)) w') from by
    have i1 : IsOnes intCell _ (.slice (some ⟨w4.heap.size + 1, 0, none⟩) 2 2) [4, 4] := IsOnes.litAt (f := intCell) (w4.alloc (.cells (pcA root) 25)) (w4.heap.size + 1) (by rw [sz_alloc]) #[.int .i64 4, .int .i64 4] 3 (0, 0) [4, 4] 2 rfl (by unfold maxLen; omega) rfl
    have hb := blk_bytes ((B4.out).up GT2A) 36 8 92 (by rw [HS.out]; omega) (by omega) (by omega) (by omega)
    refine (get_any _ _ [4, 4] i1 (by simp) _ _ hb).mono fun e w' h => ?_
    rcases h with ⟨_, v, rfl, ho, hu⟩ | ⟨hno, _⟩
    · exact ⟨v, rfl, by rw [GT2N] at ho; exact ho.mono (GT2S), GT2A.trans hu⟩
    · refine absurd ⟨by unfold okWs; intro w hw; simp at hw; omega, ?_⟩ hno
      rw [List.length_take, List.length_drop, HS.out]; rfl)
  clear GT2A GT2N GT2S hroot htab U4 U4' RD B3 Z3 U3 m0 m1
  obtain ⟨pl, pb, ps⟩ := root
  unfold ptrV
  unfold pcA at *
  simp only at *
  go_wp2_with fail
  refine GT2.out.mono ?_
  rintro e w5 ⟨v7, rfl, O7, U6⟩
  obtain ⟨g7, cap7, rfl, _, _, hc7, _, _⟩ := Own.row O7 (by simp)
  obtain ⟨ln, hln⟩ : ∃ n, n = numVal ((s.drop 36).take 4) := ⟨_, rfl⟩
  obtain ⟨sc, hsc⟩ : ∃ n, n = numVal ((s.drop 40).take 4) := ⟨_, rfl⟩
  have n0 : w5.cell? ⟨g7, 0, none⟩ = some (.int .u64 (ln : Int)) := by rw [hln]; exact hc7 0 (by simp)
  have n1 : w5.cell? ⟨g7, 1, none⟩ = some (.int .u64 (sc : Int)) := by rw [hsc]; exact hc7 1 (by simp)
  have hu : ubOf s = ⟨tx, st, ⟨pl, pb, ps⟩, (ln : Int), (sc : Int)⟩ := by
    unfold ubOf
    rw [HTB.out, ← HTX.out, ← HST.out, ← hln, ← hsc]
  have lnb : ln < 4294967296 := by have := numVal_le (l := (s.drop 36).take 4) (k := 4) (by simp; omega); omega
  have scb : sc < 4294967296 := by have := numVal_le (l := (s.drop 40).take 4) (k := 4) (by simp; omega); omega
  have wl := wrap_i64_nat ln (by omega)
  have ws := wrap_i64_nat sc (by omega)
  have UD : Up w5 w5.drew := (Up.refl w5).drew
  have U6d := U6.trans UD
  have B6 := Lib.hid (B4.out.up U6d)
  have Z6 := Lib.hid (Z4.out.up U6d)
  have BR6 := Lib.hid (BR.out.up U6d)
  have U7 := Lib.hid (U5.out.trans U6d)
  have i0 := U6d.cell m0'
  have i1 := U6d.cell m1'
  have i2 := UD.cell n0
  have i3 := UD.cell n1
  have HBT := Lib.hid (built_ub (ubOf s))
  have HUW := Lib.hid (ubOf_wf s)
  have HRD := Lib.hid (show uread s = if rightU (ubOf s) = true ∧ ubBytes (ubOf s) = s then some (ubOf s) else none from rfl)
  rw [hu] at HBT
  have HIP := Lib.hid (info_pcU ⟨pl, pb, ps⟩)
  unfold pcA at HBT HIP
  dsimp only at HBT
  obtain ⟨u, huu⟩ : ∃ x, x = ubOf s := ⟨_, rfl⟩
  rw [← huu] at HUW HRD hu
  rw [← hu] at HBT
  have HIU := Lib.hid (info_uV u)
  have HU1 := Lib.hid (uC_one u)
  clear hc7 O7 U6 U6d UD B4 Z4 BR U5 m0' m1' n0 n1 hln hsc hu huu lnb scb GT2 HTX HST HTB
  (try simp only [List.length_cons, List.length_nil, Nat.zero_add, Nat.reduceAdd])
  go_wp2_with fail
  refine wp_region_held (S := fun W => Up w5.drew W) (by kernel_rfl) ?_
  change wpAnyH _ _ _ _ _ 18 _ _ w5.drew
  generalize w5.drew = w6 at *
  (try simp only [Act.put, List.getElem_toArray, List.getElem_cons_succ, List.getElem_cons_zero, List.setIfInBounds_toArray, List.set_cons_zero, List.set_cons_succ])
  refine wpAnyH_take (i := 0) (v := .slice (some ⟨g4, 0, none⟩) 2 cap4) rfl (by kernel_rfl) (by kernel_rfl) (by kernel_rfl) (fun _ _ _ h => h) (yi_any rfl (fun _ => by go_simp)) (Up.refl _) ?_
  simp only [Act.put, List.getElem_toArray, List.getElem_cons_succ, List.getElem_cons_zero, List.setIfInBounds_toArray, List.set_cons_zero, List.set_cons_succ]
  refine wpAnyH_take (i := 1) (v := .pointer (some ⟨g4, 0, none⟩)) rfl (by kernel_rfl) (by kernel_rfl) (by kernel_rfl) (fun _ _ _ h => h) (yi_any rfl (fun _ => by go_simp)) (Up.refl _) ?_
  simp only [Act.put, List.getElem_toArray, List.getElem_cons_succ, List.getElem_cons_zero, List.setIfInBounds_toArray, List.set_cons_zero, List.set_cons_succ]
  refine wpAnyH_take (i := 2) (v := .int .u64 (tx : Int)) rfl (by kernel_rfl) (by kernel_rfl) (by kernel_rfl) (fun _ _ _ h => h) (yi_cell rfl 22 (.tmp 37) rfl ⟨g4, 0, none⟩ rfl (fun W hS => Up.cell hS i0) (fun _ => by kernel_rfl)) (Up.refl _) ?_
  simp only [Act.put, List.getElem_toArray, List.getElem_cons_succ, List.getElem_cons_zero, List.setIfInBounds_toArray, List.set_cons_zero, List.set_cons_succ]
  refine wpAnyH_take (i := 3) (v := .slice (some ⟨g4, 0, none⟩) 2 cap4) rfl (by kernel_rfl) (by kernel_rfl) (by kernel_rfl) (fun _ _ _ h => h) (yi_any rfl (fun _ => by go_simp)) (Up.refl _) ?_
  simp only [Act.put, List.getElem_toArray, List.getElem_cons_succ, List.getElem_cons_zero, List.setIfInBounds_toArray, List.set_cons_zero, List.set_cons_succ]
  refine wpAnyH_take (i := 4) (v := .pointer (some ⟨g4, 1, none⟩)) rfl (by kernel_rfl) (by kernel_rfl) (by kernel_rfl) (fun _ _ _ h => h) (yi_any rfl (fun _ => by go_simp)) (Up.refl _) ?_
  simp only [Act.put, List.getElem_toArray, List.getElem_cons_succ, List.getElem_cons_zero, List.setIfInBounds_toArray, List.set_cons_zero, List.set_cons_succ]
  refine wpAnyH_take (i := 5) (v := .int .u64 (st : Int)) rfl (by kernel_rfl) (by kernel_rfl) (by kernel_rfl) (fun _ _ _ h => h) (yi_cell rfl 22 (.tmp 40) rfl ⟨g4, 1, none⟩ rfl (fun W hS => Up.cell hS i1) (fun _ => by kernel_rfl)) (Up.refl _) ?_
  simp only [Act.put, List.getElem_toArray, List.getElem_cons_succ, List.getElem_cons_zero, List.setIfInBounds_toArray, List.set_cons_zero, List.set_cons_succ]
  refine wpAnyH_take (i := 6) (v := .agg #[.int .i64 pl, .int .u64 (pb : Int), .int .u32 (ps : Int)]) rfl (by kernel_rfl) (by kernel_rfl) (by kernel_rfl) (fun _ _ _ h => h) (yi_part rfl 25 (.tmp 6) rfl w4.heap.size 0 rfl #[.int .i64 pl, .int .u64 (pb : Int), .int .u32 (ps : Int)] (fun W hS => Up.range hS BR6.out.range) _ Try.underlying25 rfl HIP.out) (Up.refl _) ?_
  simp only [Act.put, List.getElem_toArray, List.getElem_cons_succ, List.getElem_cons_zero, List.setIfInBounds_toArray, List.set_cons_zero, List.set_cons_succ]
  refine wpAnyH_take (i := 7) (v := .slice (some ⟨g7, 0, none⟩) 2 cap7) rfl (by kernel_rfl) (by kernel_rfl) (by kernel_rfl) (fun _ _ _ h => h) (yi_any rfl (fun _ => by go_simp)) (Up.refl _) ?_
  simp only [Act.put, List.getElem_toArray, List.getElem_cons_succ, List.getElem_cons_zero, List.setIfInBounds_toArray, List.set_cons_zero, List.set_cons_succ]
  refine wpAnyH_take (i := 8) (v := .pointer (some ⟨g7, 0, none⟩)) rfl (by kernel_rfl) (by kernel_rfl) (by kernel_rfl) (fun _ _ _ h => h) (yi_any rfl (fun _ => by go_simp)) (Up.refl _) ?_
  simp only [Act.put, List.getElem_toArray, List.getElem_cons_succ, List.getElem_cons_zero, List.setIfInBounds_toArray, List.set_cons_zero, List.set_cons_succ]
  refine wpAnyH_take (i := 9) (v := .int .u64 (ln : Int)) rfl (by kernel_rfl) (by kernel_rfl) (by kernel_rfl) (fun _ _ _ h => h) (yi_cell rfl 22 (.tmp 44) rfl ⟨g7, 0, none⟩ rfl (fun W hS => Up.cell hS i2) (fun _ => by kernel_rfl)) (Up.refl _) ?_
  simp only [Act.put, List.getElem_toArray, List.getElem_cons_succ, List.getElem_cons_zero, List.setIfInBounds_toArray, List.set_cons_zero, List.set_cons_succ]
  refine wpAnyH_take (i := 10) (v := .int .i64 (ln : Int)) rfl (by kernel_rfl) (by kernel_rfl) (by kernel_rfl) (fun _ _ _ h => h) (yi_any rfl (fun _ => by go_simp)) (Up.refl _) ?_
  simp only [Act.put, List.getElem_toArray, List.getElem_cons_succ, List.getElem_cons_zero, List.setIfInBounds_toArray, List.set_cons_zero, List.set_cons_succ]
  refine wpAnyH_take (i := 11) (v := .slice (some ⟨g7, 0, none⟩) 2 cap7) rfl (by kernel_rfl) (by kernel_rfl) (by kernel_rfl) (fun _ _ _ h => h) (yi_any rfl (fun _ => by go_simp)) (Up.refl _) ?_
  simp only [Act.put, List.getElem_toArray, List.getElem_cons_succ, List.getElem_cons_zero, List.setIfInBounds_toArray, List.set_cons_zero, List.set_cons_succ]
  refine wpAnyH_take (i := 12) (v := .pointer (some ⟨g7, 1, none⟩)) rfl (by kernel_rfl) (by kernel_rfl) (by kernel_rfl) (fun _ _ _ h => h) (yi_any rfl (fun _ => by go_simp)) (Up.refl _) ?_
  simp only [Act.put, List.getElem_toArray, List.getElem_cons_succ, List.getElem_cons_zero, List.setIfInBounds_toArray, List.set_cons_zero, List.set_cons_succ]
  refine wpAnyH_take (i := 13) (v := .int .u64 (sc : Int)) rfl (by kernel_rfl) (by kernel_rfl) (by kernel_rfl) (fun _ _ _ h => h) (yi_cell rfl 22 (.tmp 48) rfl ⟨g7, 1, none⟩ rfl (fun W hS => Up.cell hS i3) (fun _ => by kernel_rfl)) (Up.refl _) ?_
  simp only [Act.put, List.getElem_toArray, List.getElem_cons_succ, List.getElem_cons_zero, List.setIfInBounds_toArray, List.set_cons_zero, List.set_cons_succ]
  refine wpAnyH_take (i := 14) (v := .int .i64 (sc : Int)) rfl (by kernel_rfl) (by kernel_rfl) (by kernel_rfl) (fun _ _ _ h => h) (yi_any rfl (fun _ => by go_simp)) (Up.refl _) ?_
  simp only [Act.put, List.getElem_toArray, List.getElem_cons_succ, List.getElem_cons_zero, List.setIfInBounds_toArray, List.set_cons_zero, List.set_cons_succ]
  refine wpAnyH_take (i := 15) (v := .agg (uC u)) rfl (by kernel_rfl) (by kernel_rfl) (by kernel_rfl) (fun _ _ _ h => h) (yi_build5 rfl 27 0 1 2 3 4 (.tmp 38) (.tmp 41) (.tmp 42) (.tmp 46) (.tmp 50) rfl _ _ _ _ _ _ HBT.out rfl rfl rfl rfl rfl) (Up.refl _) ?_
  simp only [Act.put, List.getElem_toArray, List.getElem_cons_succ, List.getElem_cons_zero, List.setIfInBounds_toArray, List.set_cons_zero, List.set_cons_succ]
  refine wpAnyH_oneK 16 (by kernel_rfl) rfl rfl ?_
  intro K hK
  refine wp_alloc_blk 27 rfl (uC zUb) zero_ub ?_
  refine hK _ _ (up_alloc _ _) ?_
  clear hK K
  simp only [Act.put, List.getElem_toArray, List.getElem_cons_succ, List.getElem_cons_zero, List.setIfInBounds_toArray, List.set_cons_zero, List.set_cons_succ]
  refine wpAnyH_oneK 17 (by kernel_rfl) rfl rfl ?_
  intro K hK
  refine wp_store_row 27 (.tmp 8) (.tmp 51) rfl w6.heap.size (uC u) rfl rfl 27 (uC zUb) (Blk.new w6 27 (uC zUb)) HIU.out rfl HU1.out ?_
  have BU := Lib.hid ((Blk.new w6 27 (uC zUb)).set (uC u))
  have UU := Lib.hid (Up.grown (up_alloc w6 (.cells (uC zUb) 27)) (grown_setRow (w6.alloc (.cells (uC zUb) 27)) w6.heap.size (uC u)) (fun k hk => by cases hk; exact Nat.le_refl _))
  refine hK _ _ UU.out ?_
  clear hK K
  simp only [Act.put, List.getElem_toArray, List.getElem_cons_succ, List.getElem_cons_zero, List.setIfInBounds_toArray, List.set_cons_zero, List.set_cons_succ]
  refine ⟨by kernel_rfl, ?_⟩
  generalize (w6.alloc (.cells (uC zUb) 27)).setRow w6.heap.size (uC u) = w7 at *
  have B7 := Lib.hid (B6.out.up UU.out)
  have Z7 := Lib.hid (Z6.out.up UU.out)
  have U8 := Lib.hid (U7.out.trans UU.out)
  have BY := Lib.hid (ubytes_any w7 u HUW.out)
  clear i0 i1 i2 i3 B6 Z6 BR6 U7 UU HBT HIP HUW wl ws
  (try simp only [Exit.then])
  go_wp2_with (first
    | ((with_reducible refine wg_load 27 (.tmp 8) ?_); refine wpList_load_blkG rfl 27 (.tmp 8) rfl w6.heap.size rfl 27 _ BU.out _ Try.underlying27 rfl HIU.out ?_))
  refine BY.out.mono ?_
  rintro e w8 ⟨rfl, U9⟩
  have VL := Lib.hid (ubV u).property
  have HVE := Lib.hid (show rightU u = true → (ubV u).val = ubBytes u from fun h => by unfold ubV; rw [if_pos h])
  have HIV := Lib.hid (info_secU (ubV u))
  have HO1 := Lib.hid (secC_one (ubV u).val)
  have HZV := Lib.hid (show (secC zeroS).size = (secC (ubV u).val).size by rw [secC_size, secC_size, (ubV u).property]; rfl)
  have UX := up_alloc w8 (.cells (secC (ubV u).val) 34)
  have BV := Lib.hid (Blk.new w8 34 (secC (ubV u).val))
  have B9 := Lib.hid (B7.out.up (U9.trans UX))
  have Z9 := Lib.hid (Z7.out.up (U9.trans UX))
  have BU9 := Lib.hid (BU.out.up (U9.trans UX))
  have U10 := Lib.hid (U8.out.trans (U9.trans UX))
  have HIS := Lib.hid (show (Try.prog.info? 34).map (·.size) = some (secC s).size by rw [secC_size, HS.out]; exact info_sec)
  have EQ := sec_eq (ubV u).val s (ubV u).property HS.out
  clear U9 UX B7 Z7 BU U8 BY
  cases hr : rightU u
  · have HF := Lib.hid (show uread s = none by rw [HRD.out, if_neg]; rintro ⟨h, _⟩; rw [hr] at h; cases h)
    have HE : ubE u = 61 := by unfold ubE; rw [hr]; rfl
    rw [HE]
    generalize (ubV u).val = V at *
    clear hr HE EQ HVE
    go_wp2_with (first
      | ((with_reducible refine wg_alloc 34 ?_); refine wpList_alloc_blk rfl 34 rfl (secC zeroS) zero_sec ?_)
      | ((with_reducible refine wg_store 34 (.tmp 9) (.tmp 55) ?_); refine ws_new w8 rfl 34 (.tmp 9) (.tmp 55) rfl (secC V) 34 (secC zeroS) rfl rfl rfl HIV.out HZV.out HO1.out ?_)
      | ((with_reducible refine wg_build 27 #[] ?_); refine wpList_build0 rfl 27 rfl (uC zUb) BZ.out ?_)
      | ((with_reducible refine wg_store 27 (.tmp 2) (.tmp 64) ?_); refine wpList_store_blk rfl 27 (.tmp 2) (.tmp 64) rfl (w.heap.size + 1) (uC zUb) rfl rfl 27 (uC zUb) Z9.out HZI.out rfl HZ1.out ?_))
    intro w9 b9 g9
    have U9 := U10.out.below_trans (below_grown g9 (Nat.le_of_lt Z9.out.lt) (fun j hj => by cases hj; exact Nat.le_refl _)) (Nat.le_succ _)
    go_wp2_with fail
    (try simp only [Exit.inBlock, Exit.then])
    exact bodyPost_ret (v := .tuple #[.agg (uC zUb), .bool false]) (results_blk rfl _ _ _ (w.heap.size + 1) 27 _ _ rfl rfl b9 _ Try.underlying27 rfl HZI.out) rfl (by unfold URead; rw [HF.out]; exact ⟨rfl, U9⟩)
  have hve := HVE.out hr
  have HE : ubE u = 0 := by unfold ubE; rw [if_pos hr]
  rw [HE]
  by_cases hb : ubBytes u = s
  rotate_left
  · have HF := Lib.hid (show uread s = none by rw [HRD.out, if_neg]; rintro ⟨_, h⟩; exact hb h)
    rw [hve, decide_eq_false hb, ← hve] at EQ
    generalize (ubV u).val = V at *
    clear hr HE HVE hve hb
    go_wp2_with (first
      | ((with_reducible refine wg_alloc 34 ?_); refine wpList_alloc_blk rfl 34 rfl (secC zeroS) zero_sec ?_)
      | ((with_reducible refine wg_store 34 (.tmp 9) (.tmp 55) ?_); refine ws_new w8 rfl 34 (.tmp 9) (.tmp 55) rfl (secC V) 34 (secC zeroS) rfl rfl rfl HIV.out HZV.out HO1.out ?_)
      | ((with_reducible refine wg_load 34 (.tmp 9) ?_); refine wpList_load_blkG rfl 34 (.tmp 9) rfl w8.heap.size rfl 34 _ BV.out _ Try.underlying34 rfl HIV.out ?_)
      | ((with_reducible refine wg_load 34 (.tmp 1) ?_); refine wpList_load_blkG rfl 34 (.tmp 1) rfl w.heap.size rfl 34 _ B9.out _ Try.underlying34 rfl HIS.out ?_)
      | ((with_reducible refine wg_build 27 #[] ?_); refine wpList_build0 rfl 27 rfl (uC zUb) BZ.out ?_)
      | ((with_reducible refine wg_store 27 (.tmp 2) (.tmp 64) ?_); refine wpList_store_blk rfl 27 (.tmp 2) (.tmp 64) rfl (w.heap.size + 1) (uC zUb) rfl rfl 27 (uC zUb) Z9.out HZI.out rfl HZ1.out ?_))
    intro w9 b9 g9
    have U9 := U10.out.below_trans (below_grown g9 (Nat.le_of_lt Z9.out.lt) (fun j hj => by cases hj; exact Nat.le_refl _)) (Nat.le_succ _)
    go_wp2_with fail
    (try simp only [Exit.inBlock, Exit.then])
    exact bodyPost_ret (v := .tuple #[.agg (uC zUb), .bool false]) (results_blk rfl _ _ _ (w.heap.size + 1) 27 _ _ rfl rfl b9 _ Try.underlying27 rfl HZI.out) rfl (by unfold URead; rw [HF.out]; exact ⟨rfl, U9⟩)
  have HF := Lib.hid (show uread s = some u by rw [HRD.out, if_pos ⟨hr, hb⟩])
  rw [hve, decide_eq_true hb, ← hve] at EQ
  generalize (ubV u).val = V at *
  clear hr HE HVE hve hb
  go_wp2_with (first
    | ((with_reducible refine wg_alloc 34 ?_); refine wpList_alloc_blk rfl 34 rfl (secC zeroS) zero_sec ?_)
    | ((with_reducible refine wg_store 34 (.tmp 9) (.tmp 55) ?_); refine ws_new w8 rfl 34 (.tmp 9) (.tmp 55) rfl (secC V) 34 (secC zeroS) rfl rfl rfl HIV.out HZV.out HO1.out ?_)
    | ((with_reducible refine wg_load 34 (.tmp 9) ?_); refine wpList_load_blkG rfl 34 (.tmp 9) rfl w8.heap.size rfl 34 _ BV.out _ Try.underlying34 rfl HIV.out ?_)
    | ((with_reducible refine wg_load 34 (.tmp 1) ?_); refine wpList_load_blkG rfl 34 (.tmp 1) rfl w.heap.size rfl 34 _ B9.out _ Try.underlying34 rfl HIS.out ?_)
    | ((with_reducible refine wg_load 27 (.tmp 8) ?_); refine wpList_load_blkG rfl 27 (.tmp 8) rfl w6.heap.size rfl 27 _ BU9.out _ Try.underlying27 rfl HIU.out ?_)
    | ((with_reducible refine wg_store 27 (.tmp 2) (.tmp 65) ?_); refine wpList_store_blk rfl 27 (.tmp 2) (.tmp 65) rfl (w.heap.size + 1) (uC u) rfl rfl 27 (uC zUb) Z9.out HIU.out rfl HU1.out ?_))
  intro w9 b9 g9
  have U11 := U10.out.below_trans (below_grown g9 (Nat.le_of_lt Z9.out.lt) (fun j hj => by cases hj; exact Nat.le_refl _)) (Nat.le_succ _)
  go_wp2_with fail
  (try simp only [Exit.inBlock, Exit.then])
  exact bodyPost_ret (v := .tuple #[.agg (uC u), .bool true]) (results_blk rfl _ _ _ (w.heap.size + 1) 27 _ _ rfl rfl b9 _ Try.underlying27 rfl HIU.out) rfl (by unfold URead; rw [HF.out]; exact ⟨rfl, U11⟩)

end Go.Proofs.Ytgmdhedabmkcoaa
