/- The uber of a sector: the document's walk. -/
import Derived.Test.YtgmdhedabmkcoaaUbL
import Derived.Test.YtgmdhedabmkcoaaPtrS
set_option linter.unusedSimpArgs false
set_option linter.unusedVariables false
namespace Go.Proofs.Ytgmdhedabmkcoaa
open Go.RowKit Go.Sort

section
variable {α : Type} {P : Program}
/-- wpList_fresh_ones, the new row's number as the walk writes it. -/
theorem wpList_fresh_onesG (f : α → Value) (hf : ∀ x, (f x).oneCell' = true) {w : World} {ops : Array Oper} {rest : List Oper} {o : Oper} {a : Act} {Q : Exit → Act → World → Prop} (hgd : o.guard = none) (s x : Operand) (t : TypeId)
    (ho : o.op = .call { callee := .builtin .append, args := #[s, x], argTypes := #[t, t] })
    (e : TypeId) (z : Value) (bytes : Nat) (ht : P.underlying t = some (.slice e)) (hinfo : (P.info? e).map (fun i => (i.zero, i.size, i.bytes)) = some (some z, 1, bytes)) (hzs : z.cells.size = 1)
    (g : Nat) (hg : g = w.heap.size) (hs : a.eval s = .slice (some ⟨g, 0, none⟩) 0 0) (vx : Value) (ys : List α) (hx : a.eval x = vx) (hsrc : IsOnes f w vx ys)
    (hbytes : ys.length * bytes ≤ 140737488355328)
    (h : ∀ v' w', Own f e w' w.heap.size v' ys → Up w w' → wpList P ops Q rest (a.put o.dst v') w') : wpList P ops Q (o :: rest) a (w.alloc (.cells #[] e)) := by
  subst hg
  exact wpList_fresh_ones f hf hgd s x t ho e z bytes ht hinfo hzs hs vx ys hx hsrc hbytes h
end
section
variable {P : Program} {ops : Array Oper} {S : World → Prop} {o o2 : Oper} {a : Act}
theorem wpAnyH_twoK {Q : Exit → Act → World → Prop} {md : Region.Mode} {fuel : Nat} {listed : Array Bool} {w : World} (i j : Nat) (hr : Region.ready md ops listed = [i, j]) (hi : ops[i]? = some o) (hj : ops[j]? = some o2) (hw : Region.wanted o (yielded ops a.tmps) = true) (hw2 : Region.wanted o2 (yielded ops a.tmps) = true)
    (h : ∀ K : Act → World → Prop, (∀ a w, S w → wpAnyH P md ops Q S fuel (listed.setIfInBounds i true) a w → K a w) → o.wp P a w K Q)
    (h2 : ∀ K : Act → World → Prop, (∀ a w, S w → wpAnyH P md ops Q S fuel (listed.setIfInBounds j true) a w → K a w) → o2.wp P a w K Q) : wpAnyH P md ops Q S (fuel + 1) listed a w :=
  wpAnyH_all hr (by simp) (fun k hk => by
    simp at hk
    rcases hk with rfl | rfl
    · exact wpOp_someH hi hw (h _ fun _ _ h1 h2 => ⟨h1, h2⟩)
    · exact wpOp_someH hj hw2 (h2 _ fun _ _ h1 h2 => ⟨h1, h2⟩))
end
set_option maxRecDepth 100000 in
set_option maxHeartbeats 8000000 in
theorem urefRead_any (w : World) (s : List UInt8) (hs : s.length = 128) : Calls Try.prog 15 #[.agg (secC s)] w fun e w' => URead s w e w' := by
  have HS := Lib.hid hs
  have UA1 := up_alloc w (.cells (secC s) 34)
  have UA2 := up_alloc (w.alloc (.cells (secC s) 34)) (.cells (uC zUb) 27)
  have sz1 := sz_alloc w (.cells (secC s) 34)
  have B1 := Lib.hid ((Blk.new w 34 (secC s)).up UA2)
  have z1 := Blk.new (w.alloc (.cells (secC s) 34)) 27 (uC zUb)
  rw [sz1] at z1
  have Z1 := Lib.hid z1
  have U1 := Lib.hid (UA1.trans UA2)
  have BZ := Lib.hid built_ub0
  have HZI := Lib.hid (info_uV zUb)
  have HZ1 := Lib.hid (uC_one zUb)
  have SL0 : ∀ W, (Instr.sliceAt 34 (.pointer (some ⟨w.heap.size, 0, none⟩)) (some (.int .i64 20)) (some (.int .i64 36)) none).run Try.prog W = .ok (.slice (some ⟨w.heap.size, 20, none⟩) 16 108) W := fun W => slice_sec w.heap.size 20 36 20 36 rfl rfl (by omega) (by omega) (by omega) W
  have PB := Lib.hid (blk_bytes B1.out 20 16 108 (by rw [HS.out]; omega) (by omega) (by omega) (by omega))
  have PN := Lib.hid (show ((s.drop 20).take 16).length = 16 by rw [List.length_take, List.length_drop, HS.out]; rfl)
  clear hs UA1 UA2 sz1 z1
  go_enter Try.func15, Try.ntmps15
  go_wp2_with (first
    | ((with_reducible refine wg_alloc 27 ?_); refine wpList_alloc_blk rfl 27 rfl (uC zUb) zero_ub ?_)
    | (at_builtin; refine wpList_fresh_onesG byteCell byteCell_one rfl (.tmp 10) (.tmp 11) 76 rfl 5 (.int .u8 0) 1 Try.underlying76 info_u8 rfl (w.heap.size + 1 + 1) (by rw [sz_alloc, sz_alloc]) rfl _ ((s.drop 20).take 16) rfl PB.out (by rw [PN.out]; omega) ?_))
  intro v3 w3 ho3 up3
  have B3 := Lib.hid (B1.out.up up3)
  have Z3 := Lib.hid (Z1.out.up up3)
  have U3 := Lib.hid (U1.out.trans up3)
  have RD := Lib.hid (refRead_any w3 v3 _ ho3.ones)
  unfold PRead at RD
  clear SL0 PB ho3 up3 B1 Z1 U1
  go_wp2_with fail
  refine RD.out.mono ?_
  rintro e w4 (⟨root, hroot, rfl, U4⟩ | ⟨hbad, rfl, U4⟩)
  rotate_left
  · have HF := Lib.hid (show uread s = none from uread_tab (by
      unfold readB at hbad
      split at hbad
      · cases hbad
      · rename_i hh
        rw [← Bool.not_eq_true]
        exact fun hg => hh ⟨PN.out, hg⟩))
    have U4' := U4.trans (up_alloc w4 (.cells (pcA hole) 25))
    have Z5 := Lib.hid (Z3.out.up U4')
    have U5 := Lib.hid (U3.out.trans U4')
    clear hbad U4 U4' RD B3 Z3 U3
    unfold ptrV hole
    unfold pcA hole at Z5 U5
    go_wp2_with (first
      | ((with_reducible refine wg_build 27 #[] ?_); refine wpList_build0 rfl 27 rfl (uC zUb) BZ.out ?_)
      | ((with_reducible refine wg_store 27 (.tmp 2) (.tmp 18) ?_); refine wpList_store_blk rfl 27 (.tmp 2) (.tmp 18) rfl (w.heap.size + 1) (uC zUb) rfl rfl 27 (uC zUb) Z5.out HZI.out rfl HZ1.out ?_))
    intro w9 b9 g9
    have U9 := U5.out.below_trans (below_grown g9 (Nat.le_of_lt Z5.out.lt) (fun j hj => by cases hj; exact Nat.le_refl _)) (Nat.le_succ _)
    go_wp2_with fail
    (try simp only [Exit.inBlock, Exit.then])
    exact bodyPost_ret (v := .tuple #[.agg (uC zUb), .bool false]) (results_blk rfl _ _ _ (w.heap.size + 1) 27 _ _ rfl rfl b9 _ Try.underlying27 rfl HZI.out) rfl (by unfold URead; rw [HF.out]; exact ⟨rfl, U9⟩)
  have htab : ptrOf ((s.drop 20).take 16) = root := by
    unfold readB at hroot
    split at hroot
    · exact Option.some.inj hroot
    · cases hroot
  have U4' := U4.trans (up_alloc w4 (.cells (pcA root) 25))
  have BR := Lib.hid (Blk.new w4 25 (pcA root))
  have B4 := Lib.hid (B3.out.up U4')
  have Z4 := Lib.hid (Z3.out.up U4')
  have U5 := Lib.hid (U3.out.trans U4')
  obtain ⟨tx, htx⟩ : ∃ n, n = numVal ((s.drop 4).take 8) := ⟨_, rfl⟩
  obtain ⟨st, hst⟩ : ∃ n, n = numVal ((s.drop 12).take 8) := ⟨_, rfl⟩
  obtain ⟨ln, hln⟩ : ∃ n, n = numVal ((s.drop 36).take 4) := ⟨_, rfl⟩
  obtain ⟨sc, hsc⟩ : ∃ n, n = numVal ((s.drop 40).take 4) := ⟨_, rfl⟩
  have Htx := Lib.hid htx
  have Hst := Lib.hid hst
  have Hln := Lib.hid hln
  have Hsc := Lib.hid hsc
  obtain ⟨pl, pb, ps⟩ := root
  have hu : ubOf s = ⟨tx, st, ⟨pl, pb, ps⟩, (ln : Int), (sc : Int)⟩ := by
    unfold ubOf
    rw [htab, ← htx, ← hst, ← hln, ← hsc]
  have lnb : ln < 4294967296 := by have := numVal_le (l := (s.drop 36).take 4) (k := 4) (by simp; omega); omega
  have scb : sc < 4294967296 := by have := numVal_le (l := (s.drop 40).take 4) (k := 4) (by simp; omega); omega
  have wl := wrap_i64_nat ln (by omega)
  have ws := wrap_i64_nat sc (by omega)
  have HBT := Lib.hid (built_ub (ubOf s))
  have HUW := Lib.hid (ubOf_wf s)
  have HRD := Lib.hid (show uread s = if rightU (ubOf s) = true ∧ ubBytes (ubOf s) = s then some (ubOf s) else none from rfl)
  rw [hu] at HBT
  have HIP := Lib.hid (info_pcU ⟨pl, pb, ps⟩)
  unfold pcA at HBT HIP BR B4 Z4 U5
  dsimp only at HBT BR B4 Z4 U5
  obtain ⟨u, huu⟩ : ∃ x, x = ubOf s := ⟨_, rfl⟩
  rw [← huu] at HUW HRD hu
  rw [← hu] at HBT
  have HIU := Lib.hid (info_uV u)
  have HU1 := Lib.hid (uC_one u)
  have SL1 : ∀ W, (Instr.sliceAt 34 (.pointer (some ⟨w.heap.size, 0, none⟩)) (some (.int .i64 4)) (some (.int .i64 12)) none).run Try.prog W = .ok (.slice (some ⟨w.heap.size, 4, none⟩) 8 124) W := fun W => slice_sec w.heap.size 4 12 4 12 rfl rfl (by omega) (by omega) (by omega) W
  have SL2 : ∀ W, (Instr.sliceAt 34 (.pointer (some ⟨w.heap.size, 0, none⟩)) (some (.int .i64 12)) (some (.int .i64 20)) none).run Try.prog W = .ok (.slice (some ⟨w.heap.size, 12, none⟩) 8 116) W := fun W => slice_sec w.heap.size 12 20 12 20 rfl rfl (by omega) (by omega) (by omega) W
  have SL3 : ∀ W, (Instr.sliceAt 34 (.pointer (some ⟨w.heap.size, 0, none⟩)) (some (.int .i64 36)) (some (.int .i64 40)) none).run Try.prog W = .ok (.slice (some ⟨w.heap.size, 36, none⟩) 4 92) W := fun W => slice_sec w.heap.size 36 40 36 40 rfl rfl (by omega) (by omega) (by omega) W
  have SL4 : ∀ W, (Instr.sliceAt 34 (.pointer (some ⟨w.heap.size, 0, none⟩)) (some (.int .i64 40)) (some (.int .i64 44)) none).run Try.prog W = .ok (.slice (some ⟨w.heap.size, 40, none⟩) 4 88) W := fun W => slice_sec w.heap.size 40 44 40 44 rfl rfl (by omega) (by omega) (by omega) W
  clear hroot htab U4 U4' RD B3 Z3 U3 htx hst hln hsc hu huu lnb scb PN
  unfold ptrV
  dsimp only
  go_wp2_with fail
  refine wp_region_held (S := fun W => Up (w4.alloc (.cells #[.int .i64 pl, .int .u64 (pb : Int), .int .u32 (ps : Int)] 25)).drew W) (by kernel_rfl) ?_
  change wpAnyH _ _ _ _ _ 14 _ _ (w4.alloc (.cells #[.int .i64 pl, .int .u64 (pb : Int), .int .u32 (ps : Int)] 25)).drew
  have UD : Up (w4.alloc (.cells #[.int .i64 pl, .int .u64 (pb : Int), .int .u32 (ps : Int)] 25)) (w4.alloc (.cells #[.int .i64 pl, .int .u64 (pb : Int), .int .u32 (ps : Int)] 25)).drew := (Up.refl _).drew
  have B6 := Lib.hid (B4.out.up UD)
  have Z6 := Lib.hid (Z4.out.up UD)
  have BR6 := Lib.hid (BR.out.up UD)
  have U7 := Lib.hid (U5.out.trans UD)
  clear B4 Z4 BR U5 UD
  generalize (w4.alloc (.cells #[.int .i64 pl, .int .u64 (pb : Int), .int .u32 (ps : Int)] 25)).drew = w6 at *
  have V1 := Lib.hid (show ∀ W, Up w6 W → Calls Try.prog 43 #[.slice (some ⟨w.heap.size, 4, none⟩) 8 124] W (fun e w' => e = .returned (.int .u64 (tx : Int)) ∧ W = w') from fun W hW => by
    have hb := blk_bytes (B6.out.up hW) 4 8 124 (by rw [HS.out]; omega) (by omega) (by omega) (by omega)
    have := value_any W _ _ hb (by rw [List.length_take, List.length_drop]; omega)
    rw [← Htx.out] at this
    exact this)
  have V2 := Lib.hid (show ∀ W, Up w6 W → Calls Try.prog 43 #[.slice (some ⟨w.heap.size, 12, none⟩) 8 116] W (fun e w' => e = .returned (.int .u64 (st : Int)) ∧ W = w') from fun W hW => by
    have hb := blk_bytes (B6.out.up hW) 12 8 116 (by rw [HS.out]; omega) (by omega) (by omega) (by omega)
    have := value_any W _ _ hb (by rw [List.length_take, List.length_drop]; omega)
    rw [← Hst.out] at this
    exact this)
  have V3 := Lib.hid (show ∀ W, Up w6 W → Calls Try.prog 43 #[.slice (some ⟨w.heap.size, 36, none⟩) 4 92] W (fun e w' => e = .returned (.int .u64 (ln : Int)) ∧ W = w') from fun W hW => by
    have hb := blk_bytes (B6.out.up hW) 36 4 92 (by rw [HS.out]; omega) (by omega) (by omega) (by omega)
    have := value_any W _ _ hb (by rw [List.length_take, List.length_drop]; omega)
    rw [← Hln.out] at this
    exact this)
  have V4 := Lib.hid (show ∀ W, Up w6 W → Calls Try.prog 43 #[.slice (some ⟨w.heap.size, 40, none⟩) 4 88] W (fun e w' => e = .returned (.int .u64 (sc : Int)) ∧ W = w') from fun W hW => by
    have hb := blk_bytes (B6.out.up hW) 40 4 88 (by rw [HS.out]; omega) (by omega) (by omega) (by omega)
    have := value_any W _ _ hb (by rw [List.length_take, List.length_drop]; omega)
    rw [← Hsc.out] at this
    exact this)
  have UA := up_alloc w6 (.cells (uC zUb) 27)
  have BU := Lib.hid ((Blk.new w6 27 (uC zUb)).set (uC u))
  have UU := Lib.hid (Up.grown (up_alloc w6 (.cells (uC zUb) 27)) (grown_setRow (w6.alloc (.cells (uC zUb) 27)) w6.heap.size (uC u)) (fun k hk => by cases hk; exact Nat.le_refl _))
  (try simp only [Act.put, List.getElem_toArray, List.getElem_cons_succ, List.getElem_cons_zero, List.setIfInBounds_toArray, List.set_cons_zero, List.set_cons_succ])
  refine wpAnyH_take (i := 0) (v := .slice (some ⟨w.heap.size, 4, none⟩) 8 124) rfl (by kernel_rfl) (by kernel_rfl) (by kernel_rfl) (fun _ _ _ h => h) (yi_any rfl (fun _ => by go_simp)) (Up.refl _) ?_
  simp only [Act.put, List.getElem_toArray, List.getElem_cons_succ, List.getElem_cons_zero, List.setIfInBounds_toArray, List.set_cons_zero, List.set_cons_succ]
  refine wpAnyH_take (i := 2) (v := .slice (some ⟨w.heap.size, 12, none⟩) 8 116) rfl (by kernel_rfl) (by kernel_rfl) (by kernel_rfl) (fun _ _ _ h => h) (yi_any rfl (fun _ => by go_simp)) (Up.refl _) ?_
  simp only [Act.put, List.getElem_toArray, List.getElem_cons_succ, List.getElem_cons_zero, List.setIfInBounds_toArray, List.set_cons_zero, List.set_cons_succ]
  refine wpAnyH_take (i := 5) (v := .slice (some ⟨w.heap.size, 36, none⟩) 4 92) rfl (by kernel_rfl) (by kernel_rfl) (by kernel_rfl) (fun _ _ _ h => h) (yi_any rfl (fun _ => by go_simp)) (Up.refl _) ?_
  simp only [Act.put, List.getElem_toArray, List.getElem_cons_succ, List.getElem_cons_zero, List.setIfInBounds_toArray, List.set_cons_zero, List.set_cons_succ]
  refine wpAnyH_take (i := 8) (v := .slice (some ⟨w.heap.size, 40, none⟩) 4 88) rfl (by kernel_rfl) (by kernel_rfl) (by kernel_rfl) (fun _ _ _ h => h) (yi_any rfl (fun _ => by go_simp)) (Up.refl _) ?_
  simp only [Act.put, List.getElem_toArray, List.getElem_cons_succ, List.getElem_cons_zero, List.setIfInBounds_toArray, List.set_cons_zero, List.set_cons_succ]
  refine wpAnyH_take (i := 4) (v := .agg #[.int .i64 pl, .int .u64 (pb : Int), .int .u32 (ps : Int)]) rfl (by kernel_rfl) (by kernel_rfl) (by kernel_rfl) (fun _ _ _ h => h) (yi_part rfl 25 (.tmp 4) rfl w4.heap.size 0 rfl #[.int .i64 pl, .int .u64 (pb : Int), .int .u32 (ps : Int)] (fun W hS => Up.range hS BR6.out.range) _ Try.underlying25 rfl HIP.out) (Up.refl _) ?_
  simp only [Act.put, List.getElem_toArray, List.getElem_cons_succ, List.getElem_cons_zero, List.setIfInBounds_toArray, List.set_cons_zero, List.set_cons_succ]
  refine (fun (FIN : ?G) => ?main) ?tail
  case main =>
    refine wpAnyH_twoK 1 12 (by kernel_rfl) rfl rfl rfl rfl ?_ ?_
    · intro K hK
      go_simp
      refine (V1.out _ (Up.refl _)).mono ?_
      rintro e wq ⟨rfl, rfl⟩
      refine hK _ _ (Up.refl _) ?_
      clear hK K
      (try simp only [Act.put, List.getElem_toArray, List.getElem_cons_succ, List.getElem_cons_zero, List.setIfInBounds_toArray, List.set_cons_zero, List.set_cons_succ])
      refine wpAnyH_twoK 3 12 (by kernel_rfl) rfl rfl rfl rfl ?_ ?_
      · intro K hK
        go_simp
        refine (V2.out _ (Up.refl _)).mono ?_
        rintro e wq ⟨rfl, rfl⟩
        refine hK _ _ (Up.refl _) ?_
        clear hK K
        (try simp only [Act.put, List.getElem_toArray, List.getElem_cons_succ, List.getElem_cons_zero, List.setIfInBounds_toArray, List.set_cons_zero, List.set_cons_succ])
        refine wpAnyH_twoK 6 12 (by kernel_rfl) rfl rfl rfl rfl ?_ ?_
        · intro K hK
          go_simp
          refine (V3.out _ (Up.refl _)).mono ?_
          rintro e wq ⟨rfl, rfl⟩
          refine hK _ _ (Up.refl _) ?_
          clear hK K
          (try simp only [Act.put, List.getElem_toArray, List.getElem_cons_succ, List.getElem_cons_zero, List.setIfInBounds_toArray, List.set_cons_zero, List.set_cons_succ])
          refine wpAnyH_take (i := 7) (v := .int .i64 (ln : Int)) rfl (by kernel_rfl) (by kernel_rfl) (by kernel_rfl) (fun _ _ _ h => h) (yi_any rfl (fun _ => by go_simp)) (Up.refl _) ?_
          simp only [Act.put, List.getElem_toArray, List.getElem_cons_succ, List.getElem_cons_zero, List.setIfInBounds_toArray, List.set_cons_zero, List.set_cons_succ]
          refine wpAnyH_twoK 9 12 (by kernel_rfl) rfl rfl rfl rfl ?_ ?_
          · intro K hK
            go_simp
            refine (V4.out _ (Up.refl _)).mono ?_
            rintro e wq ⟨rfl, rfl⟩
            refine hK _ _ (Up.refl _) ?_
            clear hK K
            (try simp only [Act.put, List.getElem_toArray, List.getElem_cons_succ, List.getElem_cons_zero, List.setIfInBounds_toArray, List.set_cons_zero, List.set_cons_succ])
            refine wpAnyH_take (i := 10) (v := .int .i64 (sc : Int)) rfl (by kernel_rfl) (by kernel_rfl) (by kernel_rfl) (fun _ _ _ h => h) (yi_any rfl (fun _ => by go_simp)) (Up.refl _) ?_
            simp only [Act.put, List.getElem_toArray, List.getElem_cons_succ, List.getElem_cons_zero, List.setIfInBounds_toArray, List.set_cons_zero, List.set_cons_succ]
            refine wpAnyH_take (i := 11) (v := .agg (uC u)) rfl (by kernel_rfl) (by kernel_rfl) (by kernel_rfl) (fun _ _ _ h => h) (yi_build5 rfl 27 0 1 2 3 4 (.tmp 20) (.tmp 22) (.tmp 23) (.tmp 26) (.tmp 29) rfl _ _ _ _ _ _ HBT.out rfl rfl rfl rfl rfl) (Up.refl _) ?_
            simp only [Act.put, List.getElem_toArray, List.getElem_cons_succ, List.getElem_cons_zero, List.setIfInBounds_toArray, List.set_cons_zero, List.set_cons_succ]
            refine wpAnyH_oneK 12 (by kernel_rfl) rfl rfl ?_
            intro K hK
            refine wp_alloc_blk 27 rfl (uC zUb) zero_ub ?_
            refine hK _ _ UA ?_
            clear hK K
            simp only [Act.put, List.getElem_toArray, List.getElem_cons_succ, List.getElem_cons_zero, List.setIfInBounds_toArray, List.set_cons_zero, List.set_cons_succ]
            refine wpAnyH_oneK 13 (by kernel_rfl) rfl rfl ?_
            intro K hK
            refine wp_store_row 27 (.tmp 6) (.tmp 30) rfl w6.heap.size (uC u) rfl rfl 27 (uC zUb) (Blk.new w6 27 (uC zUb)) HIU.out rfl HU1.out ?_
            refine hK _ _ UU.out ?_
            clear hK K
            simp only [Act.put, List.getElem_toArray, List.getElem_cons_succ, List.getElem_cons_zero, List.setIfInBounds_toArray, List.set_cons_zero, List.set_cons_succ]
            refine wpAnyH_done (by kernel_rfl) ?_ _
            exact FIN
          · intro K hK
            refine wp_alloc_blk 27 rfl (uC zUb) zero_ub ?_
            refine hK _ _ UA ?_
            clear hK K
            simp only [Act.put, List.getElem_toArray, List.getElem_cons_succ, List.getElem_cons_zero, List.setIfInBounds_toArray, List.set_cons_zero, List.set_cons_succ]
            refine wpAnyH_oneK 9 (by kernel_rfl) rfl rfl ?_
            intro K hK
            go_simp
            refine (V4.out _ (UA)).mono ?_
            rintro e wq ⟨rfl, rfl⟩
            refine hK _ _ (UA) ?_
            clear hK K
            (try simp only [Act.put, List.getElem_toArray, List.getElem_cons_succ, List.getElem_cons_zero, List.setIfInBounds_toArray, List.set_cons_zero, List.set_cons_succ])
            refine wpAnyH_take (i := 10) (v := .int .i64 (sc : Int)) rfl (by kernel_rfl) (by kernel_rfl) (by kernel_rfl) (fun _ _ _ h => h) (yi_any rfl (fun _ => by go_simp)) (UA) ?_
            simp only [Act.put, List.getElem_toArray, List.getElem_cons_succ, List.getElem_cons_zero, List.setIfInBounds_toArray, List.set_cons_zero, List.set_cons_succ]
            refine wpAnyH_take (i := 11) (v := .agg (uC u)) rfl (by kernel_rfl) (by kernel_rfl) (by kernel_rfl) (fun _ _ _ h => h) (yi_build5 rfl 27 0 1 2 3 4 (.tmp 20) (.tmp 22) (.tmp 23) (.tmp 26) (.tmp 29) rfl _ _ _ _ _ _ HBT.out rfl rfl rfl rfl rfl) (UA) ?_
            simp only [Act.put, List.getElem_toArray, List.getElem_cons_succ, List.getElem_cons_zero, List.setIfInBounds_toArray, List.set_cons_zero, List.set_cons_succ]
            refine wpAnyH_oneK 13 (by kernel_rfl) rfl rfl ?_
            intro K hK
            refine wp_store_row 27 (.tmp 6) (.tmp 30) rfl w6.heap.size (uC u) rfl rfl 27 (uC zUb) (Blk.new w6 27 (uC zUb)) HIU.out rfl HU1.out ?_
            refine hK _ _ UU.out ?_
            clear hK K
            simp only [Act.put, List.getElem_toArray, List.getElem_cons_succ, List.getElem_cons_zero, List.setIfInBounds_toArray, List.set_cons_zero, List.set_cons_succ]
            refine wpAnyH_done (by kernel_rfl) ?_ _
            exact FIN
        · intro K hK
          refine wp_alloc_blk 27 rfl (uC zUb) zero_ub ?_
          refine hK _ _ UA ?_
          clear hK K
          simp only [Act.put, List.getElem_toArray, List.getElem_cons_succ, List.getElem_cons_zero, List.setIfInBounds_toArray, List.set_cons_zero, List.set_cons_succ]
          refine wpAnyH_oneK 6 (by kernel_rfl) rfl rfl ?_
          intro K hK
          go_simp
          refine (V3.out _ (UA)).mono ?_
          rintro e wq ⟨rfl, rfl⟩
          refine hK _ _ (UA) ?_
          clear hK K
          (try simp only [Act.put, List.getElem_toArray, List.getElem_cons_succ, List.getElem_cons_zero, List.setIfInBounds_toArray, List.set_cons_zero, List.set_cons_succ])
          refine wpAnyH_take (i := 7) (v := .int .i64 (ln : Int)) rfl (by kernel_rfl) (by kernel_rfl) (by kernel_rfl) (fun _ _ _ h => h) (yi_any rfl (fun _ => by go_simp)) (UA) ?_
          simp only [Act.put, List.getElem_toArray, List.getElem_cons_succ, List.getElem_cons_zero, List.setIfInBounds_toArray, List.set_cons_zero, List.set_cons_succ]
          refine wpAnyH_oneK 9 (by kernel_rfl) rfl rfl ?_
          intro K hK
          go_simp
          refine (V4.out _ (UA)).mono ?_
          rintro e wq ⟨rfl, rfl⟩
          refine hK _ _ (UA) ?_
          clear hK K
          (try simp only [Act.put, List.getElem_toArray, List.getElem_cons_succ, List.getElem_cons_zero, List.setIfInBounds_toArray, List.set_cons_zero, List.set_cons_succ])
          refine wpAnyH_take (i := 10) (v := .int .i64 (sc : Int)) rfl (by kernel_rfl) (by kernel_rfl) (by kernel_rfl) (fun _ _ _ h => h) (yi_any rfl (fun _ => by go_simp)) (UA) ?_
          simp only [Act.put, List.getElem_toArray, List.getElem_cons_succ, List.getElem_cons_zero, List.setIfInBounds_toArray, List.set_cons_zero, List.set_cons_succ]
          refine wpAnyH_take (i := 11) (v := .agg (uC u)) rfl (by kernel_rfl) (by kernel_rfl) (by kernel_rfl) (fun _ _ _ h => h) (yi_build5 rfl 27 0 1 2 3 4 (.tmp 20) (.tmp 22) (.tmp 23) (.tmp 26) (.tmp 29) rfl _ _ _ _ _ _ HBT.out rfl rfl rfl rfl rfl) (UA) ?_
          simp only [Act.put, List.getElem_toArray, List.getElem_cons_succ, List.getElem_cons_zero, List.setIfInBounds_toArray, List.set_cons_zero, List.set_cons_succ]
          refine wpAnyH_oneK 13 (by kernel_rfl) rfl rfl ?_
          intro K hK
          refine wp_store_row 27 (.tmp 6) (.tmp 30) rfl w6.heap.size (uC u) rfl rfl 27 (uC zUb) (Blk.new w6 27 (uC zUb)) HIU.out rfl HU1.out ?_
          refine hK _ _ UU.out ?_
          clear hK K
          simp only [Act.put, List.getElem_toArray, List.getElem_cons_succ, List.getElem_cons_zero, List.setIfInBounds_toArray, List.set_cons_zero, List.set_cons_succ]
          refine wpAnyH_done (by kernel_rfl) ?_ _
          exact FIN
      · intro K hK
        refine wp_alloc_blk 27 rfl (uC zUb) zero_ub ?_
        refine hK _ _ UA ?_
        clear hK K
        simp only [Act.put, List.getElem_toArray, List.getElem_cons_succ, List.getElem_cons_zero, List.setIfInBounds_toArray, List.set_cons_zero, List.set_cons_succ]
        refine wpAnyH_oneK 3 (by kernel_rfl) rfl rfl ?_
        intro K hK
        go_simp
        refine (V2.out _ (UA)).mono ?_
        rintro e wq ⟨rfl, rfl⟩
        refine hK _ _ (UA) ?_
        clear hK K
        (try simp only [Act.put, List.getElem_toArray, List.getElem_cons_succ, List.getElem_cons_zero, List.setIfInBounds_toArray, List.set_cons_zero, List.set_cons_succ])
        refine wpAnyH_oneK 6 (by kernel_rfl) rfl rfl ?_
        intro K hK
        go_simp
        refine (V3.out _ (UA)).mono ?_
        rintro e wq ⟨rfl, rfl⟩
        refine hK _ _ (UA) ?_
        clear hK K
        (try simp only [Act.put, List.getElem_toArray, List.getElem_cons_succ, List.getElem_cons_zero, List.setIfInBounds_toArray, List.set_cons_zero, List.set_cons_succ])
        refine wpAnyH_take (i := 7) (v := .int .i64 (ln : Int)) rfl (by kernel_rfl) (by kernel_rfl) (by kernel_rfl) (fun _ _ _ h => h) (yi_any rfl (fun _ => by go_simp)) (UA) ?_
        simp only [Act.put, List.getElem_toArray, List.getElem_cons_succ, List.getElem_cons_zero, List.setIfInBounds_toArray, List.set_cons_zero, List.set_cons_succ]
        refine wpAnyH_oneK 9 (by kernel_rfl) rfl rfl ?_
        intro K hK
        go_simp
        refine (V4.out _ (UA)).mono ?_
        rintro e wq ⟨rfl, rfl⟩
        refine hK _ _ (UA) ?_
        clear hK K
        (try simp only [Act.put, List.getElem_toArray, List.getElem_cons_succ, List.getElem_cons_zero, List.setIfInBounds_toArray, List.set_cons_zero, List.set_cons_succ])
        refine wpAnyH_take (i := 10) (v := .int .i64 (sc : Int)) rfl (by kernel_rfl) (by kernel_rfl) (by kernel_rfl) (fun _ _ _ h => h) (yi_any rfl (fun _ => by go_simp)) (UA) ?_
        simp only [Act.put, List.getElem_toArray, List.getElem_cons_succ, List.getElem_cons_zero, List.setIfInBounds_toArray, List.set_cons_zero, List.set_cons_succ]
        refine wpAnyH_take (i := 11) (v := .agg (uC u)) rfl (by kernel_rfl) (by kernel_rfl) (by kernel_rfl) (fun _ _ _ h => h) (yi_build5 rfl 27 0 1 2 3 4 (.tmp 20) (.tmp 22) (.tmp 23) (.tmp 26) (.tmp 29) rfl _ _ _ _ _ _ HBT.out rfl rfl rfl rfl rfl) (UA) ?_
        simp only [Act.put, List.getElem_toArray, List.getElem_cons_succ, List.getElem_cons_zero, List.setIfInBounds_toArray, List.set_cons_zero, List.set_cons_succ]
        refine wpAnyH_oneK 13 (by kernel_rfl) rfl rfl ?_
        intro K hK
        refine wp_store_row 27 (.tmp 6) (.tmp 30) rfl w6.heap.size (uC u) rfl rfl 27 (uC zUb) (Blk.new w6 27 (uC zUb)) HIU.out rfl HU1.out ?_
        refine hK _ _ UU.out ?_
        clear hK K
        simp only [Act.put, List.getElem_toArray, List.getElem_cons_succ, List.getElem_cons_zero, List.setIfInBounds_toArray, List.set_cons_zero, List.set_cons_succ]
        refine wpAnyH_done (by kernel_rfl) ?_ _
        exact FIN
    · intro K hK
      refine wp_alloc_blk 27 rfl (uC zUb) zero_ub ?_
      refine hK _ _ UA ?_
      clear hK K
      simp only [Act.put, List.getElem_toArray, List.getElem_cons_succ, List.getElem_cons_zero, List.setIfInBounds_toArray, List.set_cons_zero, List.set_cons_succ]
      refine wpAnyH_oneK 1 (by kernel_rfl) rfl rfl ?_
      intro K hK
      go_simp
      refine (V1.out _ (UA)).mono ?_
      rintro e wq ⟨rfl, rfl⟩
      refine hK _ _ (UA) ?_
      clear hK K
      (try simp only [Act.put, List.getElem_toArray, List.getElem_cons_succ, List.getElem_cons_zero, List.setIfInBounds_toArray, List.set_cons_zero, List.set_cons_succ])
      refine wpAnyH_oneK 3 (by kernel_rfl) rfl rfl ?_
      intro K hK
      go_simp
      refine (V2.out _ (UA)).mono ?_
      rintro e wq ⟨rfl, rfl⟩
      refine hK _ _ (UA) ?_
      clear hK K
      (try simp only [Act.put, List.getElem_toArray, List.getElem_cons_succ, List.getElem_cons_zero, List.setIfInBounds_toArray, List.set_cons_zero, List.set_cons_succ])
      refine wpAnyH_oneK 6 (by kernel_rfl) rfl rfl ?_
      intro K hK
      go_simp
      refine (V3.out _ (UA)).mono ?_
      rintro e wq ⟨rfl, rfl⟩
      refine hK _ _ (UA) ?_
      clear hK K
      (try simp only [Act.put, List.getElem_toArray, List.getElem_cons_succ, List.getElem_cons_zero, List.setIfInBounds_toArray, List.set_cons_zero, List.set_cons_succ])
      refine wpAnyH_take (i := 7) (v := .int .i64 (ln : Int)) rfl (by kernel_rfl) (by kernel_rfl) (by kernel_rfl) (fun _ _ _ h => h) (yi_any rfl (fun _ => by go_simp)) (UA) ?_
      simp only [Act.put, List.getElem_toArray, List.getElem_cons_succ, List.getElem_cons_zero, List.setIfInBounds_toArray, List.set_cons_zero, List.set_cons_succ]
      refine wpAnyH_oneK 9 (by kernel_rfl) rfl rfl ?_
      intro K hK
      go_simp
      refine (V4.out _ (UA)).mono ?_
      rintro e wq ⟨rfl, rfl⟩
      refine hK _ _ (UA) ?_
      clear hK K
      (try simp only [Act.put, List.getElem_toArray, List.getElem_cons_succ, List.getElem_cons_zero, List.setIfInBounds_toArray, List.set_cons_zero, List.set_cons_succ])
      refine wpAnyH_take (i := 10) (v := .int .i64 (sc : Int)) rfl (by kernel_rfl) (by kernel_rfl) (by kernel_rfl) (fun _ _ _ h => h) (yi_any rfl (fun _ => by go_simp)) (UA) ?_
      simp only [Act.put, List.getElem_toArray, List.getElem_cons_succ, List.getElem_cons_zero, List.setIfInBounds_toArray, List.set_cons_zero, List.set_cons_succ]
      refine wpAnyH_take (i := 11) (v := .agg (uC u)) rfl (by kernel_rfl) (by kernel_rfl) (by kernel_rfl) (fun _ _ _ h => h) (yi_build5 rfl 27 0 1 2 3 4 (.tmp 20) (.tmp 22) (.tmp 23) (.tmp 26) (.tmp 29) rfl _ _ _ _ _ _ HBT.out rfl rfl rfl rfl rfl) (UA) ?_
      simp only [Act.put, List.getElem_toArray, List.getElem_cons_succ, List.getElem_cons_zero, List.setIfInBounds_toArray, List.set_cons_zero, List.set_cons_succ]
      refine wpAnyH_oneK 13 (by kernel_rfl) rfl rfl ?_
      intro K hK
      refine wp_store_row 27 (.tmp 6) (.tmp 30) rfl w6.heap.size (uC u) rfl rfl 27 (uC zUb) (Blk.new w6 27 (uC zUb)) HIU.out rfl HU1.out ?_
      refine hK _ _ UU.out ?_
      clear hK K
      simp only [Act.put, List.getElem_toArray, List.getElem_cons_succ, List.getElem_cons_zero, List.setIfInBounds_toArray, List.set_cons_zero, List.set_cons_succ]
      refine wpAnyH_done (by kernel_rfl) ?_ _
      exact FIN
  case tail =>
    generalize (w6.alloc (.cells (uC zUb) 27)).setRow w6.heap.size (uC u) = w7 at *
    have B7 := Lib.hid (B6.out.up UU.out)
    have Z7 := Lib.hid (Z6.out.up UU.out)
    have U8 := Lib.hid (U7.out.trans UU.out)
    have BY := Lib.hid (urefBytes_any w7 u HUW.out)
    clear B6 Z6 BR6 U7 UU HBT HIP HUW wl ws SL1 SL2 SL3 SL4 V1 V2 V3 V4 UA Htx Hst Hln Hsc
    (try simp only [Exit.then])
    go_wp2_with (first
      | ((with_reducible refine wg_load 27 (.tmp 6) ?_); refine wpList_load_blkG rfl 27 (.tmp 6) rfl w6.heap.size rfl 27 _ BU.out _ Try.underlying27 rfl HIU.out ?_))
    refine BY.out.mono ?_
    rintro e w8 ⟨rfl, U9⟩
    have VL := Lib.hid (ubV u).property
    have HVE := Lib.hid (show rightU u = true → (ubV u).val = ubBytes u from fun h => by unfold ubV; rw [if_pos h])
    have HIV := Lib.hid (info_secU (ubV u))
    have HO1 := Lib.hid (secC_one (ubV u).val)
    have HZV := Lib.hid (show (secC zeroS).size = (secC (ubV u).val).size by rw [secC_size, secC_size, (ubV u).property]; rfl)
    have UX := up_alloc w8 (.cells (secC (ubV u).val) 34)
    have BV := Lib.hid (Blk.new w8 34 (secC (ubV u).val))
    have B9 := Lib.hid (B7.out.up (U9.trans UX))
    have Z9 := Lib.hid (Z7.out.up (U9.trans UX))
    have BU9 := Lib.hid (BU.out.up (U9.trans UX))
    have U10 := Lib.hid (U8.out.trans (U9.trans UX))
    have HIS := Lib.hid (show (Try.prog.info? 34).map (·.size) = some (secC s).size by rw [secC_size, HS.out]; exact info_sec)
    have EQ := sec_eq (ubV u).val s (ubV u).property HS.out
    clear U9 UX B7 Z7 BU U8 BY
    cases hr : rightU u
    · have HF := Lib.hid (show uread s = none by rw [HRD.out, if_neg]; rintro ⟨h, _⟩; rw [hr] at h; cases h)
      have HE : ubE u = 61 := by unfold ubE; rw [hr]; rfl
      rw [HE]
      generalize (ubV u).val = V at *
      clear hr HE EQ HVE
      go_wp2_with (first
        | ((with_reducible refine wg_alloc 34 ?_); refine wpList_alloc_blk rfl 34 rfl (secC zeroS) zero_sec ?_)
        | ((with_reducible refine wg_store 34 (.tmp 7) (.tmp 34) ?_); refine ws_new w8 rfl 34 (.tmp 7) (.tmp 34) rfl (secC V) 34 (secC zeroS) rfl rfl rfl HIV.out HZV.out HO1.out ?_)
        | ((with_reducible refine wg_build 27 #[] ?_); refine wpList_build0 rfl 27 rfl (uC zUb) BZ.out ?_)
        | ((with_reducible refine wg_store 27 (.tmp 2) (.tmp 43) ?_); refine wpList_store_blk rfl 27 (.tmp 2) (.tmp 43) rfl (w.heap.size + 1) (uC zUb) rfl rfl 27 (uC zUb) Z9.out HZI.out rfl HZ1.out ?_))
      intro w9 b9 g9
      have U9 := U10.out.below_trans (below_grown g9 (Nat.le_of_lt Z9.out.lt) (fun j hj => by cases hj; exact Nat.le_refl _)) (Nat.le_succ _)
      go_wp2_with fail
      (try simp only [Exit.inBlock, Exit.then])
      exact bodyPost_ret (v := .tuple #[.agg (uC zUb), .bool false]) (results_blk rfl _ _ _ (w.heap.size + 1) 27 _ _ rfl rfl b9 _ Try.underlying27 rfl HZI.out) rfl (by unfold URead; rw [HF.out]; exact ⟨rfl, U9⟩)
    have hve := HVE.out hr
    have HE : ubE u = 0 := by unfold ubE; rw [if_pos hr]
    rw [HE]
    by_cases hb : ubBytes u = s
    rotate_left
    · have HF := Lib.hid (show uread s = none by rw [HRD.out, if_neg]; rintro ⟨_, h⟩; exact hb h)
      rw [hve, decide_eq_false hb, ← hve] at EQ
      generalize (ubV u).val = V at *
      clear hr HE HVE hve hb
      go_wp2_with (first
        | ((with_reducible refine wg_alloc 34 ?_); refine wpList_alloc_blk rfl 34 rfl (secC zeroS) zero_sec ?_)
        | ((with_reducible refine wg_store 34 (.tmp 7) (.tmp 34) ?_); refine ws_new w8 rfl 34 (.tmp 7) (.tmp 34) rfl (secC V) 34 (secC zeroS) rfl rfl rfl HIV.out HZV.out HO1.out ?_)
        | ((with_reducible refine wg_load 34 (.tmp 7) ?_); refine wpList_load_blkG rfl 34 (.tmp 7) rfl w8.heap.size rfl 34 _ BV.out _ Try.underlying34 rfl HIV.out ?_)
        | ((with_reducible refine wg_load 34 (.tmp 1) ?_); refine wpList_load_blkG rfl 34 (.tmp 1) rfl w.heap.size rfl 34 _ B9.out _ Try.underlying34 rfl HIS.out ?_)
        | ((with_reducible refine wg_build 27 #[] ?_); refine wpList_build0 rfl 27 rfl (uC zUb) BZ.out ?_)
        | ((with_reducible refine wg_store 27 (.tmp 2) (.tmp 43) ?_); refine wpList_store_blk rfl 27 (.tmp 2) (.tmp 43) rfl (w.heap.size + 1) (uC zUb) rfl rfl 27 (uC zUb) Z9.out HZI.out rfl HZ1.out ?_))
      intro w9 b9 g9
      have U9 := U10.out.below_trans (below_grown g9 (Nat.le_of_lt Z9.out.lt) (fun j hj => by cases hj; exact Nat.le_refl _)) (Nat.le_succ _)
      go_wp2_with fail
      (try simp only [Exit.inBlock, Exit.then])
      exact bodyPost_ret (v := .tuple #[.agg (uC zUb), .bool false]) (results_blk rfl _ _ _ (w.heap.size + 1) 27 _ _ rfl rfl b9 _ Try.underlying27 rfl HZI.out) rfl (by unfold URead; rw [HF.out]; exact ⟨rfl, U9⟩)
    have HF := Lib.hid (show uread s = some u by rw [HRD.out, if_pos ⟨hr, hb⟩])
    rw [hve, decide_eq_true hb, ← hve] at EQ
    generalize (ubV u).val = V at *
    clear hr HE HVE hve hb
    go_wp2_with (first
      | ((with_reducible refine wg_alloc 34 ?_); refine wpList_alloc_blk rfl 34 rfl (secC zeroS) zero_sec ?_)
      | ((with_reducible refine wg_store 34 (.tmp 7) (.tmp 34) ?_); refine ws_new w8 rfl 34 (.tmp 7) (.tmp 34) rfl (secC V) 34 (secC zeroS) rfl rfl rfl HIV.out HZV.out HO1.out ?_)
      | ((with_reducible refine wg_load 34 (.tmp 7) ?_); refine wpList_load_blkG rfl 34 (.tmp 7) rfl w8.heap.size rfl 34 _ BV.out _ Try.underlying34 rfl HIV.out ?_)
      | ((with_reducible refine wg_load 34 (.tmp 1) ?_); refine wpList_load_blkG rfl 34 (.tmp 1) rfl w.heap.size rfl 34 _ B9.out _ Try.underlying34 rfl HIS.out ?_)
      | ((with_reducible refine wg_load 27 (.tmp 6) ?_); refine wpList_load_blkG rfl 27 (.tmp 6) rfl w6.heap.size rfl 27 _ BU9.out _ Try.underlying27 rfl HIU.out ?_)
      | ((with_reducible refine wg_store 27 (.tmp 2) (.tmp 44) ?_); refine wpList_store_blk rfl 27 (.tmp 2) (.tmp 44) rfl (w.heap.size + 1) (uC u) rfl rfl 27 (uC zUb) Z9.out HIU.out rfl HU1.out ?_))
    intro w9 b9 g9
    have U11 := U10.out.below_trans (below_grown g9 (Nat.le_of_lt Z9.out.lt) (fun j hj => by cases hj; exact Nat.le_refl _)) (Nat.le_succ _)
    go_wp2_with fail
    (try simp only [Exit.inBlock, Exit.then])
    exact bodyPost_ret (v := .tuple #[.agg (uC u), .bool true]) (results_blk rfl _ _ _ (w.heap.size + 1) 27 _ _ rfl rfl b9 _ Try.underlying27 rfl HIU.out) rfl (by unfold URead; rw [HF.out]; exact ⟨rfl, U11⟩)

end Go.Proofs.Ytgmdhedabmkcoaa
