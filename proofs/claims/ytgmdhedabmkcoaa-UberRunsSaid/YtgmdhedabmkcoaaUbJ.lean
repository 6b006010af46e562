/- An uber that came in; UberApart: the walk. -/
import Derived.Test.YtgmdhedabmkcoaaUbI
set_option linter.unusedSimpArgs false
set_option linter.unusedVariables false
namespace Go.Proofs.Ytgmdhedabmkcoaa
open Go.RowKit Go.Sort

theorem cells_u64a : Try.prog.cellsOf 22 = 1 := by kernel_rfl
theorem cells_inta : Try.prog.cellsOf 3 = 1 := by kernel_rfl
theorem cells_ptra : Try.prog.cellsOf 25 = 3 := by kernel_rfl
theorem cells_uba : Try.prog.cellsOf 27 = 7 := by kernel_rfl
set_option maxRecDepth 100000 in
theorem ub_trod {H : Type} {enc : TypeId × Value → H} {W : World} {n0 : Nat} {cs : List Value} {x : DataW H × List MemPlace}
    (hf : DataW.trod enc Try.prog W 0 (fun _ => true) true n0 27 cs = some x) : ∃ u : UbD, cs = ucells u ∧ u.wf := by
  obtain ⟨xs, n, _, rfl, hl, hlen, hg⟩ := DataW.trod_struct Try.underlying27 hf
  rw [cells_uba] at hl
  match cs, hl with
  | [c0, c1, c2, c3, c4, c5, c6], _ =>
  match xs, hlen with
  | [y0, y1, y2, y3, y4], _ =>
  have g0 := hg 0 _ rfl
  have g1 := hg 1 _ rfl
  have g2 := hg 2 _ rfl
  have g3 := hg 3 _ rfl
  have g4 := hg 4 _ rfl
  simp [cells_inta, cells_u64a, cells_ptra] at g0 g1 g2 g3 g4
  obtain ⟨m0, h0, _, w0⟩ := DataW.trod_int Try.underlying22 g0
  obtain ⟨m1, h1, _, w1⟩ := DataW.trod_int Try.underlying22 g1
  obtain ⟨p, h2, w2⟩ := open_ptrs g2
  obtain ⟨m3, h3, _, w3⟩ := DataW.trod_int Try.underlying3 g3
  obtain ⟨m4, h4, _, w4⟩ := DataW.trod_int Try.underlying3 g4
  simp at h0 h1 h2 h3 h4
  obtain ⟨rfl, rfl, rfl⟩ := h2
  subst h0 h1 h3 h4
  have b0 : 0 ≤ m0 ∧ m0 ≤ 18446744073709551615 := by simpa [Lit.wf, IntKind.min, IntKind.max, IntKind.signed, IntKind.bits] using w0
  have b1 : 0 ≤ m1 ∧ m1 ≤ 18446744073709551615 := by simpa [Lit.wf, IntKind.min, IntKind.max, IntKind.signed, IntKind.bits] using w1
  have b3 : -9223372036854775808 ≤ m3 ∧ m3 ≤ 9223372036854775807 := by simpa [Lit.wf, IntKind.min, IntKind.max, IntKind.signed, IntKind.bits] using w3
  have b4 : -9223372036854775808 ≤ m4 ∧ m4 ≤ 9223372036854775807 := by simpa [Lit.wf, IntKind.min, IntKind.max, IntKind.signed, IntKind.bits] using w4
  refine ⟨⟨m0.toNat, m1.toNat, p, m3, m4⟩, ?_, ⟨?_, ?_, w2, b3, b4⟩⟩
  · unfold ucells uC
    simp only
    rw [show ((m0.toNat : Nat) : Int) = m0 by omega, show ((m1.toNat : Nat) : Int) = m1 by omega]
  · show m0.toNat < _; omega
  · show m1.toNat < _; omega
set_option maxRecDepth 100000 in
theorem open_ub {H : Type} {enc : TypeId × Value → H} {W : World} {base : Nat} {v : Value} {d : DataW H} {ps : List MemPlace}
    (hval : Value.okWide Try.prog W .any base 27 v) (hd : DataW.Trod enc Try.prog W 0 (fun _ => true) true 27 v d ps) : ∃ u : UbD, v = .agg (uC u) ∧ u.wf := by
  obtain ⟨cs, rfl, _⟩ := WideShapes.okWide_struct Try.underlying27 hval
  obtain ⟨fuel, hf⟩ := hd
  obtain ⟨u, hu, wf⟩ := ub_trod hf
  refine ⟨u, ?_, wf⟩
  have h2 : cs.toList = ucells u := by simpa [Value.cells] using hu
  unfold ucells at h2
  rw [show cs = cs.toList.toArray from rfl, h2]
set_option maxRecDepth 100000 in
set_option maxHeartbeats 8000000 in
theorem uberApart_walk (w : World) (u : UbD) (hu : u.wf) (v : UbD) (hv : v.wf) :
    Calls Try.prog 5 #[.agg (uC u), .agg (uC v)] w fun e w' => e = .returned (.bool true) ∧ Up w w' := by
  have UA := up_alloc w (.cells (uC u) 27)
  have UB2 := up_alloc (w.alloc (.cells (uC u) 27)) (.cells (uC v) 27)
  have BU := Lib.hid ((Blk.new w 27 (uC u)).up UB2)
  have bv := Blk.new (w.alloc (.cells (uC u) 27)) 27 (uC v)
  rw [sz_alloc] at bv
  have BV := Lib.hid bv
  have U1 := Lib.hid (UA.trans UB2)
  have HU := Lib.hid (info_uV u)
  have HV := Lib.hid (info_uV v)
  have AL := Lib.hid uberAlive_any
  have B1 := Lib.hid (fun W => ubytes_any W u hu)
  have B2 := Lib.hid (fun W => ubytes_any W v hv)
  have R1 := Lib.hid (fun W => uright_any W u)
  have R2 := Lib.hid (fun W => uright_any W v)
  have HE1 := Lib.hid (show ubE u = if rightU u = true then 0 else 61 from rfl)
  have HE2 := Lib.hid (show ubE v = if rightU v = true then 0 else 61 from rfl)
  have HX := Lib.hid (info_secU (ubV u))
  have HY := Lib.hid (info_secU (ubV v))
  have OX := Lib.hid (secC_one (ubV u).val)
  have OY := Lib.hid (secC_one (ubV v).val)
  have ZX := Lib.hid (show (secC zeroS).size = (secC (ubV u).val).size by rw [secC_size, secC_size, (ubV u).property]; rfl)
  have ZY := Lib.hid (show (secC zeroS).size = (secC (ubV v).val).size by rw [secC_size, secC_size, (ubV v).property]; rfl)
  have RD := Lib.hid (fun W => uread_any W (ubV u).val (ubV u).property)
  have EQS : ∀ W : World, (Op.equalIn 10000 34 (.agg (secC (ubV u).val)) (.agg (secC (ubV v).val))).run Try.prog W = .ok (decide ((ubV u).val = (ubV v).val)) W := fun W => sec_eq _ _ (ubV u).property (ubV v).property W
  have EQU : ∀ W : World, (Op.equalIn 10000 27 (.agg (uC u)) (.agg (uC v))).run Try.prog W = .ok (decide (u = v)) W := fun W => ub_eq u v W
  have EQW : ∀ W : World, (Op.equalIn 10000 27 (.agg (uC u)) (.agg (uC u))).run Try.prog W = .ok true W := fun W => by rw [ub_eq, decide_eq_true rfl]
  have OU := Lib.hid (uC_one u)
  have ZU := Lib.hid (show (uC zUb).size = (uC u).size from rfl)
  have EQB : rightU u = true → rightU v = true → decide ((ubV u).val = (ubV v).val) = decide (u = v) := fun h1 h2 => by
    have e1 : (ubV u).val = ubBytes u := by unfold ubV; rw [if_pos h1]
    have e2 : (ubV v).val = ubBytes v := by unfold ubV; rw [if_pos h2]
    rw [decide_eq_decide, e1, e2]
    constructor
    · intro h
      have := uread_back h1 hu
      rw [h, uread_back h2 hv] at this
      exact (Option.some.inj this).symm
    · rintro rfl; rfl
  have RDU : rightU u = true → uread (ubV u).val = some u := fun h1 => by
    have e1 : (ubV u).val = ubBytes u := by unfold ubV; rw [if_pos h1]
    rw [e1]
    exact uread_back h1 hu
  have EQB := Lib.hid EQB
  have RDU := Lib.hid RDU
  unfold URead at RD
  clear UA UB2 bv hu hv
  generalize ubV u = X0 at *
  generalize ubV v = Y0 at *
  go_enter Try.func5, Try.ntmps5
  go_wp2_with fail
  refine (AL.out _).mono ?_
  rintro e w2 ⟨rfl, U2⟩
  have BU2 := Lib.hid (BU.out.up U2)
  have BV2 := Lib.hid (BV.out.up U2)
  have U2 := Lib.hid (U1.out.trans U2)
  clear BU BV U1 AL
  go_wp2_with (first
    | ((with_reducible refine wg_load 27 (.tmp 2) ?_); refine wpList_load_blkG rfl 27 (.tmp 2) rfl w.heap.size rfl 27 _ BU2.out _ Try.underlying27 rfl HU.out ?_))
  refine (B1.out _).mono ?_
  rintro e w3 ⟨rfl, U3⟩
  have UX := U3.trans (up_alloc w3 (.cells (secC X0.val) 34))
  have BX := Lib.hid (Blk.new w3 34 (secC X0.val))
  have BU3 := Lib.hid (BU2.out.up UX)
  have BV3 := Lib.hid (BV2.out.up UX)
  have U3 := Lib.hid (U2.out.trans UX)
  clear UX BU2 BV2 U2 B1
  go_wp2_with (first
    | ((with_reducible refine wg_alloc 34 ?_); refine wpList_alloc_blk rfl 34 rfl (secC zeroS) zero_sec ?_)
    | ((with_reducible refine wg_store 34 (.tmp 5) (.tmp 16) ?_); refine ws_new w3 rfl 34 (.tmp 5) (.tmp 16) rfl (secC X0.val) 34 (secC zeroS) rfl rfl rfl HX.out ZX.out OX.out ?_)
    | ((with_reducible refine wg_load 27 (.tmp 3) ?_); refine wpList_load_blkG rfl 27 (.tmp 3) rfl (w.heap.size + 1) rfl 27 _ BV3.out _ Try.underlying27 rfl HV.out ?_))
  refine (B2.out _).mono ?_
  rintro e w4 ⟨rfl, U4⟩
  have UX := U4.trans (up_alloc w4 (.cells (secC Y0.val) 34))
  have BY := Lib.hid (Blk.new w4 34 (secC Y0.val))
  have BX4 := Lib.hid (BX.out.up UX)
  have BU4 := Lib.hid (BU3.out.up UX)
  have BV4 := Lib.hid (BV3.out.up UX)
  have U4 := Lib.hid (U3.out.trans UX)
  clear UX BU3 BV3 U3 B2 BX
  cases hr1 : rightU u
  · rw [hr1] at HE1 R1
    have he1 := HE1.out
    rw [if_neg (by simp)] at he1
    rw [he1]
    clear he1 hr1
    cases hr2 : rightU v
    · rw [hr2] at HE2 R2
      have he2 := HE2.out
      rw [if_neg (by simp)] at he2
      rw [he2]
      clear he2 hr2
      go_wp2_with (first
        | ((with_reducible refine wg_alloc 34 ?_); refine wpList_alloc_blk rfl 34 rfl (secC zeroS) zero_sec ?_)
        | ((with_reducible refine wg_store 34 (.tmp 7) (.tmp 21) ?_); refine ws_new w4 rfl 34 (.tmp 7) (.tmp 21) rfl (secC Y0.val) 34 (secC zeroS) rfl rfl rfl HY.out ZY.out OY.out ?_)
        | ((with_reducible refine wg_load 27 (.tmp 2) ?_); refine wpList_load_blkG rfl 27 (.tmp 2) rfl w.heap.size rfl 27 _ BU4.out _ Try.underlying27 rfl HU.out ?_)
        | ((with_reducible refine wg_load 27 (.tmp 3) ?_); refine wpList_load_blkG rfl 27 (.tmp 3) rfl (w.heap.size + 1) rfl 27 _ BV4.out _ Try.underlying27 rfl HV.out ?_))
      refine (R1.out _).mono ?_
      rintro e w6 ⟨rfl, U6⟩
      have UX := (up_alloc w4 (.cells (secC Y0.val) 34))
      have BV5 := BV4.out.up U6
      clear UX
      go_wp2_with (first
        | ((with_reducible refine wg_load 27 (.tmp 3) ?_); refine wpList_load_blkG rfl 27 (.tmp 3) rfl (w.heap.size + 1) rfl 27 _ BV5 _ Try.underlying27 rfl HV.out ?_))
      refine (R2.out _).mono ?_
      rintro e w7 ⟨rfl, U7⟩
      go_wp2_with fail
      go_ret
      exact ⟨rfl, (U4.out.trans U6).trans U7⟩
    · rw [hr2] at HE2 R2
      have he2 := HE2.out
      rw [if_pos rfl] at he2
      rw [he2]
      clear he2 hr2
      go_wp2_with (first
        | ((with_reducible refine wg_alloc 34 ?_); refine wpList_alloc_blk rfl 34 rfl (secC zeroS) zero_sec ?_)
        | ((with_reducible refine wg_store 34 (.tmp 7) (.tmp 21) ?_); refine ws_new w4 rfl 34 (.tmp 7) (.tmp 21) rfl (secC Y0.val) 34 (secC zeroS) rfl rfl rfl HY.out ZY.out OY.out ?_)
        | ((with_reducible refine wg_load 27 (.tmp 2) ?_); refine wpList_load_blkG rfl 27 (.tmp 2) rfl w.heap.size rfl 27 _ BU4.out _ Try.underlying27 rfl HU.out ?_)
        | ((with_reducible refine wg_load 27 (.tmp 3) ?_); refine wpList_load_blkG rfl 27 (.tmp 3) rfl (w.heap.size + 1) rfl 27 _ BV4.out _ Try.underlying27 rfl HV.out ?_))
      refine (R1.out _).mono ?_
      rintro e w6 ⟨rfl, U6⟩
      have UX := (up_alloc w4 (.cells (secC Y0.val) 34))
      have BV5 := BV4.out.up U6
      clear UX
      go_wp2_with (first
        | ((with_reducible refine wg_load 27 (.tmp 3) ?_); refine wpList_load_blkG rfl 27 (.tmp 3) rfl (w.heap.size + 1) rfl 27 _ BV5 _ Try.underlying27 rfl HV.out ?_))
      refine (R2.out _).mono ?_
      rintro e w7 ⟨rfl, U7⟩
      go_wp2_with fail
      go_ret
      exact ⟨rfl, (U4.out.trans U6).trans U7⟩
  have HR1 := Lib.hid hr1
  rw [hr1] at HE1 R1
  have he1 := HE1.out
  rw [if_pos rfl] at he1
  rw [he1]
  clear he1 hr1
  cases hr2 : rightU v
  · rw [hr2] at HE2 R2
    have he2 := HE2.out
    rw [if_neg (by simp)] at he2
    rw [he2]
    clear he2 hr2
    go_wp2_with (first
      | ((with_reducible refine wg_alloc 34 ?_); refine wpList_alloc_blk rfl 34 rfl (secC zeroS) zero_sec ?_)
      | ((with_reducible refine wg_store 34 (.tmp 7) (.tmp 21) ?_); refine ws_new w4 rfl 34 (.tmp 7) (.tmp 21) rfl (secC Y0.val) 34 (secC zeroS) rfl rfl rfl HY.out ZY.out OY.out ?_)
      | ((with_reducible refine wg_load 27 (.tmp 2) ?_); refine wpList_load_blkG rfl 27 (.tmp 2) rfl w.heap.size rfl 27 _ BU4.out _ Try.underlying27 rfl HU.out ?_)
      | ((with_reducible refine wg_load 27 (.tmp 3) ?_); refine wpList_load_blkG rfl 27 (.tmp 3) rfl (w.heap.size + 1) rfl 27 _ BV4.out _ Try.underlying27 rfl HV.out ?_))
    refine (R1.out _).mono ?_
    rintro e w6 ⟨rfl, U6⟩
    have UX := (up_alloc w4 (.cells (secC Y0.val) 34))
    have BV5 := BV4.out.up U6
    clear UX
    go_wp2_with (first
      | ((with_reducible refine wg_load 27 (.tmp 3) ?_); refine wpList_load_blkG rfl 27 (.tmp 3) rfl (w.heap.size + 1) rfl 27 _ BV5 _ Try.underlying27 rfl HV.out ?_))
    refine (R2.out _).mono ?_
    rintro e w7 ⟨rfl, U7⟩
    go_wp2_with fail
    go_ret
    exact ⟨rfl, (U4.out.trans U6).trans U7⟩
  have eqb := EQB.out HR1.out hr2
  have rdu := RDU.out HR1.out
  rw [eqb] at EQS
  rw [rdu] at RD
  simp only [Option.getD_some, Option.isSome_some] at RD
  rw [hr2] at HE2 R2
  have he2 := HE2.out
  rw [if_pos rfl] at he2
  rw [he2]
  clear he2 hr2 eqb rdu EQB RDU
  generalize decide (u = v) = bb at *
  go_wp2_with (first
    | ((with_reducible refine wg_alloc 34 ?_); refine wpList_alloc_blk rfl 34 rfl (secC zeroS) zero_sec ?_)
    | ((with_reducible refine wg_store 34 (.tmp 7) (.tmp 21) ?_); refine ws_new w4 rfl 34 (.tmp 7) (.tmp 21) rfl (secC Y0.val) 34 (secC zeroS) rfl rfl rfl HY.out ZY.out OY.out ?_)
    | ((with_reducible refine wg_load 34 (.tmp 5) ?_); refine wpList_load_blkG rfl 34 (.tmp 5) rfl w3.heap.size rfl 34 _ BX4.out _ Try.underlying34 rfl HX.out ?_))
  refine (RD.out _).mono ?_
  rintro e w5 ⟨rfl, U5⟩
  have UD := ((U5.trans (up_alloc w5 (.cells (uC u) 27))).trans ((Up.refl (w5.alloc (.cells (uC u) 27))).drew))
  have BW := Lib.hid ((Blk.new w5 27 (uC u)).up ((Up.refl (w5.alloc (.cells (uC u) 27))).drew))
  have BX := Lib.hid (BX4.out.up UD)
  have BY := Lib.hid (BY.out.up UD)
  have BU := Lib.hid (BU4.out.up UD)
  have BV := Lib.hid (BV4.out.up UD)
  have UZ := Lib.hid (U4.out.trans UD)
  clear UD U5 BX4 BU4 BV4 U4 RD R1 R2
  go_wp2_with (first
    | ((with_reducible refine wg_alloc 27 ?_); refine wpList_alloc_blk rfl 27 rfl (uC zUb) zero_ub ?_)
    | ((with_reducible refine wg_store 27 (.tmp 9) (.tmp 44) ?_); refine ws_new w5 rfl 27 (.tmp 9) (.tmp 44) rfl (uC u) 27 (uC zUb) rfl rfl rfl HU.out ZU.out OU.out ?_))
  refine wp_region_held (S := fun W => Up (w5.alloc (.cells (uC u) 27)).drew W) (by kernel_rfl) ?_
  change wpAnyH _ _ _ _ _ 16 _ _ (w5.alloc (.cells (uC u) 27)).drew
  generalize (w5.alloc (.cells (uC u) 27)).drew = wd at *
  generalize hX : secC X0.val = X at *
  generalize hY : secC Y0.val = Y at *
  generalize hCU : uC u = CU at *
  generalize hCV : uC v = CV at *
  obtain ⟨gx, hgx⟩ : ∃ n, n = w3.heap.size := ⟨_, rfl⟩
  obtain ⟨gy, hgy⟩ : ∃ n, n = w4.heap.size := ⟨_, rfl⟩
  obtain ⟨gw, hgw⟩ : ∃ n, n = w5.heap.size := ⟨_, rfl⟩
  rw [← hgx] at BX ⊢
  rw [← hgy] at BY ⊢
  rw [← hgw] at BW ⊢
  clear hX hY hCU hCV hgx hgy hgw
  cases bb
  · (try simp only [Act.put, List.getElem_toArray, List.getElem_cons_succ, List.getElem_cons_zero, List.setIfInBounds_toArray, List.set_cons_zero, List.set_cons_succ])
    refine wpAnyH_take (i := 0) (v := .agg X) rfl (by kernel_rfl) (by kernel_rfl) (by kernel_rfl) (fun _ _ _ h => h) (yi_part rfl 34 (.tmp 5) rfl gx 0 rfl X (fun W hS => Up.range hS BX.out.range) _ Try.underlying34 rfl HX.out) (Up.refl _) ?_
    (try simp only [Act.put, List.getElem_toArray, List.getElem_cons_succ, List.getElem_cons_zero, List.setIfInBounds_toArray, List.set_cons_zero, List.set_cons_succ])
    refine wpAnyH_take (i := 1) (v := .agg Y) rfl (by kernel_rfl) (by kernel_rfl) (by kernel_rfl) (fun _ _ _ h => h) (yi_part rfl 34 (.tmp 7) rfl gy 0 rfl Y (fun W hS => Up.range hS BY.out.range) _ Try.underlying34 rfl HY.out) (Up.refl _) ?_
    (try simp only [Act.put, List.getElem_toArray, List.getElem_cons_succ, List.getElem_cons_zero, List.setIfInBounds_toArray, List.set_cons_zero, List.set_cons_succ])
    refine wpAnyH_take (i := 2) (v := .bool false) rfl (by kernel_rfl) (by kernel_rfl) (by kernel_rfl) (fun _ _ _ h => h) (yi_any rfl (fun _ => by go_simp)) (Up.refl _) ?_
    (try simp only [Act.put, List.getElem_toArray, List.getElem_cons_succ, List.getElem_cons_zero, List.setIfInBounds_toArray, List.set_cons_zero, List.set_cons_succ])
    refine wpAnyH_take (i := 3) (v := .agg CU) rfl (by kernel_rfl) (by kernel_rfl) (by kernel_rfl) (fun _ _ _ h => h) (yi_part rfl 27 (.tmp 2) rfl w.heap.size 0 rfl CU (fun W hS => Up.range hS BU.out.range) _ Try.underlying27 rfl HU.out) (Up.refl _) ?_
    (try simp only [Act.put, List.getElem_toArray, List.getElem_cons_succ, List.getElem_cons_zero, List.setIfInBounds_toArray, List.set_cons_zero, List.set_cons_succ])
    refine wpAnyH_take (i := 4) (v := .agg CV) rfl (by kernel_rfl) (by kernel_rfl) (by kernel_rfl) (fun _ _ _ h => h) (yi_part rfl 27 (.tmp 3) rfl (w.heap.size + 1) 0 rfl CV (fun W hS => Up.range hS BV.out.range) _ Try.underlying27 rfl HV.out) (Up.refl _) ?_
    (try simp only [Act.put, List.getElem_toArray, List.getElem_cons_succ, List.getElem_cons_zero, List.setIfInBounds_toArray, List.set_cons_zero, List.set_cons_succ])
    refine wpAnyH_take (i := 5) (v := .bool false) rfl (by kernel_rfl) (by kernel_rfl) (by kernel_rfl) (fun _ _ _ h => h) (yi_any rfl (fun _ => by go_simp)) (Up.refl _) ?_
    (try simp only [Act.put, List.getElem_toArray, List.getElem_cons_succ, List.getElem_cons_zero, List.setIfInBounds_toArray, List.set_cons_zero, List.set_cons_succ])
    refine wpAnyH_take (i := 6) (v := .bool true) rfl (by kernel_rfl) (by kernel_rfl) (by kernel_rfl) (fun _ _ _ h => h) (yi_any rfl (fun _ => by go_simp)) (Up.refl _) ?_
    (try simp only [Act.put, List.getElem_toArray, List.getElem_cons_succ, List.getElem_cons_zero, List.setIfInBounds_toArray, List.set_cons_zero, List.set_cons_succ])
    refine wpAnyH_take (i := 7) (v := .bool true) rfl (by kernel_rfl) (by kernel_rfl) (by kernel_rfl) (fun _ _ _ h => h) (yi_any rfl (fun _ => by go_simp)) (Up.refl _) ?_
    (try simp only [Act.put, List.getElem_toArray, List.getElem_cons_succ, List.getElem_cons_zero, List.setIfInBounds_toArray, List.set_cons_zero, List.set_cons_succ])
    refine wpAnyH_take (i := 8) (v := .bool true) rfl (by kernel_rfl) (by kernel_rfl) (by kernel_rfl) (fun _ _ _ h => h) (yi_any rfl (fun _ => by go_simp)) (Up.refl _) ?_
    (try simp only [Act.put, List.getElem_toArray, List.getElem_cons_succ, List.getElem_cons_zero, List.setIfInBounds_toArray, List.set_cons_zero, List.set_cons_succ])
    refine wpAnyH_take (i := 9) (v := .bool true) rfl (by kernel_rfl) (by kernel_rfl) (by kernel_rfl) (fun _ _ _ h => h) (yi_any rfl (fun _ => by go_simp)) (Up.refl _) ?_
    (try simp only [Act.put, List.getElem_toArray, List.getElem_cons_succ, List.getElem_cons_zero, List.setIfInBounds_toArray, List.set_cons_zero, List.set_cons_succ])
    refine wpAnyH_take (i := 10) (v := .bool true) rfl (by kernel_rfl) (by kernel_rfl) (by kernel_rfl) (fun _ _ _ h => h) (yi_any rfl (fun _ => by go_simp)) (Up.refl _) ?_
    (try simp only [Act.put, List.getElem_toArray, List.getElem_cons_succ, List.getElem_cons_zero, List.setIfInBounds_toArray, List.set_cons_zero, List.set_cons_succ])
    refine wpAnyH_take (i := 11) (v := .agg CU) rfl (by kernel_rfl) (by kernel_rfl) (by kernel_rfl) (fun _ _ _ h => h) (yi_part rfl 27 (.tmp 9) rfl gw 0 rfl CU (fun W hS => Up.range hS BW.out.range) _ Try.underlying27 rfl HU.out) (Up.refl _) ?_
    (try simp only [Act.put, List.getElem_toArray, List.getElem_cons_succ, List.getElem_cons_zero, List.setIfInBounds_toArray, List.set_cons_zero, List.set_cons_succ])
    refine wpAnyH_take (i := 12) (v := .agg CU) rfl (by kernel_rfl) (by kernel_rfl) (by kernel_rfl) (fun _ _ _ h => h) (yi_part rfl 27 (.tmp 2) rfl w.heap.size 0 rfl CU (fun W hS => Up.range hS BU.out.range) _ Try.underlying27 rfl HU.out) (Up.refl _) ?_
    (try simp only [Act.put, List.getElem_toArray, List.getElem_cons_succ, List.getElem_cons_zero, List.setIfInBounds_toArray, List.set_cons_zero, List.set_cons_succ])
    refine wpAnyH_take (i := 13) (v := .bool true) rfl (by kernel_rfl) (by kernel_rfl) (by kernel_rfl) (fun _ _ _ h => h) (yi_any rfl (fun _ => by go_simp)) (Up.refl _) ?_
    (try simp only [Act.put, List.getElem_toArray, List.getElem_cons_succ, List.getElem_cons_zero, List.setIfInBounds_toArray, List.set_cons_zero, List.set_cons_succ])
    refine wpAnyH_take (i := 14) (v := .bool true) rfl (by kernel_rfl) (by kernel_rfl) (by kernel_rfl) (fun _ _ _ h => h) (yi_any rfl (fun _ => by go_simp)) (Up.refl _) ?_
    (try simp only [Act.put, List.getElem_toArray, List.getElem_cons_succ, List.getElem_cons_zero, List.setIfInBounds_toArray, List.set_cons_zero, List.set_cons_succ])
    refine wpAnyH_take (i := 15) (v := .bool true) rfl (by kernel_rfl) (by kernel_rfl) (by kernel_rfl) (fun _ _ _ h => h) (yi_any rfl (fun _ => by go_simp)) (Up.refl _) ?_
    (try simp only [Act.put, List.getElem_toArray, List.getElem_cons_succ, List.getElem_cons_zero, List.setIfInBounds_toArray, List.set_cons_zero, List.set_cons_succ])
    refine ⟨by kernel_rfl, ?_⟩
    (try simp only [Exit.then])
    go_wp2_with fail
    go_ret
    exact ⟨rfl, UZ.out⟩
  · (try simp only [Act.put, List.getElem_toArray, List.getElem_cons_succ, List.getElem_cons_zero, List.setIfInBounds_toArray, List.set_cons_zero, List.set_cons_succ])
    refine wpAnyH_take (i := 0) (v := .agg X) rfl (by kernel_rfl) (by kernel_rfl) (by kernel_rfl) (fun _ _ _ h => h) (yi_part rfl 34 (.tmp 5) rfl gx 0 rfl X (fun W hS => Up.range hS BX.out.range) _ Try.underlying34 rfl HX.out) (Up.refl _) ?_
    (try simp only [Act.put, List.getElem_toArray, List.getElem_cons_succ, List.getElem_cons_zero, List.setIfInBounds_toArray, List.set_cons_zero, List.set_cons_succ])
    refine wpAnyH_take (i := 1) (v := .agg Y) rfl (by kernel_rfl) (by kernel_rfl) (by kernel_rfl) (fun _ _ _ h => h) (yi_part rfl 34 (.tmp 7) rfl gy 0 rfl Y (fun W hS => Up.range hS BY.out.range) _ Try.underlying34 rfl HY.out) (Up.refl _) ?_
    (try simp only [Act.put, List.getElem_toArray, List.getElem_cons_succ, List.getElem_cons_zero, List.setIfInBounds_toArray, List.set_cons_zero, List.set_cons_succ])
    refine wpAnyH_take (i := 2) (v := .bool true) rfl (by kernel_rfl) (by kernel_rfl) (by kernel_rfl) (fun _ _ _ h => h) (yi_any rfl (fun _ => by go_simp)) (Up.refl _) ?_
    (try simp only [Act.put, List.getElem_toArray, List.getElem_cons_succ, List.getElem_cons_zero, List.setIfInBounds_toArray, List.set_cons_zero, List.set_cons_succ])
    refine wpAnyH_take (i := 3) (v := .agg CU) rfl (by kernel_rfl) (by kernel_rfl) (by kernel_rfl) (fun _ _ _ h => h) (yi_part rfl 27 (.tmp 2) rfl w.heap.size 0 rfl CU (fun W hS => Up.range hS BU.out.range) _ Try.underlying27 rfl HU.out) (Up.refl _) ?_
    (try simp only [Act.put, List.getElem_toArray, List.getElem_cons_succ, List.getElem_cons_zero, List.setIfInBounds_toArray, List.set_cons_zero, List.set_cons_succ])
    refine wpAnyH_take (i := 4) (v := .agg CV) rfl (by kernel_rfl) (by kernel_rfl) (by kernel_rfl) (fun _ _ _ h => h) (yi_part rfl 27 (.tmp 3) rfl (w.heap.size + 1) 0 rfl CV (fun W hS => Up.range hS BV.out.range) _ Try.underlying27 rfl HV.out) (Up.refl _) ?_
    (try simp only [Act.put, List.getElem_toArray, List.getElem_cons_succ, List.getElem_cons_zero, List.setIfInBounds_toArray, List.set_cons_zero, List.set_cons_succ])
    refine wpAnyH_take (i := 5) (v := .bool true) rfl (by kernel_rfl) (by kernel_rfl) (by kernel_rfl) (fun _ _ _ h => h) (yi_any rfl (fun _ => by go_simp)) (Up.refl _) ?_
    (try simp only [Act.put, List.getElem_toArray, List.getElem_cons_succ, List.getElem_cons_zero, List.setIfInBounds_toArray, List.set_cons_zero, List.set_cons_succ])
    refine wpAnyH_take (i := 6) (v := .bool true) rfl (by kernel_rfl) (by kernel_rfl) (by kernel_rfl) (fun _ _ _ h => h) (yi_any rfl (fun _ => by go_simp)) (Up.refl _) ?_
    (try simp only [Act.put, List.getElem_toArray, List.getElem_cons_succ, List.getElem_cons_zero, List.setIfInBounds_toArray, List.set_cons_zero, List.set_cons_succ])
    refine wpAnyH_take (i := 7) (v := .bool true) rfl (by kernel_rfl) (by kernel_rfl) (by kernel_rfl) (fun _ _ _ h => h) (yi_any rfl (fun _ => by go_simp)) (Up.refl _) ?_
    (try simp only [Act.put, List.getElem_toArray, List.getElem_cons_succ, List.getElem_cons_zero, List.setIfInBounds_toArray, List.set_cons_zero, List.set_cons_succ])
    refine wpAnyH_take (i := 8) (v := .bool true) rfl (by kernel_rfl) (by kernel_rfl) (by kernel_rfl) (fun _ _ _ h => h) (yi_any rfl (fun _ => by go_simp)) (Up.refl _) ?_
    (try simp only [Act.put, List.getElem_toArray, List.getElem_cons_succ, List.getElem_cons_zero, List.setIfInBounds_toArray, List.set_cons_zero, List.set_cons_succ])
    refine wpAnyH_take (i := 9) (v := .bool true) rfl (by kernel_rfl) (by kernel_rfl) (by kernel_rfl) (fun _ _ _ h => h) (yi_any rfl (fun _ => by go_simp)) (Up.refl _) ?_
    (try simp only [Act.put, List.getElem_toArray, List.getElem_cons_succ, List.getElem_cons_zero, List.setIfInBounds_toArray, List.set_cons_zero, List.set_cons_succ])
    refine wpAnyH_take (i := 10) (v := .bool true) rfl (by kernel_rfl) (by kernel_rfl) (by kernel_rfl) (fun _ _ _ h => h) (yi_any rfl (fun _ => by go_simp)) (Up.refl _) ?_
    (try simp only [Act.put, List.getElem_toArray, List.getElem_cons_succ, List.getElem_cons_zero, List.setIfInBounds_toArray, List.set_cons_zero, List.set_cons_succ])
    refine wpAnyH_take (i := 11) (v := .agg CU) rfl (by kernel_rfl) (by kernel_rfl) (by kernel_rfl) (fun _ _ _ h => h) (yi_part rfl 27 (.tmp 9) rfl gw 0 rfl CU (fun W hS => Up.range hS BW.out.range) _ Try.underlying27 rfl HU.out) (Up.refl _) ?_
    (try simp only [Act.put, List.getElem_toArray, List.getElem_cons_succ, List.getElem_cons_zero, List.setIfInBounds_toArray, List.set_cons_zero, List.set_cons_succ])
    refine wpAnyH_take (i := 12) (v := .agg CU) rfl (by kernel_rfl) (by kernel_rfl) (by kernel_rfl) (fun _ _ _ h => h) (yi_part rfl 27 (.tmp 2) rfl w.heap.size 0 rfl CU (fun W hS => Up.range hS BU.out.range) _ Try.underlying27 rfl HU.out) (Up.refl _) ?_
    (try simp only [Act.put, List.getElem_toArray, List.getElem_cons_succ, List.getElem_cons_zero, List.setIfInBounds_toArray, List.set_cons_zero, List.set_cons_succ])
    refine wpAnyH_take (i := 13) (v := .bool true) rfl (by kernel_rfl) (by kernel_rfl) (by kernel_rfl) (fun _ _ _ h => h) (yi_any rfl (fun _ => by go_simp)) (Up.refl _) ?_
    (try simp only [Act.put, List.getElem_toArray, List.getElem_cons_succ, List.getElem_cons_zero, List.setIfInBounds_toArray, List.set_cons_zero, List.set_cons_succ])
    refine wpAnyH_take (i := 14) (v := .bool true) rfl (by kernel_rfl) (by kernel_rfl) (by kernel_rfl) (fun _ _ _ h => h) (yi_any rfl (fun _ => by go_simp)) (Up.refl _) ?_
    (try simp only [Act.put, List.getElem_toArray, List.getElem_cons_succ, List.getElem_cons_zero, List.setIfInBounds_toArray, List.set_cons_zero, List.set_cons_succ])
    refine wpAnyH_take (i := 15) (v := .bool true) rfl (by kernel_rfl) (by kernel_rfl) (by kernel_rfl) (fun _ _ _ h => h) (yi_any rfl (fun _ => by go_simp)) (Up.refl _) ?_
    (try simp only [Act.put, List.getElem_toArray, List.getElem_cons_succ, List.getElem_cons_zero, List.setIfInBounds_toArray, List.set_cons_zero, List.set_cons_succ])
    refine ⟨by kernel_rfl, ?_⟩
    (try simp only [Exit.then])
    go_wp2_with fail
    go_ret
    exact ⟨rfl, UZ.out⟩

end Go.Proofs.Ytgmdhedabmkcoaa
