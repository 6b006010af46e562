/- UberBytes: the walk. -/
import Derived.Test.YtgmdhedabmkcoaaUbM
import Derived.Test.YtgmdhedabmkcoaaUbJ
import Derived.Test.YtgmdhedabmkcoaaArrO
import Derived.Lib.QuietBelow
set_option linter.unusedSimpArgs false
set_option linter.unusedVariables false
namespace Go.Proofs.Ytgmdhedabmkcoaa
open Go.RowKit Go.Sort

theorem qg_loadU {P : Program} {a : Act} {C : World → Prop} {K : Act → Prop} {dst : Option Tmp} {type : TypeId} {pos : String} {after : Array Edge} {guard : Option (Nat × Bool)} (ty : TypeId) (x : Operand)
    (h : Oper.quiet P { dst := dst, op := .load ty x, type := type, pos := pos, after := after, guard := guard } a C K) : Oper.quiet P { dst := dst, op := .load ty x, type := type, pos := pos, after := after, guard := guard } a C K := h
set_option maxRecDepth 100000 in
set_option maxHeartbeats 8000000 in
theorem uberBytes_walk (w : World) (u : UbD) (hu : u.wf) (s : List UInt8) (hs : s.length = 128) :
    Calls Try.prog 4 #[.agg (uC u), .agg (secC s)] w fun e w' => e = .returned (.bool true) ∧ Up w w' := by
  have UA := up_alloc w (.cells (uC u) 27)
  have UA2 := up_alloc (w.alloc (.cells (uC u) 27)) (.cells (secC s) 34)
  have BU := Lib.hid ((Blk.new w 27 (uC u)).up UA2)
  have bs := Blk.new (w.alloc (.cells (uC u) 27)) 34 (secC s)
  rw [sz_alloc] at bs
  have BS := Lib.hid bs
  have UW := Lib.hid (UA.trans UA2)
  have HIU := Lib.hid (info_uV u)
  have HIS := Lib.hid (show (Try.prog.info? 34).map (·.size) = some (secC s).size by rw [secC_size, hs]; exact info_sec)
  have AL := Lib.hid uberAlive_any
  have C1 := Lib.hid (fun W => ubytes_any W u hu)
  have C2 := Lib.hid (fun W => urefBytes_any W u hu)
  have C3 := Lib.hid (fun W => uread_any W s hs)
  have C4 := Lib.hid (fun W => urefRead_any W s hs)
  unfold URead at C3 C4
  have R1 := Lib.hid (fun W => uright_any W u)
  have R2 := Lib.hid (fun W => urefRight_any W u)
  have HIX := Lib.hid (info_secU (ubV u))
  have HOX := Lib.hid (secC_one (ubV u).val)
  have HZX := Lib.hid (show (secC zeroS).size = (secC (ubV u).val).size by rw [secC_size, secC_size, (ubV u).property]; rfl)
  have EQS : ∀ W : World, (Op.equalIn 10000 34 (.agg (secC (ubV u).val)) (.agg (secC (ubV u).val))).run Try.prog W = .ok true W := fun W => by rw [sec_eq _ _ (ubV u).property (ubV u).property W, decide_eq_true rfl]
  generalize (ubV u).val = X at *
  generalize ubE u = E at *
  generalize rightU u = br at *
  generalize (uread s).isSome = ok at *
  obtain ⟨V, hV⟩ : ∃ x, x = (uread s).getD zUb := ⟨_, rfl⟩
  rw [← hV] at C3 C4
  have HIV := Lib.hid (info_uV V)
  have HOV := Lib.hid (uC_one V)
  have HZV := Lib.hid (show (uC zUb).size = (uC V).size from rfl)
  have EQU : ∀ W : World, (Op.equalIn 10000 27 (.agg (uC V)) (.agg (uC V))).run Try.prog W = .ok true W := fun W => by rw [ub_eq, decide_eq_true rfl]
  clear UA UA2 bs hu hs hV
  go_enter Try.func4, Try.ntmps4
  go_wp2_with (first
    | ((with_reducible refine wg_load 27 (.tmp 2) ?_); refine wpList_load_blkG rfl 27 (.tmp 2) rfl w.heap.size rfl 27 _ BU.out _ Try.underlying27 rfl HIU.out ?_))
  refine (C1.out _).mono ?_
  rintro e w2 ⟨rfl, U2⟩
  have UX := U2.trans (up_alloc w2 (.cells (secC X) 34))
  have BX2 := Lib.hid (Blk.new w2 34 (secC X))
  have BU := Lib.hid (BU.out.up UX)
  have BS := Lib.hid (BS.out.up UX)
  have UW := Lib.hid (UW.out.trans UX)
  clear UX U2 C1
  go_wp2_with (first
    | ((with_reducible refine wg_alloc 34 ?_); refine wpList_alloc_blk rfl 34 rfl (secC zeroS) zero_sec ?_)
    | ((with_reducible refine wg_store 34 (.tmp 5) (.tmp 16) ?_); refine ws_new w2 rfl 34 (.tmp 5) (.tmp 16) rfl (secC X) 34 (secC zeroS) rfl rfl rfl HIX.out HZX.out HOX.out ?_)
    | ((with_reducible refine wg_load 27 (.tmp 2) ?_); refine wpList_load_blkG rfl 27 (.tmp 2) rfl w.heap.size rfl 27 _ BU.out _ Try.underlying27 rfl HIU.out ?_))
  refine (C2.out _).mono ?_
  rintro e w3 ⟨rfl, U3⟩
  have UX := U3.trans (up_alloc w3 (.cells (secC X) 34))
  have BX3 := Lib.hid (Blk.new w3 34 (secC X))
  have BU := Lib.hid (BU.out.up UX)
  have BS := Lib.hid (BS.out.up UX)
  have BX2 := Lib.hid (BX2.out.up UX)
  have UW := Lib.hid (UW.out.trans UX)
  clear UX U3 C2
  go_wp2_with (first
    | ((with_reducible refine wg_alloc 34 ?_); refine wpList_alloc_blk rfl 34 rfl (secC zeroS) zero_sec ?_)
    | ((with_reducible refine wg_store 34 (.tmp 7) (.tmp 21) ?_); refine ws_new w3 rfl 34 (.tmp 7) (.tmp 21) rfl (secC X) 34 (secC zeroS) rfl rfl rfl HIX.out HZX.out HOX.out ?_)
    | ((with_reducible refine wg_load 34 (.tmp 3) ?_); refine wpList_load_blkG rfl 34 (.tmp 3) rfl (w.heap.size + 1) rfl 34 _ BS.out _ Try.underlying34 rfl HIS.out ?_))
  refine (C3.out _).mono ?_
  rintro e w4 ⟨rfl, U4⟩
  have UX := U4.trans (up_alloc w4 (.cells (uC V) 27))
  have BX4 := Lib.hid (Blk.new w4 27 (uC V))
  have BU := Lib.hid (BU.out.up UX)
  have BS := Lib.hid (BS.out.up UX)
  have BX2 := Lib.hid (BX2.out.up UX)
  have BX3 := Lib.hid (BX3.out.up UX)
  have UW := Lib.hid (UW.out.trans UX)
  clear UX U4 C3
  go_wp2_with (first
    | ((with_reducible refine wg_alloc 27 ?_); refine wpList_alloc_blk rfl 27 rfl (uC zUb) zero_ub ?_)
    | ((with_reducible refine wg_store 27 (.tmp 9) (.tmp 26) ?_); refine ws_new w4 rfl 27 (.tmp 9) (.tmp 26) rfl (uC V) 27 (uC zUb) rfl rfl rfl HIV.out HZV.out HOV.out ?_)
    | ((with_reducible refine wg_load 34 (.tmp 3) ?_); refine wpList_load_blkG rfl 34 (.tmp 3) rfl (w.heap.size + 1) rfl 34 _ BS.out _ Try.underlying34 rfl HIS.out ?_))
  refine (C4.out _).mono ?_
  rintro e w5 ⟨rfl, U5⟩
  have UX := U5.trans (up_alloc w5 (.cells (uC V) 27))
  have BX5 := Lib.hid (Blk.new w5 27 (uC V))
  have BU := Lib.hid (BU.out.up UX)
  have BS := Lib.hid (BS.out.up UX)
  have BX2 := Lib.hid (BX2.out.up UX)
  have BX3 := Lib.hid (BX3.out.up UX)
  have BX4 := Lib.hid (BX4.out.up UX)
  have UW := Lib.hid (UW.out.trans UX)
  clear UX U5 C4
  go_wp2_with (first
    | ((with_reducible refine wg_alloc 27 ?_); refine wpList_alloc_blk rfl 27 rfl (uC zUb) zero_ub ?_)
    | ((with_reducible refine wg_store 27 (.tmp 11) (.tmp 31) ?_); refine ws_new w5 rfl 27 (.tmp 11) (.tmp 31) rfl (uC V) 27 (uC zUb) rfl rfl rfl HIV.out HZV.out HOV.out ?_))
  generalize hw6 : w5.alloc (.cells (uC V) 27) = w6 at *
  clear hw6
  unfold BoolUp at R1 R2
  have bb : (br == br) = true := by simp
  have bo : (ok == ok) = true := by simp
  have be : (E == E) = true := by simp
  refine wp_region_quiet_below (by kernel_rfl) (by kernel_rfl) ?_
  repeat (first
    | (go_big_quiet_want; (with_reducible refine qg_loadU 27 (.tmp 2) ?_); refine quiet_load_blk 27 (.tmp 2) rfl w.heap.size rfl 27 _ BU.out.cls _ Try.underlying27 rfl HIU.out ?_; go_big_quiet_on; go_simp)
    | (go_big_quiet_want; (with_reducible refine qg_loadU 34 (.tmp 5) ?_); refine quiet_load_blk 34 (.tmp 5) rfl w2.heap.size rfl 34 _ BX2.out.cls _ Try.underlying34 rfl HIX.out ?_; go_big_quiet_on; go_simp)
    | (go_big_quiet_want; (with_reducible refine qg_loadU 34 (.tmp 7) ?_); refine quiet_load_blk 34 (.tmp 7) rfl w3.heap.size rfl 34 _ BX3.out.cls _ Try.underlying34 rfl HIX.out ?_; go_big_quiet_on; go_simp)
    | (go_big_quiet_want; (with_reducible refine qg_loadU 27 (.tmp 9) ?_); refine quiet_load_blk 27 (.tmp 9) rfl w4.heap.size rfl 27 _ BX4.out.cls _ Try.underlying27 rfl HIV.out ?_; go_big_quiet_on; go_simp)
    | (go_big_quiet_want; (with_reducible refine qg_loadU 27 (.tmp 11) ?_); refine quiet_load_blk 27 (.tmp 11) rfl w5.heap.size rfl 27 _ BX5.out.cls _ Try.underlying27 rfl HIV.out ?_; go_big_quiet_on; go_simp)
    | (go_big_quiet_step (first | (go_at_call 11; exact Calls.regrown_of (AL.out _)) | (go_at_call 16; exact Calls.regrown_of (R1.out _)) | (go_at_call 17; exact Calls.regrown_of (R2.out _)))))
  refine wpQuiet_nil ?_
  intro p
  obtain ⟨w7, hw7⟩ : ∃ x, x = grow (redrawn w6 p.d) p.os := ⟨_, rfl⟩
  rw [← hw7]
  have up7 : Up w6 w7 := by rw [hw7]; exact below_regrown _ _ _
  clear hw7
  go_wp2_with fail
  go_ret
  exact ⟨rfl, UW.out.trans up7⟩

end Go.Proofs.Ytgmdhedabmkcoaa
