/- Commit: the walk. -/
import Derived.Test.YtgmdhedabmkcoaaUbE
import Derived.Test.YtgmdhedabmkcoaaDevA
import Derived.Test.YtgmdhedabmkcoaaDevX
import Derived.Test.YtgmdhedabmkcoaaDevF
set_option linter.unusedSimpArgs false
set_option linter.unusedVariables false
namespace Go.Proofs.Ytgmdhedabmkcoaa
open Go.RowKit Go.Sort

/-- One call after the other. -/
theorem turned_trans {w w1 w2 : World} {h : Hnd} {vp : Value} {v1 v2 : DevD} (D1 : Dv w1 { h with vp := vp } v1) (T1 : Touch (Foot h) w w1) (hv : ∀ b, vp.ownBlock = some b → h.vp.ownBlock = some b ∨ w.heap.size ≤ b) (T : Turned w1 { h with vp := vp } v2 w2) : Turned w h v2 w2 := by
  obtain ⟨vp2, D2, T2, h2⟩ := T
  refine ⟨vp2, D2, T1.trans T2 (fun n hn hlt => ?_), fun b hb => ?_⟩
  · rcases Turned.foot (w' := w1) hv n hn with h | h
    · exact h
    · omega
  · rcases h2 b hb with h | h
    · exact hv b h
    · exact .inr (Nat.le_trans T1.size h)
/-- .. behind what only makes. -/
theorem turned_up {w w1 w2 : World} {h : Hnd} {v2 : DevD} (U : Up w w1) (T : Turned w1 h v2 w2) : Turned w h v2 w2 := by
  obtain ⟨vp2, D2, T2, h2⟩ := T
  refine ⟨vp2, D2, (Touch.of_up (F := Foot h) U).trans T2 (fun n hn _ => hn), fun b hb => ?_⟩
  rcases h2 b hb with h | h
  · exact .inl h
  · exact .inr (Nat.le_trans U.size h)
theorem turned_then {w w1 w2 : World} {h : Hnd} {v : DevD} (T : Turned w h v w1) (U : Up w1 w2) : Turned w h v w2 := by
  obtain ⟨vp2, D2, T2, h2⟩ := T
  exact ⟨vp2, D2.up U, T2.trans (Touch.of_up (F := fun _ => False) U) (fun n hn _ => hn.elim), h2⟩
/-- A block that is none of the device's stays. -/
theorem blk_turned {w w' : World} {h : Hnd} {v : DevD} {g : Nat} {t : TypeId} {C : Array Value} (hb : Blk w g t C) (T : Turned w h v w') (hf : ¬ Foot h g) : Blk w' g t C := by
  obtain ⟨_, _, T2, _⟩ := T
  exact hb.touch T2 hf
/-- The device behind a commit; the error's number. -/
def DevD.commit1 (v : DevD) (u : UbD) : DevD := (v.flushed).written ((u.txg % 4 : Nat) : Int) (ubV u)
def DevD.committed (v : DevD) (u : UbD) : DevD :=
  if rightU u = true then (if v.flushE = 0 then (if v.flushed.writeE ((u.txg % 4 : Nat) : Int) = 0 then (v.commit1 u).flushed else v.commit1 u) else v.flushed) else v
def DevD.commitE (v : DevD) (u : UbD) : Int :=
  if rightU u = true then (if v.flushE = 0 then (if v.flushed.writeE ((u.txg % 4 : Nat) : Int) = 0 then (v.commit1 u).flushE else v.flushed.writeE ((u.txg % 4 : Nat) : Int)) else v.flushE) else 61
theorem flushE_cases (v : DevD) : v.flushE = 0 ∨ v.flushE = 42 := by unfold DevD.flushE; split <;> simp
theorem writeE_cases (v : DevD) (i : Int) : v.writeE i = 0 ∨ v.writeE i = 42 ∨ v.writeE i = 41 := by unfold DevD.writeE; split <;> (try split) <;> simp
theorem flushed_pend {v : DevD} : v.flushed.pend.length ≤ v.pend.length := by
  unfold DevD.flushed
  split
  · simp
  · rw [(spent_same _).1]; exact Nat.le_refl _
theorem written_pend {v : DevD} {i : Int} {s : Sec} : (v.written i s).pend.length ≤ v.pend.length + 1 := by
  have h1 := (spent_same v.counted).1
  unfold DevD.written DevD.put
  split
  · split
    · simp only [List.length_append, List.length_cons, List.length_nil]
      rw [h1]
      exact Nat.le_refl _
    · rw [h1]
      exact Nat.le_succ _
  · exact Nat.le_succ _

set_option maxRecDepth 100000 in
set_option maxHeartbeats 8000000 in
theorem commit_any (w : World) (h : Hnd) (v : DevD) (D : Dv w h v) (u : UbD) (hwf : u.wf) (hr : v.pend.length ≤ 100000) :
    Calls Try.prog 19 #[.pointer (some ⟨h.d, 0, none⟩), .agg (uC u)] w fun e w' => e = .returned (.int .i64 (v.commitE u)) ∧ Turned w h (v.committed u) w' := by
  have HI := Lib.hid (info_uV u)
  have B1 := Lib.hid (Blk.new w 27 (uC u))
  have U1 := Lib.hid (up_alloc w (.cells (uC u) 27))
  have BY := Lib.hid (fun W => ubytes_any W u hwf)
  have DH := Lib.hid D
  have HR := Lib.hid hr
  have SLT := Lib.hid (fun W => slot_any W u)
  have CE := Lib.hid (show v.commitE u = if rightU u = true then (if v.flushE = 0 then (if v.flushed.writeE ((u.txg % 4 : Nat) : Int) = 0 then (v.commit1 u).flushE else v.flushed.writeE ((u.txg % 4 : Nat) : Int)) else v.flushE) else 61 from rfl)
  have CD := Lib.hid (show v.committed u = if rightU u = true then (if v.flushE = 0 then (if v.flushed.writeE ((u.txg % 4 : Nat) : Int) = 0 then (v.commit1 u).flushed else v.commit1 u) else v.flushed) else v from rfl)
  have C1 := Lib.hid (show v.commit1 u = (v.flushed).written ((u.txg % 4 : Nat) : Int) (ubV u) from rfl)
  have HTX := Lib.hid (show u.txg % 4 < 4 by omega)
  have HUE := Lib.hid (show ubE u = if rightU u = true then 0 else 61 from rfl)
  have NF1 := Lib.hid (show ¬ Foot h w.heap.size from fun hf => by have := D.foot_lt _ hf; omega)
  have HO1 := Lib.hid (secC_one (ubV u).val)
  have HZV := Lib.hid (show (secC zeroS).size = (secC (ubV u).val).size by rw [secC_size, secC_size, (ubV u).property]; rfl)
  have HIV := Lib.hid (info_secU (ubV u))
  clear hwf hr D
  generalize u.txg % 4 = tx at *
  go_enter Try.func19, Try.ntmps19
  go_wp2_with (first
    | ((with_reducible refine wg_load 27 (.tmp 3) ?_); refine wpList_load_blkG rfl 27 (.tmp 3) rfl w.heap.size rfl 27 _ B1.out _ Try.underlying27 rfl HI.out ?_))
  refine (BY.out _).mono ?_
  rintro e w2 ⟨rfl, U2⟩
  have UX := up_alloc w2 (.cells (secC (ubV u).val) 34)
  have BV := Lib.hid (Blk.new w2 34 (secC (ubV u).val))
  have B3 := Lib.hid (B1.out.up (U2.trans UX))
  have U3 := Lib.hid (U1.out.trans (U2.trans UX))
  have D3 := Lib.hid (DH.out.up U3.out)
  have NF2 := Lib.hid (show ¬ Foot h w2.heap.size from fun hf => by have := DH.out.foot_lt _ hf; have := (U1.out.trans U2).size; omega)
  have UW2 := Lib.hid (show w.heap.size < w2.heap.size by have := (U1.out.trans U2).size; have h2 := U2.size; rw [sz_alloc] at h2; omega)
  clear U2 UX B1 U1 DH BY
  generalize ubV u = V at *
  cases hru : rightU u
  · rw [hru] at CE CD HUE
    have hue := HUE.out
    rw [if_neg (by simp)] at hue
    rw [hue]
    clear hru hue
    go_wp2_with (first
      | ((with_reducible refine wg_alloc 34 ?_); refine wpList_alloc_blk rfl 34 rfl (secC zeroS) zero_sec ?_)
      | ((with_reducible refine wg_store 34 (.tmp 5) (.tmp 12) ?_); refine ws_new w2 rfl 34 (.tmp 5) (.tmp 12) rfl (secC V.val) 34 (secC zeroS) rfl rfl rfl HIV.out HZV.out HO1.out ?_))
    go_ret
    refine ⟨by rw [CE.out] <;> rfl, ?_⟩
    rw [CD.out]
    exact turned_up U3.out (Turned.same D3.out (Touch.refl _ _))
  rw [hru] at CE CD HUE
  have hue := HUE.out
  rw [if_pos rfl] at hue
  rw [hue]
  have ce := CE.out
  have cd := CD.out
  rw [if_pos rfl] at ce cd
  have CE1 := Lib.hid ce
  have CD1 := Lib.hid cd
  have LT1 := Lib.hid (show w.heap.size < (w2.alloc (.cells (secC V.val) 34)).heap.size by rw [sz_alloc]; have := UW2.out; omega)
  have LT2 := Lib.hid (show w2.heap.size < (w2.alloc (.cells (secC V.val) 34)).heap.size by rw [sz_alloc]; omega)
  clear hru hue ce cd CE CD
  have FL := Lib.hid (dflush_any _ h v D3.out (by have := HR.out; omega))
  go_wp2_with (first
    | ((with_reducible refine wg_alloc 34 ?_); refine wpList_alloc_blk rfl 34 rfl (secC zeroS) zero_sec ?_)
    | ((with_reducible refine wg_store 34 (.tmp 5) (.tmp 12) ?_); refine ws_new w2 rfl 34 (.tmp 5) (.tmp 12) rfl (secC V.val) 34 (secC zeroS) rfl rfl rfl HIV.out HZV.out HO1.out ?_))
  refine FL.out.mono ?_
  rintro e w4 ⟨rfl, T4⟩
  have FE := flushE_cases v
  have B4 := Lib.hid (blk_turned B3.out T4 NF1.out)
  have BV4 := Lib.hid (blk_turned BV.out T4 NF2.out)
  have T4U := Lib.hid T4
  clear FL D3 B3 BV T4
  rcases FE with fe | fe
  rotate_left
  · have ce := CE1.out
    have cd := CD1.out
    rw [if_neg (show ¬ v.flushE = 0 by rw [fe]; omega)] at ce cd
    have CE2 := Lib.hid ce
    have CD2 := Lib.hid cd
    rw [fe]
    clear ce cd
    have FEH := Lib.hid fe
    clear fe
    go_wp2_with fail
    go_ret
    refine ⟨by rw [CE2.out, FEH.out] <;> rfl, ?_⟩
    rw [CD2.out]
    exact turned_up U3.out T4U.out
  have ce := CE1.out
  have cd := CD1.out
  rw [if_pos fe] at ce cd
  rw [fe]
  have CE2 := Lib.hid ce
  have CD2 := Lib.hid cd
  clear ce cd fe
  obtain ⟨vp, D4, T4, hvp⟩ := T4U.out
  have D4 := Lib.hid D4
  have T4 := Lib.hid T4
  have HVP := Lib.hid hvp
  clear T4U hvp
  obtain ⟨h4, hh4⟩ : ∃ x : Hnd, x = { h with vp := vp } := ⟨_, rfl⟩
  have H4 := Lib.hid hh4
  rw [← hh4] at D4
  have hd4 : h4.d = h.d := by rw [hh4]
  have NF1 := Lib.hid (show ¬ Foot h4 w.heap.size from fun hf => by
    rw [hh4] at hf
    rcases Turned.foot (w' := w4) HVP.out _ hf with hf | hf
    · exact NF1.out hf
    · have := LT1.out; omega)
  have NF2 := Lib.hid (show ¬ Foot h4 w2.heap.size from fun hf => by
    rw [hh4] at hf
    rcases Turned.foot (w' := w4) HVP.out _ hf with hf | hf
    · exact NF2.out hf
    · have := LT2.out; omega)
  have SLC := SLT.out
  have PE := Lib.hid (show v.flushed.pend.length ≤ 100000 from Nat.le_trans flushed_pend HR.out)
  have WR := Lib.hid (show ∀ W, Dv W h4 v.flushed → Calls Try.prog 22 #[.pointer (some ⟨h.d, 0, none⟩), .int .i64 (tx : Int), .agg (secC V.val)] W fun e w' => e = .returned (.int .i64 (v.flushed.writeE (tx : Int))) ∧ Turned W h4 (v.flushed.written (tx : Int) V) w' from fun W DW => by
    have := dwrite_any W h4 v.flushed DW (tx : Int) (by have := HTX.out; omega) V (by have := PE.out; omega)
    rw [hd4] at this
    exact this)
  clear hh4 hd4 SLC
  go_wp2_with fail
  refine wp_region_held (S := fun W => Blk W w.heap.size 27 (uC u) ∧ Blk W w2.heap.size 34 (secC V.val)) (by kernel_rfl) ?_
  change wpAnyH _ _ _ _ _ 6 _ _ w4.drew
  have UD : Up w4 w4.drew := (Up.refl w4).drew
  have D5 := Lib.hid (D4.out.up UD)
  have B5 := Lib.hid (B4.out.up UD)
  have BV5 := Lib.hid (BV4.out.up UD)
  have T5 := Lib.hid (T4.out.trans (Touch.of_up (F := fun _ => False) UD) (fun n hn _ => hn.elim))
  clear D4 B4 BV4 T4 UD
  generalize w4.drew = w5 at *
  (try simp only [Act.put, List.getElem_toArray, List.getElem_cons_succ, List.getElem_cons_zero, List.setIfInBounds_toArray, List.set_cons_zero, List.set_cons_succ])
  refine wpAnyH_take (i := 0) (v := .pointer (some ⟨h.d, 0, none⟩)) rfl (by kernel_rfl) (by kernel_rfl) (by kernel_rfl) (fun _ _ _ h => h) (yi_any rfl (fun _ => by go_simp)) ⟨B5.out, BV5.out⟩ ?_
  (try simp only [Act.put, List.getElem_toArray, List.getElem_cons_succ, List.getElem_cons_zero, List.setIfInBounds_toArray, List.set_cons_zero, List.set_cons_succ])
  refine wpAnyH_take (i := 1) (v := .agg (uC u)) rfl (by kernel_rfl) (by kernel_rfl) (by kernel_rfl) (fun _ _ _ h => h) (yi_part rfl 27 (.tmp 3) rfl w.heap.size 0 rfl (uC u) (fun W hS => hS.1.range) _ Try.underlying27 rfl HI.out) ⟨B5.out, BV5.out⟩ ?_
  (try simp only [Act.put, List.getElem_toArray, List.getElem_cons_succ, List.getElem_cons_zero, List.setIfInBounds_toArray, List.set_cons_zero, List.set_cons_succ])
  refine wpAnyH_take (i := 3) (v := .agg (secC V.val)) rfl (by kernel_rfl) (by kernel_rfl) (by kernel_rfl) (fun _ _ _ h => h) (yi_part rfl 34 (.tmp 5) rfl w2.heap.size 0 rfl (secC V.val) (fun W hS => hS.2.range) _ Try.underlying34 rfl HIV.out) ⟨B5.out, BV5.out⟩ ?_
  (try simp only [Act.put, List.getElem_toArray, List.getElem_cons_succ, List.getElem_cons_zero, List.setIfInBounds_toArray, List.set_cons_zero, List.set_cons_succ])
  refine wpAnyH_oneK 2 (by kernel_rfl) rfl rfl ?_
  intro K hK
  go_simp
  refine (SLT.out w5).mono ?_
  rintro e w6 ⟨rfl, U6⟩
  refine hK _ _ ⟨B5.out.up U6, BV5.out.up U6⟩ ?_
  clear hK K
  (try simp only [Act.put, List.getElem_toArray, List.getElem_cons_succ, List.getElem_cons_zero, List.setIfInBounds_toArray, List.set_cons_zero, List.set_cons_succ])
  have B6 := Lib.hid (B5.out.up U6)
  have BV6 := Lib.hid (BV5.out.up U6)
  have D6 := D5.out.up U6
  have T6 := Lib.hid (T5.out.trans (Touch.of_up (F := fun _ => False) U6) (fun n hn _ => hn.elim))
  clear D5 B5 BV5 T5 U6
  refine wpAnyH_oneK 4 (by kernel_rfl) rfl rfl ?_
  intro K hK
  go_simp
  refine (WR.out w6 D6).mono ?_
  rintro e w7 ⟨rfl, T7⟩
  refine hK _ _ ⟨blk_turned B6.out T7 NF1.out, blk_turned BV6.out T7 NF2.out⟩ ?_
  clear hK K
  (try simp only [Act.put, List.getElem_toArray, List.getElem_cons_succ, List.getElem_cons_zero, List.setIfInBounds_toArray, List.set_cons_zero, List.set_cons_succ])
  refine wpAnyH_take (i := 5) (v := .int .i64 (v.flushed.writeE (tx : Int))) rfl (by kernel_rfl) (by kernel_rfl) (by kernel_rfl) (fun _ _ _ h => h) (yi_any rfl (fun _ => by go_simp)) ⟨blk_turned B6.out T7 NF1.out, blk_turned BV6.out T7 NF2.out⟩ ?_
  (try simp only [Act.put, List.getElem_toArray, List.getElem_cons_succ, List.getElem_cons_zero, List.setIfInBounds_toArray, List.set_cons_zero, List.set_cons_succ])
  refine ⟨by kernel_rfl, ?_⟩
  have D6h : Dv w6 { h with vp := vp } v.flushed := by rw [← H4.out]; exact D6
  have T7h : Turned w6 { h with vp := vp } (v.flushed.written (tx : Int) V) w7 := by rw [← H4.out]; exact T7
  have T8 := Lib.hid (turned_trans D6h T6.out HVP.out T7h)
  rw [← C1.out] at T8
  have P8 := Lib.hid (show (v.commit1 u).pend.length ≤ 1000000 by rw [C1.out]; exact Nat.le_trans written_pend (by have := PE.out; omega))
  clear T7 T7h D6h D6 T6 B6 BV6 WR
  (try simp only [Exit.then])
  rcases writeE_cases v.flushed (tx : Int) with we | we | we
  rotate_left
  · have ce := CE2.out
    have cd := CD2.out
    rw [if_neg (show ¬ v.flushed.writeE (tx : Int) = 0 by rw [we]; omega)] at ce cd
    have CE3 := Lib.hid ce
    have CD3 := Lib.hid cd
    have WEH := Lib.hid we
    rw [we]
    clear ce cd we
    go_wp2_with fail
    go_ret
    refine ⟨by rw [CE3.out, WEH.out] <;> rfl, ?_⟩
    rw [CD3.out]
    exact turned_up U3.out T8.out
  · have ce := CE2.out
    have cd := CD2.out
    rw [if_neg (show ¬ v.flushed.writeE (tx : Int) = 0 by rw [we]; omega)] at ce cd
    have CE3 := Lib.hid ce
    have CD3 := Lib.hid cd
    have WEH := Lib.hid we
    rw [we]
    clear ce cd we
    go_wp2_with fail
    go_ret
    refine ⟨by rw [CE3.out, WEH.out] <;> rfl, ?_⟩
    rw [CD3.out]
    exact turned_up U3.out T8.out
  have ce := CE2.out
  have cd := CD2.out
  rw [if_pos we] at ce cd
  have CE3 := Lib.hid ce
  have CD3 := Lib.hid cd
  rw [we]
  clear ce cd we
  obtain ⟨vp8, D8, T9, hvp8⟩ := T8.out
  have FL := dflush_any w7 _ _ D8 P8.out
  go_wp2_with fail
  refine FL.mono ?_
  rintro e w9 ⟨rfl, T10⟩
  go_wp2_with fail
  go_ret
  refine ⟨by rw [CE3.out] <;> rfl, ?_⟩
  rw [CD3.out]
  exact turned_up U3.out (turned_trans D8 T9 hvp8 T10)

end Go.Proofs.Ytgmdhedabmkcoaa
