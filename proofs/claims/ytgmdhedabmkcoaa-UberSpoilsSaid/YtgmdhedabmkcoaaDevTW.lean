/- A device's Rot: the walk. -/
import Derived.Test.YtgmdhedabmkcoaaDevT
set_option linter.unusedSimpArgs false
set_option linter.unusedVariables false
namespace Go.Proofs.Ytgmdhedabmkcoaa
open Go.RowKit

set_option maxRecDepth 100000 in
set_option maxHeartbeats 8000000 in
theorem drot_any (w : World) (h : Hnd) (v : DevD) (D : Dv w h v) (i : Int) (hi : -9223372036854775808 ≤ i ∧ i ≤ 9223372036854775807) (s : Sec) (hr : v.pend.length ≤ 1000000) :
    Calls Try.prog 24 #[.pointer (some ⟨h.d, 0, none⟩), .int .i64 i, .agg (secC s.val)] w fun e w' => e = .returned (.int .i64 (v.rotE i)) ∧ Dv w' h (v.rotted i s) ∧ Touch (Foot h) w w' := by
  have upa := up_alloc w (.cells (secC s.val) 34)
  have HB1 := Lib.hid (Blk.new w 34 (secC s.val))
  have HD1 := Lib.hid (D.up upa)
  have HS := Lib.hid (fun W (DD : Dv W h v) => has_any W h v DD i hi)
  have HL := Lib.hid (Touch.of_up (F := Foot h) upa)
  have HF := Lib.hid (show ¬ Foot h w.heap.size from fun hf => Nat.lt_irrefl _ (D.foot_lt _ hf))
  have HFB := Lib.hid (hasB_iff v i)
  have hm := D.max
  have HLEN := Lib.hid D.len
  clear D hi upa
  cases hb : v.hasB i
  case false =>
    rw [hb] at HS
    have E := Lib.hid (show v.rotted i s = v ∧ v.rotE i = 41 by unfold DevD.rotted DevD.rotE; rw [hb]; simp)
    clear hb
    go_enter Try.func24, Try.ntmps24
    go_wp2_with fail
    refine (HS.out _ HD1.out).mono ?_
    rintro e w3 ⟨rfl, rfl⟩
    go_wp2_with fail
    go_ret
    exact ⟨by rw [E.out.2]; rfl, by rw [E.out.1]; exact HD1.out, HL.out⟩
  rw [hb] at HS
  have hio := HFB.out.1 hb
  obtain ⟨n, rfl⟩ : ∃ n : Nat, i = n := ⟨i.toNat, by omega⟩
  have hnl : n < v.stable.length := by omega
  have E := Lib.hid (show v.rotted n s = { v with stable := v.stable.set n s, newest := v.newest.set n s, pend := v.pend.map (rotW n s) } ∧ v.rotE n = 0 by unfold DevD.rotted DevD.rotE; rw [hb]; simp)
  clear hb hio
  have b2 : ((n : Int) < (v.stable.length : Int)) = True := by simp; omega
  go_enter Try.func24, Try.ntmps24
  go_wp2_with fail
  refine (HS.out _ HD1.out).mono ?_
  rintro e w3 ⟨rfl, rfl⟩
  generalize w.alloc (.cells (secC s.val) 34) = wb at *
  have TB := Lib.hid (Touch.refl (Foot h) wb)
  clear HS
  have upd : Up wb wb.drew := (Up.refl wb).drew
  have D4 := Lib.hid (HD1.out.up upd)
  have B4 := Lib.hid ((HB1.out.touch TB.out HF.out).up upd)
  have T4 := Lib.hid (TB.out.trans (Touch.of_up (F := Foot h) upd) (fun n hn _ => hn))
  have c0 : wb.drew.cell? ⟨h.d, 0, none⟩ = some (.slice (some ⟨h.g1, 0, none⟩) _ _) := D4.out.cells.1
  
  go_wp2_with fail
  refine wp_region_still_tail 6 (by kernel_rfl) (by kernel_rfl) ?_
  simp only [List.take_succ_cons, List.take_zero, List.drop_succ_cons, List.drop_zero]
  change wpStill _ _ wb.drew (fun a' => wpList _ _ _ _ a' wb.drew) _ _
  generalize wb.drew = w4 at *
  repeat (first
    | (refine wpStill_load_blk rfl 34 (.tmp 5) rfl w.heap.size rfl 34 _ B4.out _ Try.underlying34 rfl (info_secV s) ?_)
    | still_step)
  refine wpStill_nil ?_
  have hxl : n < v.stable.length := hnl
  have FT := Lib.hid (sec_fit _ n hxl s)
  have SS := Lib.hid (secs_set _ n hxl s)
  have G1 := Lib.hid (show Blk w4 h.g1 34 (secsC v.stable) from D4.out.b1)
  clear hxl
  go_wp2_with (refine wpList_store_part rfl 34 (.tmp 18) (.tmp 17) rfl h.g1 (n * 128) (secC s.val) rfl rfl 34 _ G1.out (info_secV s) FT.out (secC_one _) ?_)
  intro x4 hb6 hg6
  rw [SS.out] at hb6
  have E4 := Lib.hid (Dv.setStable D4.out n s hb6 hg6)
  have U4 := Lib.hid (T4.out.trans (Touch.of_grown (F := Foot h) hg6 (fun j hj => by cases hj; exact .inr (.inl rfl))) (fun n hn _ => hn))
  clear hb6 hg6 c0 upd FT SS G1
  have upd : Up x4 x4.drew := (Up.refl x4).drew
  have D6 := Lib.hid (E4.out.up upd)
  have B6 := Lib.hid ((HB1.out.touch U4.out HF.out).up upd)
  have T6 := Lib.hid (U4.out.trans (Touch.of_up (F := Foot h) upd) (fun n hn _ => hn))
  have c0 : x4.drew.cell? ⟨h.d, 1, none⟩ = some (.slice (some ⟨h.g2, 0, none⟩) _ _) := D6.out.cells.2.1
  simp only [List.length_set] at c0
  go_wp2_with fail
  refine wp_region_still_tail 6 (by kernel_rfl) (by kernel_rfl) ?_
  simp only [List.take_succ_cons, List.take_zero, List.drop_succ_cons, List.drop_zero]
  change wpStill _ _ x4.drew (fun a' => wpList _ _ _ _ a' x4.drew) _ _
  generalize x4.drew = w6 at *
  repeat (first
    | (refine wpStill_load_blk rfl 34 (.tmp 5) rfl w.heap.size rfl 34 _ B6.out _ Try.underlying34 rfl (info_secV s) ?_)
    | still_step)
  refine wpStill_nil ?_
  have hxl : n < v.newest.length := (by rw [HLEN.out]; exact hnl)
  have FT := Lib.hid (sec_fit _ n hxl s)
  have SS := Lib.hid (secs_set _ n hxl s)
  have G1 := Lib.hid (show Blk w6 h.g2 34 (secsC v.newest) from D6.out.b2)
  clear hxl
  go_wp2_with (refine wpList_store_part rfl 34 (.tmp 25) (.tmp 24) rfl h.g2 (n * 128) (secC s.val) rfl rfl 34 _ G1.out (info_secV s) FT.out (secC_one _) ?_)
  intro x6 hb6 hg6
  rw [SS.out] at hb6
  have E6 := Lib.hid (Dv.setNew D6.out n s hb6 hg6)
  have U6 := Lib.hid (T6.out.trans (Touch.of_grown (F := Foot h) hg6 (fun j hj => by cases hj; exact .inr (.inr (.inl rfl)))) (fun n hn _ => hn))
  clear hb6 hg6 c0 upd FT SS G1
  obtain ⟨pa, pc, hvp⟩ := (E6.out.pend.row ww).slice
  have hvp : h.vp = .slice pa v.pend.length pc := hvp
  have HVP := Lib.hid hvp
  have c2 : x6.cell? ⟨h.d, 2, none⟩ = some (.slice pa v.pend.length pc) := by rw [← hvp]; exact E6.out.cells.2.2.1
  clear hvp
  go_wp2_with fail
  go_loopw [31] (fun i wr => ∃ k : Nat, k ≤ v.pend.length ∧ i = .int .i64 k ∧ Dv wr h { v with stable := v.stable.set n s, newest := v.newest.set n s, pend := rotTo n s k v.pend } ∧ Touch (Foot h) wb wr) (fun i _ => v.pend.length - (intOf i).toNat)
  case atStart => exact ⟨0, Nat.zero_le _, rfl, by rw [rotTo_zero]; exact E6.out, U6.out⟩
  case round =>
    obtain ⟨k, hk, rfl, DR, TR⟩ := hrel
    have HDR := Lib.hid DR
    have HTR := Lib.hid TR
    clear DR TR c2 E6 U6 E4 U4
    by_cases hlt : k < v.pend.length
    · have hkp : k < (rotTo n s k v.pend).length := by rw [rotTo_length]; exact hlt
      obtain ⟨g, cap, hg, hrg⟩ := wr_range (l := rotTo n s k v.pend) HDR.out.pend k hkp
      have hvp := HVP.out
      rw [rotTo_length] at hg
      have hge : (.slice (some ⟨g, 0, none⟩) v.pend.length cap : Value) = .slice pa v.pend.length pc := by rw [← hg]; exact hvp
      simp only [Value.slice.injEq] at hge
      obtain ⟨rfl, _, rfl⟩ := hge
      obtain ⟨xl, hxl, cl⟩ : ∃ xl : Nat, xl = (rotTo n s k v.pend)[k].loc ∧ wr.cell? ⟨g, k * 129, none⟩ = some (.int .i64 (xl : Int)) := ⟨_, rfl, by simpa using hrg 0 (.int .i64 ((rotTo n s k v.pend)[k].loc : Int)) rfl⟩
      have RC := Lib.hid (rot_cases n s k v.pend hlt hkp)
      have c2 : wr.cell? ⟨h.d, 2, none⟩ = some (.slice (some ⟨g, 0, none⟩) v.pend.length cap) := by rw [← hvp]; exact HDR.out.cells.2.2.1
      have b3 : ((k : Int) < (v.pend.length : Int)) = True := by simp; omega
      have b4 : (k < v.pend.length) = True := by simp; omega
      have HKP := Lib.hid hkp
      have OW := Lib.hid (fun W (DD : Dv W h { v with stable := v.stable.set n s, newest := v.newest.set n s, pend := rotTo n s k v.pend }) => own_wr_set (n := v.pend.length) (by have := DD.pend; rw [show Hnd.vp h = _ from hvp] at this; exact this) k hkp s)
      have LC := Lib.hid (HDR.out.locs _ (List.getElem_mem hkp))
      clear hrg hg hvp
      by_cases hq : xl = n
      · have RC1 := Lib.hid (RC.out.1 (hxl.symm.trans hq))
        rw [hq] at cl
        clear hq RC hxl
        have upd : Up wr wr.drew := (Up.refl wr).drew
        have D8 := Lib.hid (HDR.out.up upd)
        have B8 := Lib.hid ((HB1.out.touch HTR.out HF.out).up upd)
        have T8 := Lib.hid (HTR.out.trans (Touch.of_up (F := Foot h) upd) (fun n hn _ => hn))
        have c2d := upd.cell c2
        obtain ⟨cur, hcur, hfit, hput⟩ := OW.out _ D8.out
        have HC := Lib.hid hcur
        have HFT := Lib.hid hfit
        have HPT := Lib.hid hput
        clear hcur hfit hput OW upd
        go_wp2_with fail
        refine wp_region_still_tail 6 (by kernel_rfl) (by kernel_rfl) ?_
        simp only [List.take_succ_cons, List.take_zero, List.drop_succ_cons, List.drop_zero]
        change wpStill _ _ wr.drew (fun a' => wpList _ _ _ _ a' wr.drew) _ _
        generalize wr.drew = w8 at *
        repeat (first
          | (refine wpStill_load_blk rfl 34 (.tmp 5) rfl w.heap.size rfl 34 _ B8.out _ Try.underlying34 rfl (info_secV s) ?_)
          | still_step)
        refine wpStill_nil ?_
        go_wp2_with (refine wpList_store_part rfl 34 (.tmp 51) (.tmp 49) rfl g (k * 129 + 1) (secC s.val) rfl rfl 101 cur HC.out (info_secV s) HFT.out (secC_one _) ?_)
        intro w9 hb9 hg9
        have hvp := HVP.out
        have how := HPT.out w9 hb9
        rw [← hvp, ← RC1.out] at how
        have hg9' : w8.grownBy w9 h.vp.ownBlock := by rw [hvp]; exact hg9
        have D9 := Lib.hid (Dv.setPend D8.out (rotTo n s (k + 1) v.pend) how (fun y hy => by
          rw [RC1.out] at hy
          rcases List.mem_or_eq_of_mem_set hy with hy | hy
          · exact D8.out.locs y hy
          · rw [hy]; exact LC.out) hg9')
        have T9 := Lib.hid (T8.out.trans (Touch.of_grown (F := Foot h) hg9' (fun j hj => .inr (.inr (.inr hj)))) (fun n hn _ => hn))
        clear hb9 hg9 hg9' how hvp c2d
        go_wp2_with fail
        refine ⟨⟨k + 1, hlt, by simp, D9.out, T9.out⟩, ?_⟩
        simp only [intOf]
        omega
      · have RC1 := Lib.hid (RC.out.2 (fun hh => hq (hxl.trans hh)))
        clear hxl RC OW
        go_wp2_with fail
        refine ⟨⟨k + 1, hlt, by simp, by rw [RC1.out]; exact HDR.out, HTR.out⟩, ?_⟩
        simp only [intOf]
        omega
    · obtain rfl : k = v.pend.length := by omega
      have b3 : ((v.pend.length : Int) < (v.pend.length : Int)) = False := by simp
      go_wp2_with fail
      go_ret
      have e : ({ v with stable := v.stable.set n s, newest := v.newest.set n s, pend := rotTo n s v.pend.length v.pend } : DevD) = v.rotted n s := by rw [E.out.1, rotTo_end]
      exact ⟨by rw [E.out.2]; rfl, by rw [← e]; exact HDR.out, HL.out.trans HTR.out (fun n hn _ => hn)⟩
end Go.Proofs.Ytgmdhedabmkcoaa
