/- A device's Crash: the walk. -/
import Derived.Test.YtgmdhedabmkcoaaDevF
set_option linter.unusedSimpArgs false
set_option linter.unusedVariables false
namespace Go.Proofs.Ytgmdhedabmkcoaa
open Go.RowKit

def boolCell (b : Bool) : Value := .bool b
/-- The writes that a crash keeps. -/
def keepW (ks : List Bool) : Nat → List WrD → List WrD
  | _, [] => []
  | n, x :: l => if ks.getD n false = true then x :: keepW ks (n + 1) l else keepW ks (n + 1) l
theorem keepW_append (ks : List Bool) (l m : List WrD) : ∀ n, keepW ks n (l ++ m) = keepW ks n l ++ keepW ks (n + l.length) m := by
  induction l with
  | nil => intro n; rfl
  | cons x l ih =>
    intro n
    simp only [List.cons_append, keepW, List.length_cons]
    rw [ih, show n + 1 + l.length = n + (l.length + 1) by omega]
    split <;> simp
theorem keepW_snoc (ks : List Bool) (l : List WrD) (k : Nat) (hk : k < l.length) : keepW ks 0 (l.take (k + 1)) = keepW ks 0 (l.take k) ++ (if ks.getD k false = true then [l[k]] else []) := by
  rw [List.take_succ_eq_append_getElem hk, keepW_append, Nat.zero_add, List.length_take, Nat.min_eq_left (by omega)]
  simp only [keepW]
def DevD.crashS (v : DevD) (ks : List Bool) : List Sec := applyW v.stable (keepW ks 0 v.pend)
def DevD.crashed (v : DevD) (ks : List Bool) : DevD := { v with stable := v.crashS ks, newest := v.crashS ks, pend := [], left := -1, dead := false }
theorem Dv.copied {w w' : World} {h : Hnd} {v : DevD} (D : Dv w h v) (hb : Blk w' h.g2 34 (secsC v.stable)) (hg : w.grownBy w' (some h.g2)) : Dv w' h { v with newest := v.stable } :=
  ⟨D.dev.grown hg (fun e => D.dev_ne2 (Option.some.inj e).symm), D.b1.grown hg (fun e => D.ne (Option.some.inj e).symm), hb, rfl, D.max, D.ne, D.pend.kept hg (.inr (own_ne (by decide) D.b2 D.pend)), D.locs, D.ops, D.left⟩

theorem foot_nil {h : Hnd} {n : Nat} (hn : Foot { h with vp := .slice none 0 0 } n) : Foot h n := by
  rcases hn with hn | hn | hn | hn
  · exact .inl hn
  · exact .inr (.inl hn)
  · exact .inr (.inr (.inl hn))
  · cases hn

set_option maxRecDepth 100000 in
set_option maxHeartbeats 8000000 in
theorem dcrash_any (w : World) (h : Hnd) (v : DevD) (D : Dv w h v) (hr : v.pend.length ≤ 1000000) (vk : Value) (ks : List Bool) (HK0 : ∀ w', Touch (Foot h) w w' → IsOnes boolCell w' vk ks) :
    Calls Try.prog 21 #[.pointer (some ⟨h.d, 0, none⟩), vk] w fun e w' => e = .returned (.tuple #[]) ∧ Turned w h (v.crashed ks) w' := by
  have HD4 := Lib.hid D
  have HK := Lib.hid HK0
  have hkl : ks.length ≤ 9223372036854775807 := (HK.out w (Touch.refl _ _)).length_le
  obtain ⟨ka, kc, hvk⟩ := (HK.out w (Touch.refl _ _)).slice
  subst hvk
  clear D HK0
  obtain ⟨pa, pc, hvp⟩ := (HD4.out.pend.row ww).slice
  have c2 := HD4.out.cells.2.2.1
  rw [hvp] at c2
  have HVP := Lib.hid hvp
  have HS := Lib.hid (fun k => keepW_snoc ks v.pend k)
  clear hvp
  obtain ⟨N, hN⟩ : ∃ N, N = v.pend.length := ⟨_, rfl⟩
  rw [← hN] at c2 hr
  have HN := Lib.hid hN
  clear hN
  go_enter Try.func21, Try.ntmps21
  go_wp2_with fail
  go_loopw [11] (fun i wr => ∃ k : Nat, k ≤ N ∧ i = .int .i64 k ∧ Dv wr h { v with stable := applyW v.stable (keepW ks 0 (v.pend.take k)) } ∧ Touch (Foot h) w wr) (fun i _ => N - (intOf i).toNat)
  case atStart => exact ⟨0, Nat.zero_le _, rfl, HD4.out, Touch.refl _ _⟩
  case round =>
    obtain ⟨k, hk, rfl, DR, TR⟩ := hrel
    have HDR := Lib.hid DR
    have HTR := Lib.hid TR
    clear DR TR c2
    by_cases hlt : k < N
    · have hkp : k < v.pend.length := by rw [← HN.out]; exact hlt
      obtain ⟨g, cap, hg, hrg⟩ := wr_range (l := v.pend) HDR.out.pend k hkp
      have hvp := HVP.out
      have hge : (.slice (some ⟨g, 0, none⟩) v.pend.length cap : Value) = .slice pa v.pend.length pc := by rw [← hg]; exact hvp
      simp only [Value.slice.injEq] at hge
      obtain ⟨rfl, _, rfl⟩ := hge
      have RG := Lib.hid hrg
      have loc := HDR.out.locs v.pend[k] (List.getElem_mem hkp)
      have SN := Lib.hid (HS.out k hkp)
      have hal : (applyW v.stable (keepW ks 0 (v.pend.take k))).length = v.stable.length := applyW_length _ _
      have HAL := Lib.hid hal
      have loc' : v.pend[k].loc < v.stable.length := by rw [← hal]; exact loc
      have b2 : ((k : Int) < (N : Int)) = True := by simp; omega
      have hf := Lib.hid (show ¬ Foot h wr.heap.size from fun hf => Nat.lt_irrefl _ (HDR.out.foot_lt _ hf))
      have hms : v.stable.length ≤ 1024 := by have := HDR.out.max; rw [show ({ v with stable := applyW v.stable (keepW ks 0 (v.pend.take k)) } : DevD).stable = applyW v.stable (keepW ks 0 (v.pend.take k)) from rfl, hal] at this; exact this
      clear hrg hg hvp loc hal
      generalize v.pend[k] = x at *
      clear hkp
      have upa := up_alloc wr (.cells (wrC x) 101)
      have T1 := Lib.hid (HTR.out.trans (Touch.of_up (F := Foot h) upa) (fun n hn _ => hn))
      have KK := Lib.hid (HK.out _ T1.out)
      have D1 := Lib.hid (HDR.out.up upa)
      by_cases hq : k < ks.length
      · cases hkk : ks[k]
        case true =>
          have kc := KK.out
          obtain ⟨kb, ko, rfl, _, kcc⟩ := get_of_ones kc rfl (by omega)
          have ck : (wr.alloc (.cells (wrC x) 101)).cell? ⟨kb, ko + k, none⟩ = some (.bool true) := by rw [kcc k hq, hkk]; rfl
          have b5 : ((k : Int) < (ks.length : Int)) = True := by simp; omega
          clear kc kcc
          have SN1 := Lib.hid (show keepW ks 0 (v.pend.take (k + 1)) = keepW ks 0 (v.pend.take k) ++ [x] by rw [SN.out, List.getD_eq_getElem?_getD, List.getElem?_eq_getElem hq, hkk]; simp)
          have upd := upa.drew
          have D5 := Lib.hid (HDR.out.up upd)
          have X5 := Lib.hid (wr_parts ((Blk.new wr 101 (wrC x)).up ((Up.refl _).drew)))
          have T5 := Lib.hid (HTR.out.trans (Touch.of_up (F := Foot h) upd) (fun n hn _ => hn))
          have hx0 := X5.out.1
          have c0 := D5.out.cells.1
          have c0' : (wr.alloc (.cells (wrC x) 101)).drew.cell? ⟨h.d, 0, none⟩ = some (.slice (some ⟨h.g1, 0, none⟩) (applyW v.stable (keepW ks 0 (v.pend.take k))).length (applyW v.stable (keepW ks 0 (v.pend.take k))).length) := c0
          rw [HAL.out] at c0'
          clear c0 upa upd
          go_wp2_with (first
            | (refine wpList_load_part rfl 101 (.tmp 14) rfl g (k * 129) rfl (wrC x) RG.out _ Try.underlying101 rfl (info_wrV x) ?_)
            | (refine wpList_alloc_blk rfl 101 rfl (wrC zWr) zero_wrV ?_)
            | (refine wpList_store_new (w := wr) rfl 101 (.tmp 5) (.tmp 15) rfl wr.heap.size rfl (wrC x) rfl rfl 101 (wrC zWr) (info_wrV x) (info_wrZ x) (wrC_one x) ?_))
          refine wp_region_still_tail 8 (by kernel_rfl) (by kernel_rfl) ?_
          simp only [List.take_succ_cons, List.take_zero, List.drop_succ_cons, List.drop_zero]
          change wpStill _ _ (wr.alloc (.cells (wrC x) 101)).drew (fun a' => wpList _ _ _ _ a' (wr.alloc (.cells (wrC x) 101)).drew) _ _
          generalize (wr.alloc (.cells (wrC x) 101)).drew = w5 at *
          try simp only [Act.put, List.getElem_toArray, List.getElem_cons_succ, List.getElem_cons_zero, List.setIfInBounds_toArray, List.set_cons_zero, List.set_cons_succ]
          repeat (first
            | (refine wpStill_load_part rfl 34 (.tmp 32) rfl wr.heap.size 1 rfl _ X5.out.2 _ Try.underlying34 rfl (info_secV _) ?_)
            | still_step)
          refine wpStill_nil ?_
          have hxl : x.loc < (applyW v.stable (keepW ks 0 (v.pend.take k))).length := by rw [HAL.out]; exact loc'
          have FT := Lib.hid (sec_fit _ x.loc hxl x.s)
          have SS := Lib.hid (secs_set _ x.loc hxl x.s)
          have G1 := Lib.hid (show Blk w5 h.g1 34 (secsC (applyW v.stable (keepW ks 0 (v.pend.take k)))) from D5.out.b1)
          have b3 : ((x.loc : Int) < (v.stable.length : Int)) = True := by simp; omega
          clear hxl
          go_wp2_with (refine wpList_store_part rfl 34 (.tmp 34) (.tmp 33) rfl h.g1 (x.loc * 128) (secC x.s.val) rfl rfl 34 _ G1.out (info_secV x.s) FT.out (secC_one _) ?_)
          intro w6 hb6 hg6
          rw [SS.out] at hb6
          have D6 := Lib.hid (Dv.setStable D5.out x.loc x.s hb6 hg6)
          have T6 := Lib.hid (T5.out.trans (Touch.of_grown (F := Foot h) hg6 (fun j hj => by cases hj; exact .inr (.inl rfl))) (fun n hn _ => hn))
          clear hb6 hg6 c0'
          go_wp2_with fail
          refine ⟨⟨k + 1, hlt, by simp, by rw [SN1.out, show applyW v.stable (keepW ks 0 (v.pend.take k) ++ [x]) = (applyW v.stable (keepW ks 0 (v.pend.take k))).set x.loc x.s from by unfold applyW; rw [List.foldl_append]; rfl]; exact D6.out, T6.out⟩, ?_⟩
          simp only [intOf]
          omega
        case false =>
          have kc := KK.out
          obtain ⟨kb, ko, rfl, _, kcc⟩ := get_of_ones kc rfl (by omega)
          have ck : (wr.alloc (.cells (wrC x) 101)).cell? ⟨kb, ko + k, none⟩ = some (.bool false) := by rw [kcc k hq, hkk]; rfl
          have b5 : ((k : Int) < (ks.length : Int)) = True := by simp; omega
          clear kc kcc
          have SN1 := Lib.hid (show keepW ks 0 (v.pend.take (k + 1)) = keepW ks 0 (v.pend.take k) by rw [SN.out, List.getD_eq_getElem?_getD, List.getElem?_eq_getElem hq, hkk]; simp)
          clear upa
          go_wp2_with (first
            | (refine wpList_load_part rfl 101 (.tmp 14) rfl g (k * 129) rfl (wrC x) RG.out _ Try.underlying101 rfl (info_wrV x) ?_)
            | (refine wpList_alloc_blk rfl 101 rfl (wrC zWr) zero_wrV ?_)
            | (refine wpList_store_new (w := wr) rfl 101 (.tmp 5) (.tmp 15) rfl wr.heap.size rfl (wrC x) rfl rfl 101 (wrC zWr) (info_wrV x) (info_wrZ x) (wrC_one x) ?_))
          refine ⟨⟨k + 1, hlt, by simp, by rw [SN1.out]; exact D1.out, T1.out⟩, ?_⟩
          simp only [intOf]
          omega
      · have b5 : ((k : Int) < (ks.length : Int)) = False := by simp; omega
        have SN1 := Lib.hid (show keepW ks 0 (v.pend.take (k + 1)) = keepW ks 0 (v.pend.take k) by rw [SN.out, List.getD_eq_getElem?_getD, List.getElem?_eq_none (by omega)]; simp)
        clear upa
        go_wp2_with (first
          | (refine wpList_load_part rfl 101 (.tmp 14) rfl g (k * 129) rfl (wrC x) RG.out _ Try.underlying101 rfl (info_wrV x) ?_)
          | (refine wpList_alloc_blk rfl 101 rfl (wrC zWr) zero_wrV ?_)
          | (refine wpList_store_new (w := wr) rfl 101 (.tmp 5) (.tmp 15) rfl wr.heap.size rfl (wrC x) rfl rfl 101 (wrC zWr) (info_wrV x) (info_wrZ x) (wrC_one x) ?_))
        refine ⟨⟨k + 1, hlt, by simp, by rw [SN1.out]; exact D1.out, T1.out⟩, ?_⟩
        simp only [intOf]
        omega
    · obtain rfl : k = N := by omega
      have b2 : ((k : Int) < (k : Int)) = False := by simp
      have c2 := HDR.out.cells.2.2.1
      have hvp := HVP.out
      rw [hvp] at c2
      have f2 := HDR.out.dev.free 2
      have DC := Lib.hid (Dv.clear HDR.out)
      have TC := Lib.hid (HTR.out.trans (touch_cell HDR.out 2 (.slice none 0 0)) (fun n hn _ => hn))
      have HAL := Lib.hid (show (applyW v.stable (keepW ks 0 (v.pend.take k))).length = v.stable.length from applyW_length _ _)
      have E2 := Lib.hid (show applyW v.stable (keepW ks 0 (v.pend.take k)) = v.crashS ks by rw [HN.out, List.take_length]; rfl)
      clear hvp
      go_wp2_with fail
      generalize wr.setCell ⟨h.d, 2, none⟩ (.slice none 0 0) = w5 at *
      have upd : Up w5 w5.drew := (Up.refl w5).drew
      have D6 := Lib.hid (DC.out.up upd)
      have T6 := Lib.hid (TC.out.trans (Touch.of_up (F := Foot h) upd) (fun n hn _ => hn))
      have c0 : w5.drew.cell? ⟨h.d, 0, none⟩ = some (.slice (some ⟨h.g1, 0, none⟩) (applyW v.stable (keepW ks 0 (v.pend.take k))).length (applyW v.stable (keepW ks 0 (v.pend.take k))).length) := D6.out.cells.1
      have c1 : w5.drew.cell? ⟨h.d, 1, none⟩ = some (.slice (some ⟨h.g2, 0, none⟩) (applyW v.stable (keepW ks 0 (v.pend.take k))).length (applyW v.stable (keepW ks 0 (v.pend.take k))).length) := D6.out.cells.2.1
      rw [HAL.out] at c0 c1
      have B1 := Lib.hid (show Blk w5.drew h.g1 34 (secsC (applyW v.stable (keepW ks 0 (v.pend.take k)))) from D6.out.b1)
      have B2 := Lib.hid (show Blk w5.drew h.g2 34 (secsC v.newest) from D6.out.b2)
      have S1 := Lib.hid (show (secsC (applyW v.stable (keepW ks 0 (v.pend.take k)))).size = v.stable.length * 128 by rw [secsC_size, HAL.out])
      have S2 := Lib.hid (show (secsC v.newest).size = v.stable.length * 128 by rw [secsC_size, HD4.out.len])
      clear upd c2 f2
      refine wp_region_still_tail 8 (by kernel_rfl) (by kernel_rfl) ?_
      simp only [List.take_succ_cons, List.take_zero, List.drop_succ_cons, List.drop_zero]
      change wpStill _ _ w5.drew (fun a' => wpList _ _ _ _ a' w5.drew) _ _
      generalize w5.drew = w6 at *
      repeat still_step
      refine wpStill_nil ?_
      go_wp2_with (refine wpList_copy_all rfl (.tmp 42) (.tmp 46) 58 58 rfl 34 128 Try.underlying58 (by kernel_rfl) h.g1 h.g2 v.stable.length rfl rfl 34 _ _ B1.out B2.out S1.out S2.out (secsC_one _) ?_)
      intro w7 hb7 hg7
      have D7 := Lib.hid (Dv.copied D6.out hb7 hg7)
      have T7 := Lib.hid (T6.out.trans (Touch.of_grown (F := Foot h) hg7 (fun j hj => by cases hj; exact .inr (.inr (.inl rfl)))) (fun n hn _ => hn))
      clear hb7 hg7 c0 c1
      have D8 := Lib.hid (Dv.field D7.out 4 (.int .i64 (-1)) (v' := { v with stable := v.crashS ks, newest := v.crashS ks, pend := [], left := -1 }) (by rw [E2.out]; rfl) (by rw [E2.out]) (by rw [E2.out]) rfl HD4.out.ops (by show -1 ≤ (-1 : Int) ∧ (-1 : Int) ≤ _; omega))
      have T8 := Lib.hid (T7.out.trans (touch_cell D7.out 4 (.int .i64 (-1))) (fun n hn _ => foot_nil hn))
      have D9 := Lib.hid (Dv.field D8.out 5 (.bool false) (v' := v.crashed ks) rfl rfl rfl rfl HD4.out.ops (by show -1 ≤ (-1 : Int) ∧ (-1 : Int) ≤ _; omega))
      have T9 := Lib.hid (T8.out.trans (touch_cell D8.out 5 (.bool false)) (fun n hn _ => foot_nil hn))
      have c4 := D7.out.cells.2.2.2.2.1
      have f4 := D7.out.dev.free 4
      have c5 := D8.out.cells.2.2.2.2.2
      have f5 := D8.out.dev.free 5
      go_wp2_with fail
      go_end0
      exact ⟨rfl, .slice none 0 0, D9.out, T9.out, fun b hb => by cases hb⟩
end Go.Proofs.Ytgmdhedabmkcoaa
