/- A device's Flush: the walk. -/
import Derived.Test.YtgmdhedabmkcoaaDevX
set_option linter.unusedSimpArgs false
set_option linter.unusedVariables false
namespace Go.Proofs.Ytgmdhedabmkcoaa
open Go.RowKit

def applyW (l : List Sec) (ws : List WrD) : List Sec := ws.foldl (fun l x => l.set x.loc x.s) l
theorem applyW_length (ws : List WrD) : ∀ l : List Sec, (applyW l ws).length = l.length := by
  induction ws with
  | nil => intro l; rfl
  | cons x ws ih => intro l; show (applyW (l.set x.loc x.s) ws).length = _; rw [ih, List.length_set]
theorem applyW_snoc (l : List Sec) (ws : List WrD) (k : Nat) (hk : k < ws.length) : applyW l (ws.take (k + 1)) = (applyW l (ws.take k)).set ws[k].loc ws[k].s := by
  unfold applyW; rw [List.take_succ_eq_append_getElem hk, List.foldl_append]; rfl
def DevD.flushed (v : DevD) : DevD := if v.powerB = true then { v.counted.spent with stable := applyW v.stable v.pend, pend := [] } else v.counted.spent
def DevD.flushE (v : DevD) : Int := if v.powerB = true then 0 else 42
theorem zero_wrV : ∀ W : World, (zeroValue 101).run Try.prog W = .ok (.agg (wrC zWr)) W := fun W => by
  obtain ⟨i, hi, hz0, _, _⟩ := info_parts info_wr
  simp [zeroValue, typeInfo, hi, hz0]
theorem Dv.setStable {w w' : World} {h : Hnd} {v : DevD} (D : Dv w h v) (n : Nat) (s : Sec) (hb : Blk w' h.g1 34 (secsC (v.stable.set n s))) (hg : w.grownBy w' (some h.g1)) : Dv w' h { v with stable := v.stable.set n s } := by
  have e : devC h { v with stable := v.stable.set n s } = devC h v := by unfold devC; simp
  exact ⟨by rw [e]; exact D.dev.grown hg (fun e => D.dev_ne1 (Option.some.inj e).symm), hb, D.b2.grown hg (fun e => D.ne (Option.some.inj e)), by show _ = (v.stable.set n s).length; rw [List.length_set]; exact D.len, by show (v.stable.set n s).length ≤ _; rw [List.length_set]; exact D.max, D.ne, D.pend.kept hg (.inr (own_ne (by decide) D.b1 D.pend)), fun x hx => by show x.loc < (v.stable.set n s).length; rw [List.length_set]; exact D.locs x hx, D.ops, D.left⟩
theorem Dv.clear {w : World} {h : Hnd} {v : DevD} (D : Dv w h v) : Dv (w.setCell ⟨h.d, 2, none⟩ (.slice none 0 0)) { h with vp := .slice none 0 0 } { v with pend := [] } := by
  have G := grown_setCell D.dev 2 (.slice none 0 0)
  exact ⟨D.dev.setCell 2 _, D.b1.grown G (fun e => D.dev_ne1 (Option.some.inj e)), D.b2.grown G (fun e => D.dev_ne2 (Option.some.inj e)), D.len, D.max, D.ne, OwnRow.nil _ _ _ _ _, (fun x hx => by cases hx), D.ops, D.left⟩
theorem info_wrZ (x : WrD) : (wrC zWr).size = (wrC x).size := by rw [wrC_size, wrC_size]
/-- A write that lies in a variable: its parts. -/
theorem wr_parts {w : World} {b : Nat} {t : TypeId} {x : WrD} (h : Blk w b t (wrC x)) : w.cell? ⟨b, 0, none⟩ = some (.int .i64 (x.loc : Int)) ∧ w.rangeAt b 1 (secC x.s.val).toList := by
  refine ⟨by rw [h.cell]; rfl, fun j v hj => ?_⟩
  rw [h.cell]
  rw [secC_scells] at hj
  unfold wrC wcells
  rw [List.getElem?_toArray, Nat.add_comm 1 j, List.getElem?_cons_succ]
  exact hj

set_option maxRecDepth 100000 in
set_option maxHeartbeats 8000000 in
theorem dflush_any (w : World) (h : Hnd) (v : DevD) (D : Dv w h v) (hr : v.pend.length ≤ 1000000) :
    Calls Try.prog 46 #[.pointer (some ⟨h.d, 0, none⟩)] w fun e w' => e = .returned (.int .i64 v.flushE) ∧ Turned w h v.flushed w' := by
  have CT := Lib.hid (count_any w h v D)
  have SPD := Lib.hid (fun W (DD : Dv W h v.counted) => spend_any W h v.counted DD)
  have HP : v.counted.powerB = v.powerB := rfl
  rw [HP] at SPD
  clear HP D
  cases hpw : v.powerB
  case false =>
    rw [hpw] at SPD
    have E := Lib.hid (show v.flushed = v.counted.spent ∧ v.flushE = 42 by unfold DevD.flushed DevD.flushE; rw [hpw]; simp)
    clear hpw
    go_enter Try.func46, Try.ntmps46
    go_wp2_with fail
    refine CT.out.mono ?_
    rintro e w2 ⟨rfl, D2, T2⟩
    have HD2 := Lib.hid D2
    have HT2 := Lib.hid T2
    clear D2 T2
    go_wp2_with fail
    refine (SPD.out _ HD2.out).mono ?_
    rintro e w4 ⟨rfl, D4, T4⟩
    have HD4 := Lib.hid D4
    have HT4 := Lib.hid (HT2.out.trans T4 (fun n hn _ => hn))
    clear D4 T4
    go_wp2_with fail
    go_ret
    exact ⟨by rw [E.out.2]; rfl, by rw [E.out.1]; exact Turned.same HD4.out HT4.out⟩
  rw [hpw] at SPD
  have HPE := Lib.hid (spent_same v.counted)
  have E := Lib.hid (show v.flushed = { v.counted.spent with stable := applyW v.stable v.pend, pend := [] } ∧ v.flushE = 0 by unfold DevD.flushed DevD.flushE; rw [hpw]; simp)
  clear hpw
  go_enter Try.func46, Try.ntmps46
  go_wp2_with fail
  refine CT.out.mono ?_
  rintro e w2 ⟨rfl, D2, T2⟩
  have HD2 := Lib.hid D2
  have HT2 := Lib.hid T2
  clear D2 T2
  go_wp2_with fail
  refine (SPD.out _ HD2.out).mono ?_
  rintro e w4 ⟨rfl, D4, T4⟩
  have HD4 := Lib.hid D4
  have HT4 := Lib.hid (HT2.out.trans T4 (fun n hn _ => hn))
  clear D4 T4 HD2 HT2 CT SPD
  obtain ⟨pa, pc, hvp⟩ := (HD4.out.pend.row ww).slice
  have c2 := HD4.out.cells.2.2.1
  rw [hvp, HPE.out.1] at c2
  have HVP := Lib.hid hvp
  have hpl : v.counted.pend.length ≤ 1000000 := hr
  obtain ⟨P, hP⟩ : ∃ P, P = v.counted.spent := ⟨_, rfl⟩
  have EP := Lib.hid (show P.pend = v.pend ∧ P.stable = v.stable ∧ P.newest = v.newest by rw [hP]; exact HPE.out)
  have HPV := Lib.hid hP
  rw [← hP] at HD4
  clear hvp hP
  have c2' : w4.cell? ⟨h.d, 2, none⟩ = some (.slice pa v.pend.length pc) := c2
  have hpl' : v.pend.length ≤ 1000000 := hr
  clear c2 hpl
  go_wp2_with fail
  go_loopw [15] (fun i wr => ∃ k : Nat, k ≤ v.pend.length ∧ i = .int .i64 k ∧ Dv wr h { P with stable := applyW v.stable (v.pend.take k) } ∧ Touch (Foot h) w wr) (fun i _ => v.pend.length - (intOf i).toNat)
  case atStart => exact ⟨0, Nat.zero_le _, rfl, by have := HD4.out; rw [show ({ P with stable := applyW v.stable (v.pend.take 0) } : DevD) = P from by rw [List.take_zero]; show ({ P with stable := v.stable } : DevD) = P; rw [← EP.out.2.1]]; exact this, HT4.out⟩
  case round =>
    obtain ⟨k, hk, rfl, DR, TR⟩ := hrel
    have HDR := Lib.hid DR
    have HTR := Lib.hid TR
    clear DR TR c2'
    by_cases hlt : k < v.pend.length
    · have hkp : k < P.pend.length := by rw [EP.out.1]; exact hlt
      have own := HDR.out.pend
      obtain ⟨g, cap, hg, hrg⟩ := wr_range (l := P.pend) own k hkp
      have hvp := HVP.out
      have hge : (.slice (some ⟨g, 0, none⟩) P.pend.length cap : Value) = .slice pa v.counted.spent.pend.length pc := by rw [← hg]; exact hvp
      simp only [Value.slice.injEq] at hge
      obtain ⟨rfl, _, rfl⟩ := hge
      have RG := Lib.hid hrg
      have loc := HDR.out.locs P.pend[k] (List.getElem_mem hkp)
      have SN := Lib.hid (applyW_snoc v.stable v.pend k hlt)
      have hpk : P.pend[k] = v.pend[k] := by simp only [EP.out.1]
      rw [hpk] at RG loc
      have hal : (applyW v.stable (v.pend.take k)).length = v.stable.length := applyW_length _ _
      have HAL := Lib.hid hal
      have loc' : v.pend[k].loc < v.stable.length := by rw [← hal]; exact loc
      have b2 : ((k : Int) < (v.pend.length : Int)) = True := by simp; omega
      have hf := Lib.hid (show ¬ Foot h wr.heap.size from fun hf => Nat.lt_irrefl _ (HDR.out.foot_lt _ hf))
      have hms : v.stable.length ≤ 1024 := by have := HDR.out.max; rw [show ({ P with stable := applyW v.stable (v.pend.take k) } : DevD).stable = applyW v.stable (v.pend.take k) from rfl, hal] at this; exact this
      clear own hrg hg hvp hpk hkp loc hal
      generalize v.pend[k] = x at *
      have upa := up_alloc wr (.cells (wrC x) 101)
      have upd := upa.drew
      have D5 := Lib.hid (HDR.out.up upd)
      have X5 := Lib.hid (wr_parts ((Blk.new wr 101 (wrC x)).up ((Up.refl _).drew)))
      have T5 := Lib.hid (HTR.out.trans (Touch.of_up (F := Foot h) upd) (fun n hn _ => hn))
      have hx0 := X5.out.1
      have c0 := D5.out.cells.1
      have c0' : (wr.alloc (.cells (wrC x) 101)).drew.cell? ⟨h.d, 0, none⟩ = some (.slice (some ⟨h.g1, 0, none⟩) (applyW v.stable (v.pend.take k)).length (applyW v.stable (v.pend.take k)).length) := c0
      rw [HAL.out] at c0'
      clear c0 upa upd
      go_wp2_with (first
        | (refine wpList_load_part rfl 101 (.tmp 17) rfl g (k * 129) rfl (wrC x) RG.out _ Try.underlying101 rfl (info_wrV x) ?_)
        | (refine wpList_alloc_blk rfl 101 rfl (wrC zWr) zero_wrV ?_)
        | (refine wpList_store_new (w := wr) rfl 101 (.tmp 4) (.tmp 18) rfl wr.heap.size rfl (wrC x) rfl rfl 101 (wrC zWr) (info_wrV x) (info_wrZ x) (wrC_one x) ?_))
      refine wp_region_still_tail 8 (by kernel_rfl) (by kernel_rfl) ?_
      simp only [List.take_succ_cons, List.take_zero, List.drop_succ_cons, List.drop_zero]
      change wpStill _ _ (wr.alloc (.cells (wrC x) 101)).drew (fun a' => wpList _ _ _ _ a' (wr.alloc (.cells (wrC x) 101)).drew) _ _
      generalize (wr.alloc (.cells (wrC x) 101)).drew = w5 at *
      simp only [Act.put, List.getElem_toArray, List.getElem_cons_succ, List.getElem_cons_zero, List.setIfInBounds_toArray, List.set_cons_zero, List.set_cons_succ]
      repeat (first
        | (refine wpStill_load_part rfl 34 (.tmp 25) rfl wr.heap.size 1 rfl _ X5.out.2 _ Try.underlying34 rfl (info_secV _) ?_)
        | still_step)
      refine wpStill_nil ?_
      have hxl : x.loc < (applyW v.stable (v.pend.take k)).length := by rw [HAL.out]; exact loc'
      have FT := Lib.hid (sec_fit _ x.loc hxl x.s)
      have SS := Lib.hid (secs_set _ x.loc hxl x.s)
      have G1 := Lib.hid (show Blk w5 h.g1 34 (secsC (applyW v.stable (v.pend.take k))) from D5.out.b1)
      have b3 : ((x.loc : Int) < (v.stable.length : Int)) = True := by simp; omega
      clear hxl
      go_wp2_with (refine wpList_store_part rfl 34 (.tmp 27) (.tmp 26) rfl h.g1 (x.loc * 128) (secC x.s.val) rfl rfl 34 _ G1.out (info_secV x.s) FT.out (secC_one _) ?_)
      intro w6 hb6 hg6
      rw [SS.out] at hb6
      have D6 := Lib.hid (Dv.setStable D5.out x.loc x.s hb6 hg6)
      have T6 := Lib.hid (T5.out.trans (Touch.of_grown (F := Foot h) hg6 (fun j hj => by cases hj; exact .inr (.inl rfl))) (fun n hn _ => hn))
      clear hb6 hg6 c0'
      go_wp2_with fail
      refine ⟨⟨k + 1, hlt, by simp, by rw [SN.out]; exact D6.out, T6.out⟩, ?_⟩
      simp only [intOf]
      omega
    · have hkl : k = v.pend.length := by omega
      subst hkl
      have b2 : ((v.pend.length : Int) < (v.pend.length : Int)) = False := by simp
      have c2 := HDR.out.cells.2.2.1
      have hvp := HVP.out
      rw [hvp] at c2
      have f2 := HDR.out.dev.free 2
      have DC := Lib.hid (Dv.clear HDR.out)
      have TC := Lib.hid (HTR.out.trans (touch_cell HDR.out 2 (.slice none 0 0)) (fun n hn _ => hn))
      clear hvp
      go_wp2_with fail
      go_ret
      have E2 : ({ P with stable := applyW v.stable (v.pend.take v.pend.length), pend := [] } : DevD) = v.flushed := by
        rw [E.out.1, List.take_length, HPV.out]
      exact ⟨by rw [E.out.2]; rfl, .slice none 0 0, by rw [← E2]; exact DC.out, TC.out, fun b hb => by cases hb⟩
end Go.Proofs.Ytgmdhedabmkcoaa
