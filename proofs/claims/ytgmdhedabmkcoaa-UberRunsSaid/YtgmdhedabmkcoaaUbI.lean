/- The example of layer 6; UberNames; UberApart: the walks. -/
import Derived.Test.YtgmdhedabmkcoaaUbH
set_option linter.unusedSimpArgs false
set_option linter.unusedVariables false
namespace Go.Proofs.Ytgmdhedabmkcoaa
open Go.RowKit Go.Sort

/-! A device with power. -/
theorem spent_live {v : DevD} (hl : v.left = -1) (hd : v.dead = false) : v.spent = v := by
  unfold DevD.spent
  rw [if_neg (by rw [hd, hl]; simp), if_neg (by rw [hl]; omega)]
theorem power_live {v : DevD} (hl : v.left = -1) (hd : v.dead = false) : v.powerB = true := by unfold DevD.powerB; rw [hd, hl]; rfl
theorem counted_live {v : DevD} (hl : v.left = -1) (hd : v.dead = false) : v.counted.left = -1 ∧ v.counted.dead = false := ⟨hl, hd⟩
theorem flushed_live {v : DevD} (hl : v.left = -1) (hd : v.dead = false) : v.flushed = { v.counted with stable := applyW v.stable v.pend, pend := [] } := by
  unfold DevD.flushed
  rw [if_pos (power_live hl hd), spent_live (v := v.counted) hl hd]
theorem written_live {v : DevD} (hl : v.left = -1) (hd : v.dead = false) {n : Nat} (hn : n < v.stable.length) (s : Sec) : v.written (n : Int) s = v.counted.put n s := by
  unfold DevD.written
  rw [if_pos ((hasB_iff v n).2 (by omega)), if_pos (power_live hl hd), spent_live (v := v.counted) hl hd, Int.toNat_natCast]
theorem commit_live {v : DevD} (hl : v.left = -1) (hd : v.dead = false) (hp : v.pend = []) (h4 : 4 ≤ v.stable.length) {u : UbD} (hr : rightU u = true) :
    v.commitE u = 0 ∧ (v.committed u).left = -1 ∧ (v.committed u).dead = false ∧ (v.committed u).pend = [] ∧ (v.committed u).stable = v.stable.set (u.txg % 4) (ubV u) ∧ (v.committed u).newest = v.newest.set (u.txg % 4) (ubV u) := by
  have hm : u.txg % 4 < 4 := Nat.mod_lt _ (by omega)
  have f1 := flushed_live hl hd
  rw [hp] at f1
  have f2 : v.flushed.left = -1 := by rw [f1]; exact hl
  have f3 : v.flushed.dead = false := by rw [f1]; exact hd
  have f4 : v.flushed.stable = v.stable := by rw [f1]; rfl
  have f5 : v.flushed.pend = [] := by rw [f1]
  have f6 : v.flushed.newest = v.newest := by rw [f1]; rfl
  have w1 := written_live f2 f3 (n := u.txg % 4) (by rw [f4]; omega) (ubV u)
  have we : v.flushed.writeE ((u.txg % 4 : Nat) : Int) = 0 := by
    unfold DevD.writeE
    rw [if_pos ((hasB_iff _ _).2 (by rw [f4]; omega)), if_pos (power_live f2 f3)]
  have fe : v.flushE = 0 := by unfold DevD.flushE; rw [if_pos (power_live hl hd)]
  have c1 : v.commit1 u = v.flushed.counted.put (u.txg % 4) (ubV u) := w1
  have g2 : (v.commit1 u).left = -1 := by rw [c1]; exact f2
  have g3 : (v.commit1 u).dead = false := by rw [c1]; exact f3
  have g1 := flushed_live g2 g3
  have gs : (v.commit1 u).stable = v.stable := by rw [c1]; exact f4
  have gp : (v.commit1 u).pend = [⟨u.txg % 4, ubV u⟩] := by
    rw [c1]
    show v.flushed.pend ++ _ = _
    rw [f5]
    rfl
  have gn : (v.commit1 u).newest = v.newest.set (u.txg % 4) (ubV u) := by
    rw [c1]
    show v.flushed.newest.set _ _ = _
    rw [f6]
  have cc : v.committed u = (v.commit1 u).flushed := by unfold DevD.committed; rw [if_pos hr, if_pos fe, if_pos we]
  have ce : v.commitE u = (v.commit1 u).flushE := by unfold DevD.commitE; rw [if_pos hr, if_pos fe, if_pos we]
  refine ⟨by rw [ce]; unfold DevD.flushE; rw [if_pos (power_live g2 g3)], ?_, ?_, ?_, ?_, ?_⟩
  · rw [cc, g1]; exact g2
  · rw [cc, g1]; exact g3
  · rw [cc, g1]
  · rw [cc, g1, gp, gs]; rfl
  · rw [cc, g1]; exact gn
theorem atU_live {v : DevD} (hd : v.dead = false) {i : Nat} (hi : i < v.stable.length) : v.atU i = (uread (v.newest.getD i zSec).val).bind fun u => if u.txg % 4 = i then some u else none := by
  have hb : v.hasB (i : Int) = true := (hasB_iff v i).2 (by omega)
  have hre : v.readE (i : Int) = 0 := by unfold DevD.readE; rw [if_pos hb, if_neg (show ¬ v.dead = true by rw [hd]; simp)]
  have hrs : v.readS (i : Int) = v.newest.getD i zSec := by
    unfold DevD.readS DevD.nowAt
    rw [if_neg (show ¬ v.dead = true by rw [hd]; simp), if_pos hb, Int.toNat_natCast]
  unfold DevD.atU
  rw [if_pos hre, hrs]
theorem counts_ring (v : DevD) (k : Nat) : (v.counts k).ringU = v.ringU := by
  have h : ∀ i, (v.counts k).atU i = v.atU i := fun i => by
    unfold DevD.atU
    rw [(counts_read v k i).1, (counts_read v k i).2]
  have h2 : ∀ j, (v.counts k).rawU j = v.rawU j := fun j => by
    induction j with
    | zero => rfl
    | succ j ih => rw [DevD.rawU, DevD.rawU, ih, h]
  unfold DevD.ringU
  rw [h2]
theorem uread_zero : uread zeroS = none := by
  unfold uread
  rw [if_neg]
  rintro ⟨h, _⟩
  exact absurd h (by decide)
theorem small_right : rightU (smallU 1) = true ∧ rightU (smallU 2) = true := ⟨by decide, by decide⟩
theorem small_wf (n : Nat) (h : n < 18446744073709551616) : (smallU n).wf := by unfold UbD.wf smallU PtrD.wf; simp only; omega
def aliveD : DevD := ((newD (clampN 4)).committed (smallU 1)).committed (smallU 2)
theorem alive_facts : (newD (clampN 4)).commitE (smallU 1) = 0 ∧ ((newD (clampN 4)).committed (smallU 1)).commitE (smallU 2) = 0 ∧ (newD (clampN 4)).pend.length = 0 ∧ ((newD (clampN 4)).committed (smallU 1)).pend.length = 0 ∧ aliveD.pend = [] ∧ aliveD.ringU = [smallU 1, smallU 2] ∧ (newD (clampN 4)).ringU = [] := by
  have hc : clampN 4 = 4 := by decide
  obtain ⟨r1, r2⟩ := small_right
  have s1 : (ubV (smallU 1)).val = ubBytes (smallU 1) := by unfold ubV; rw [if_pos r1]
  have s2 : (ubV (smallU 2)).val = ubBytes (smallU 2) := by unfold ubV; rw [if_pos r2]
  rw [hc]
  obtain ⟨a1, a2, a3, a4, a5, a6⟩ := commit_live (v := newD 4) rfl rfl rfl (by unfold newD; simp) r1
  obtain ⟨b1, b2, b3, b4, b5, b6⟩ := commit_live a2 a3 a4 (by rw [a5]; simp [newD]) r2
  have hD : aliveD = ((newD 4).committed (smallU 1)).committed (smallU 2) := by unfold aliveD; rw [hc]
  have hn : aliveD.newest = [zSec, ubV (smallU 1), ubV (smallU 2), zSec] := by rw [hD, b6, a6]; rfl
  have hs : aliveD.stable.length = 4 := by rw [hD, b5, a5]; simp [newD]
  have hd : aliveD.dead = false := by rw [hD]; exact b3
  have t0 : aliveD.atU 0 = none := by
    rw [atU_live hd (by omega), hn]
    show (uread zeroS).bind _ = none
    rw [uread_zero]; rfl
  have t1 : aliveD.atU 1 = some (smallU 1) := by
    rw [atU_live hd (by omega), hn]
    show (uread (ubV (smallU 1)).val).bind _ = _
    rw [s1, uread_back r1 (small_wf 1 (by omega))]; rfl
  have t2 : aliveD.atU 2 = some (smallU 2) := by
    rw [atU_live hd (by omega), hn]
    show (uread (ubV (smallU 2)).val).bind _ = _
    rw [s2, uread_back r2 (small_wf 2 (by omega))]; rfl
  have t3 : aliveD.atU 3 = none := by
    rw [atU_live hd (by omega), hn]
    show (uread zeroS).bind _ = none
    rw [uread_zero]; rfl
  refine ⟨a1, b1, rfl, by rw [a4]; rfl, by rw [hD]; exact b4, ?_, ?_⟩
  · unfold DevD.ringU
    simp only [DevD.rawU, t0, t1, t2, t3]
    rfl
  · have hz : ∀ i, i < 4 → (newD 4).atU i = none := fun i hi => by
      rw [atU_live rfl (by unfold newD; simp; omega)]
      have : ((newD 4).newest.getD i zSec).val = zeroS := by
        unfold newD
        match i, hi with
        | 0, _ => rfl
        | 1, _ => rfl
        | 2, _ => rfl
        | 3, _ => rfl
      rw [this, uread_zero]; rfl
    unfold DevD.ringU
    simp only [DevD.rawU, hz 0 (by omega), hz 1 (by omega), hz 2 (by omega), hz 3 (by omega)]
    rfl

set_option maxRecDepth 100000 in
set_option maxHeartbeats 8000000 in
theorem uberAlive_any (w : World) : Calls Try.prog 11 #[] w fun e w' => e = .returned (.bool true) ∧ Up w w' := by
  obtain ⟨x1, x2, x3, x4, x5, x6, x7⟩ := alive_facts
  have X1 := Lib.hid x1
  have X2 := Lib.hid x2
  have SM1 := Lib.hid (show ∀ W, Calls Try.prog 18 #[.int .u64 1] W fun e w' => e = .returned (.agg (uC (smallU 1))) ∧ Up W w' from fun W => small_any W 1)
  have SM2 := Lib.hid (show ∀ W, Calls Try.prog 18 #[.int .u64 2] W fun e w' => e = .returned (.agg (uC (smallU 2))) ∧ Up W w' from fun W => small_any W 2)
  have CM1 := Lib.hid (show ∀ W h, Dv W h (newD (clampN 4)) → Calls Try.prog 19 #[.pointer (some ⟨h.d, 0, none⟩), .agg (uC (smallU 1))] W fun e w' => e = .returned (.int .i64 0) ∧ Turned W h ((newD (clampN 4)).committed (smallU 1)) w' from fun W h D => by
    have := commit_any W h _ D (smallU 1) (small_wf 1 (by omega)) (by rw [x3]; omega)
    rw [x1] at this
    exact this)
  have CM2 := Lib.hid (show ∀ W h, Dv W h ((newD (clampN 4)).committed (smallU 1)) → Calls Try.prog 19 #[.pointer (some ⟨h.d, 0, none⟩), .agg (uC (smallU 2))] W fun e w' => e = .returned (.int .i64 0) ∧ Turned W h aliveD w' from fun W h D => by
    have := commit_any W h _ D (smallU 2) (small_wf 2 (by omega)) (by rw [x4]; omega)
    rw [x2] at this
    exact this)
  have BE := Lib.hid (show ∀ W h, Dv W h aliveD → Calls Try.prog 9 #[.pointer (some ⟨h.d, 0, none⟩)] W fun e w' => e = .returned (.tuple #[.agg (uC (smallU 2)), .bool true]) ∧ Dv w' h (aliveD.counts 4) ∧ Touch (Foot h) W w' from fun W h D => by
    have hb : aliveD.bestU = some (smallU 2) := by unfold DevD.bestU; rw [x6]; rfl
    refine (best_any W h _ D).mono fun e w' hh => ?_
    unfold BestPost at hh
    rw [hb] at hh
    exact hh)
  have LI := Lib.hid (show ∀ W h, Dv W h (aliveD.counts 4) → Calls Try.prog 23 #[.pointer (some ⟨h.d, 0, none⟩)] W fun e w' => ∃ a n c, e = .returned (.slice a n c) ∧ IsRow ucells w' (.slice a n c) [smallU 1, smallU 2] ∧ (∃ v', Dv w' h v' ∧ v'.pend = []) ∧ Touch (Foot h) W w' from fun W h D => by
    refine (list_any W h _ D).mono fun e w' hh => ?_
    obtain ⟨a, n, c, h1, h2, h3, h4, h5⟩ := hh
    rw [counts_ring, x6] at h2
    exact ⟨a, n, c, h1, h2, ⟨_, h4, by rw [(counts_same _ 4).2.2.1, (counts_same _ 4).2.2.1, x5]⟩, h5⟩)
  have NW := Lib.hid (dnew_any w 4 (by omega))
  have EQ2 : ∀ W : World, (Op.equalIn 10000 27 (.agg (uC (smallU 2))) (.agg (uC (smallU 2)))).run Try.prog W = .ok true W := fun W => by rw [ub_eq, decide_eq_true rfl]
  have EQ1 : ∀ W : World, (Op.equalIn 10000 27 (.agg (uC (smallU 1))) (.agg (uC (smallU 1)))).run Try.prog W = .ok true W := fun W => by rw [ub_eq, decide_eq_true rfl]
  have HI1 := Lib.hid (info_uV (smallU 1))
  have HI2 := Lib.hid (info_uV (smallU 2))
  have HO2 := Lib.hid (uC_one (smallU 2))
  have HZ2 := Lib.hid (show (uC zUb).size = (uC (smallU 2)).size from rfl)
  have HUC := Lib.hid (show ucells (smallU 1) = (uC (smallU 1)).toList from rfl)
  clear x1 x2 x3 x4 x5 x6 x7 X1 X2
  generalize hC1 : uC (smallU 1) = C1 at *
  generalize hC2 : uC (smallU 2) = C2 at *
  clear hC1 hC2
  go_enter Try.func11, Try.ntmps11
  go_wp2_with fail
  refine NW.out.mono ?_
  rintro e w2 ⟨h, rfl, D2, U2, F2⟩
  have A2 := Lib.hid (show DevAt w w2 h _ from ⟨D2, U2, F2⟩)
  clear D2 U2 F2 NW
  go_wp2_with fail
  refine (SM1.out _).mono ?_
  rintro e w3 ⟨rfl, U3⟩
  have A3 := A2.out.upTo U3
  go_wp2_with fail
  refine (CM1.out w3 h A3.dv).mono ?_
  rintro e w4 ⟨rfl, T4⟩
  obtain ⟨vp4, A4, _⟩ := A3.turn T4
  obtain ⟨h4, hh4⟩ : ∃ x : Hnd, x = { h with vp := vp4 } := ⟨_, rfl⟩
  have hd4 : h.d = h4.d := by rw [hh4]
  rw [← hh4] at A4
  rw [hd4]
  have A4 := Lib.hid A4
  clear A2 A3 T4 U3 hh4 hd4
  go_wp2_with fail
  refine (SM2.out _).mono ?_
  rintro e w5 ⟨rfl, U5⟩
  have A5 := A4.out.upTo U5
  go_wp2_with fail
  refine (CM2.out w5 h4 A5.dv).mono ?_
  rintro e w6 ⟨rfl, T6⟩
  obtain ⟨vp6, A6, _⟩ := A5.turn T6
  obtain ⟨h, hh6⟩ : ∃ x : Hnd, x = { h4 with vp := vp6 } := ⟨_, rfl⟩
  have hd6 : h4.d = h.d := by rw [hh6]
  rw [← hh6] at A6
  rw [hd6]
  have A6 := Lib.hid A6
  clear A4 A5 T6 U5 hh6 hd6
  go_wp2_with fail
  refine (BE.out w6 h A6.out.dv).mono ?_
  rintro e w8 ⟨rfl, D8, T8⟩
  have A8 := A6.out.touch D8 T8
  have BU := Lib.hid (Blk.new w8 27 C2)
  have A9 := Lib.hid (A8.upTo (up_alloc w8 (.cells C2 27)))
  have NF := Lib.hid (show ¬ Foot h w8.heap.size from fun hf => by have := D8.foot_lt _ hf; omega)
  clear D8 T8 A8 A6
  go_wp2_with (first
    | ((with_reducible refine wg_alloc 27 ?_); refine wpList_alloc_blk rfl 27 rfl (uC zUb) zero_ub ?_)
    | ((with_reducible refine wg_store 27 (.tmp 2) (.tmp 19) ?_); refine ws_new w8 rfl 27 (.tmp 2) (.tmp 19) rfl C2 27 (uC zUb) rfl rfl rfl HI2.out HZ2.out HO2.out ?_))
  refine (LI.out _ h A9.out.dv).mono ?_
  rintro e w9 ⟨la, ln, lc, rfl, IR, ⟨v9, D9, hp9⟩, T9⟩
  have BU := Lib.hid (BU.out.touch T9 NF.out)
  have A10 := A9.out.touch D9 T9
  obtain rfl : ln = 2 := by obtain ⟨_, _, hx⟩ := IR.slice; simp at hx; exact hx.2.1
  obtain ⟨gl, off, rfl, _, _, hc⟩ := IsRow.get IR uw (by simp)
  have UD : Up w9 w9.drew := (Up.refl w9).drew
  have RG := Lib.hid (show w9.drew.rangeAt gl off C1.toList from fun j u hj => UD.cell (by
    have := hc 0 (by simp) j u (by rw [← HUC.out] at hj; exact hj)
    simpa using this))
  have BU := Lib.hid (BU.out.up UD)
  have UZ := Lib.hid (A10.up.trans UD)
  have PN := Lib.hid (show ∀ W, Up w9.drew W → Calls Try.prog 33 #[.pointer (some ⟨h.d, 0, none⟩)] W fun e w' => e = .returned (.int .i64 0) ∧ W = w' from fun W U => by
    have := dpending_any W h v9 (D9.up (UD.trans U))
    rw [hp9] at this
    exact this)
  clear hc IR A10 A9 T9 D9 hp9 UD
  go_wp2_with fail
  refine wp_region_held (S := fun W => Up w9.drew W) (by kernel_rfl) ?_
  change wpAnyH _ _ _ _ _ 24 _ _ w9.drew
  generalize w9.drew = wd at *
  (try simp only [Act.put, List.getElem_toArray, List.getElem_cons_succ, List.getElem_cons_zero, List.setIfInBounds_toArray, List.set_cons_zero, List.set_cons_succ])
  refine wpAnyH_take (i := 0) (v := .bool true) rfl (by kernel_rfl) (by kernel_rfl) (by kernel_rfl) (fun _ _ _ h => h) (yi_any rfl (fun _ => by go_simp)) (Up.refl _) ?_
  (try simp only [Act.put, List.getElem_toArray, List.getElem_cons_succ, List.getElem_cons_zero, List.setIfInBounds_toArray, List.set_cons_zero, List.set_cons_succ])
  refine wpAnyH_take (i := 1) (v := .bool true) rfl (by kernel_rfl) (by kernel_rfl) (by kernel_rfl) (fun _ _ _ h => h) (yi_any rfl (fun _ => by go_simp)) (Up.refl _) ?_
  (try simp only [Act.put, List.getElem_toArray, List.getElem_cons_succ, List.getElem_cons_zero, List.setIfInBounds_toArray, List.set_cons_zero, List.set_cons_succ])
  refine wpAnyH_take (i := 2) (v := .agg C2) rfl (by kernel_rfl) (by kernel_rfl) (by kernel_rfl) (fun _ _ _ h => h) (yi_part rfl 27 (.tmp 2) rfl w8.heap.size 0 rfl C2 (fun W hS => Up.range hS BU.out.range) _ Try.underlying27 rfl HI2.out) (Up.refl _) ?_
  (try simp only [Act.put, List.getElem_toArray, List.getElem_cons_succ, List.getElem_cons_zero, List.setIfInBounds_toArray, List.set_cons_zero, List.set_cons_succ])
  refine wpAnyH_oneK 3 (by kernel_rfl) rfl rfl ?_
  intro K hK
  go_simp
  refine (SM2.out wd).mono ?_
  rintro e wa ⟨rfl, hu⟩
  have UA := Lib.hid ((Up.refl _).trans hu)
  refine hK _ _ UA.out ?_
  clear hK K hu
  (try simp only [Act.put, List.getElem_toArray, List.getElem_cons_succ, List.getElem_cons_zero, List.setIfInBounds_toArray, List.set_cons_zero, List.set_cons_succ])
  refine wpAnyH_take (i := 4) (v := .bool true) rfl (by kernel_rfl) (by kernel_rfl) (by kernel_rfl) (fun _ _ _ h => h) (yi_any rfl (fun _ => by go_simp)) UA.out ?_
  (try simp only [Act.put, List.getElem_toArray, List.getElem_cons_succ, List.getElem_cons_zero, List.setIfInBounds_toArray, List.set_cons_zero, List.set_cons_succ])
  refine wpAnyH_take (i := 5) (v := .bool true) rfl (by kernel_rfl) (by kernel_rfl) (by kernel_rfl) (fun _ _ _ h => h) (yi_any rfl (fun _ => by go_simp)) UA.out ?_
  (try simp only [Act.put, List.getElem_toArray, List.getElem_cons_succ, List.getElem_cons_zero, List.setIfInBounds_toArray, List.set_cons_zero, List.set_cons_succ])
  refine wpAnyH_take (i := 6) (v := .bool true) rfl (by kernel_rfl) (by kernel_rfl) (by kernel_rfl) (fun _ _ _ h => h) (yi_any rfl (fun _ => by go_simp)) UA.out ?_
  (try simp only [Act.put, List.getElem_toArray, List.getElem_cons_succ, List.getElem_cons_zero, List.setIfInBounds_toArray, List.set_cons_zero, List.set_cons_succ])
  refine wpAnyH_take (i := 7) (v := .slice (some ⟨gl, off, none⟩) 2 lc) rfl (by kernel_rfl) (by kernel_rfl) (by kernel_rfl) (fun _ _ _ h => h) (yi_any rfl (fun _ => by go_simp)) UA.out ?_
  (try simp only [Act.put, List.getElem_toArray, List.getElem_cons_succ, List.getElem_cons_zero, List.setIfInBounds_toArray, List.set_cons_zero, List.set_cons_succ])
  refine wpAnyH_take (i := 8) (v := .int .i64 2) rfl (by kernel_rfl) (by kernel_rfl) (by kernel_rfl) (fun _ _ _ h => h) (yi_any rfl (fun _ => by go_simp)) UA.out ?_
  (try simp only [Act.put, List.getElem_toArray, List.getElem_cons_succ, List.getElem_cons_zero, List.setIfInBounds_toArray, List.set_cons_zero, List.set_cons_succ])
  refine wpAnyH_take (i := 9) (v := .bool true) rfl (by kernel_rfl) (by kernel_rfl) (by kernel_rfl) (fun _ _ _ h => h) (yi_any rfl (fun _ => by go_simp)) UA.out ?_
  (try simp only [Act.put, List.getElem_toArray, List.getElem_cons_succ, List.getElem_cons_zero, List.setIfInBounds_toArray, List.set_cons_zero, List.set_cons_succ])
  refine wpAnyH_take (i := 10) (v := .bool true) rfl (by kernel_rfl) (by kernel_rfl) (by kernel_rfl) (fun _ _ _ h => h) (yi_any rfl (fun _ => by go_simp)) UA.out ?_
  (try simp only [Act.put, List.getElem_toArray, List.getElem_cons_succ, List.getElem_cons_zero, List.setIfInBounds_toArray, List.set_cons_zero, List.set_cons_succ])
  refine wpAnyH_take (i := 11) (v := .bool true) rfl (by kernel_rfl) (by kernel_rfl) (by kernel_rfl) (fun _ _ _ h => h) (yi_any rfl (fun _ => by go_simp)) UA.out ?_
  (try simp only [Act.put, List.getElem_toArray, List.getElem_cons_succ, List.getElem_cons_zero, List.setIfInBounds_toArray, List.set_cons_zero, List.set_cons_succ])
  refine wpAnyH_take (i := 12) (v := .slice (some ⟨gl, off, none⟩) 2 lc) rfl (by kernel_rfl) (by kernel_rfl) (by kernel_rfl) (fun _ _ _ h => h) (yi_any rfl (fun _ => by go_simp)) UA.out ?_
  (try simp only [Act.put, List.getElem_toArray, List.getElem_cons_succ, List.getElem_cons_zero, List.setIfInBounds_toArray, List.set_cons_zero, List.set_cons_succ])
  refine wpAnyH_take (i := 13) (v := .pointer (some ⟨gl, off, none⟩)) rfl (by kernel_rfl) (by kernel_rfl) (by kernel_rfl) (fun _ _ _ h => h) (yi_any rfl (fun _ => by go_simp)) UA.out ?_
  (try simp only [Act.put, List.getElem_toArray, List.getElem_cons_succ, List.getElem_cons_zero, List.setIfInBounds_toArray, List.set_cons_zero, List.set_cons_succ])
  refine wpAnyH_take (i := 14) (v := .agg C1) rfl (by kernel_rfl) (by kernel_rfl) (by kernel_rfl) (fun _ _ _ h => h) (yi_part rfl 27 (.tmp 36) rfl gl off rfl C1 (fun W hS => Up.range hS RG.out) _ Try.underlying27 rfl HI1.out) UA.out ?_
  (try simp only [Act.put, List.getElem_toArray, List.getElem_cons_succ, List.getElem_cons_zero, List.setIfInBounds_toArray, List.set_cons_zero, List.set_cons_succ])
  refine wpAnyH_oneK 15 (by kernel_rfl) rfl rfl ?_
  intro K hK
  go_simp
  refine (SM1.out wa).mono ?_
  rintro e wb ⟨rfl, hu⟩
  have UBB := Lib.hid (UA.out.trans hu)
  refine hK _ _ UBB.out ?_
  clear hK K hu
  (try simp only [Act.put, List.getElem_toArray, List.getElem_cons_succ, List.getElem_cons_zero, List.setIfInBounds_toArray, List.set_cons_zero, List.set_cons_succ])
  refine wpAnyH_take (i := 16) (v := .bool true) rfl (by kernel_rfl) (by kernel_rfl) (by kernel_rfl) (fun _ _ _ h => h) (yi_any rfl (fun _ => by go_simp)) UBB.out ?_
  (try simp only [Act.put, List.getElem_toArray, List.getElem_cons_succ, List.getElem_cons_zero, List.setIfInBounds_toArray, List.set_cons_zero, List.set_cons_succ])
  refine wpAnyH_take (i := 17) (v := .bool true) rfl (by kernel_rfl) (by kernel_rfl) (by kernel_rfl) (fun _ _ _ h => h) (yi_any rfl (fun _ => by go_simp)) UBB.out ?_
  (try simp only [Act.put, List.getElem_toArray, List.getElem_cons_succ, List.getElem_cons_zero, List.setIfInBounds_toArray, List.set_cons_zero, List.set_cons_succ])
  refine wpAnyH_take (i := 18) (v := .bool true) rfl (by kernel_rfl) (by kernel_rfl) (by kernel_rfl) (fun _ _ _ h => h) (yi_any rfl (fun _ => by go_simp)) UBB.out ?_
  (try simp only [Act.put, List.getElem_toArray, List.getElem_cons_succ, List.getElem_cons_zero, List.setIfInBounds_toArray, List.set_cons_zero, List.set_cons_succ])
  refine wpAnyH_take (i := 19) (v := .pointer (some ⟨h.d, 0, none⟩)) rfl (by kernel_rfl) (by kernel_rfl) (by kernel_rfl) (fun _ _ _ h => h) (yi_any rfl (fun _ => by go_simp)) UBB.out ?_
  (try simp only [Act.put, List.getElem_toArray, List.getElem_cons_succ, List.getElem_cons_zero, List.setIfInBounds_toArray, List.set_cons_zero, List.set_cons_succ])
  refine wpAnyH_oneK 20 (by kernel_rfl) rfl rfl ?_
  intro K hK
  go_simp
  refine (PN.out wb UBB.out).mono ?_
  rintro e wc ⟨rfl, rfl⟩
  refine hK _ _ UBB.out ?_
  clear hK K
  (try simp only [Act.put, List.getElem_toArray, List.getElem_cons_succ, List.getElem_cons_zero, List.setIfInBounds_toArray, List.set_cons_zero, List.set_cons_succ])
  refine wpAnyH_take (i := 21) (v := .bool true) rfl (by kernel_rfl) (by kernel_rfl) (by kernel_rfl) (fun _ _ _ h => h) (yi_any rfl (fun _ => by go_simp)) UBB.out ?_
  (try simp only [Act.put, List.getElem_toArray, List.getElem_cons_succ, List.getElem_cons_zero, List.setIfInBounds_toArray, List.set_cons_zero, List.set_cons_succ])
  refine wpAnyH_take (i := 22) (v := .bool true) rfl (by kernel_rfl) (by kernel_rfl) (by kernel_rfl) (fun _ _ _ h => h) (yi_any rfl (fun _ => by go_simp)) UBB.out ?_
  (try simp only [Act.put, List.getElem_toArray, List.getElem_cons_succ, List.getElem_cons_zero, List.setIfInBounds_toArray, List.set_cons_zero, List.set_cons_succ])
  refine wpAnyH_take (i := 23) (v := .bool true) rfl (by kernel_rfl) (by kernel_rfl) (by kernel_rfl) (fun _ _ _ h => h) (yi_any rfl (fun _ => by go_simp)) UBB.out ?_
  (try simp only [Act.put, List.getElem_toArray, List.getElem_cons_succ, List.getElem_cons_zero, List.setIfInBounds_toArray, List.set_cons_zero, List.set_cons_succ])
  refine ⟨by kernel_rfl, ?_⟩
  have UF := UZ.out.trans UBB.out
  (try simp only [Exit.then])
  go_wp2_with fail
  go_ret
  exact ⟨rfl, UF⟩
set_option maxRecDepth 100000 in
set_option maxHeartbeats 4000000 in
theorem uberNames_walk (w : World) : Calls Try.prog 3 #[] w fun e w' => e = .returned (.bool true) ∧ Up w w' := by
  have AL := Lib.hid uberAlive_any
  have NW := Lib.hid (dnew_any w 4 (by omega))
  have x7 := alive_facts.2.2.2.2.2.2
  have BE := Lib.hid (show ∀ W h, Dv W h (newD (clampN 4)) → Calls Try.prog 9 #[.pointer (some ⟨h.d, 0, none⟩)] W fun e w' => e = .returned (.tuple #[.agg (uC zUb), .bool false]) ∧ Dv w' h ((newD (clampN 4)).counts 4) ∧ Touch (Foot h) W w' from fun W h D => by
    have hb : (newD (clampN 4)).bestU = none := by unfold DevD.bestU; rw [x7]; rfl
    refine (best_any W h _ D).mono fun e w' hh => ?_
    unfold BestPost at hh
    rw [hb] at hh
    exact hh)
  clear x7
  go_enter Try.func3, Try.ntmps3
  go_wp2_with fail
  refine NW.out.mono ?_
  rintro e w2 ⟨h, rfl, D2, U2, F2⟩
  go_wp2_with fail
  refine (BE.out w2 h D2).mono ?_
  rintro e w3 ⟨rfl, D3, T3⟩
  have A3 := (show DevAt w w2 h _ from ⟨D2, U2, F2⟩).touch D3 T3
  have U4 := Lib.hid (A3.up.trans (up_alloc w3 (.cells (uC zUb) 27)))
  have SC := run_storeCells_new (P := Try.prog) w3 27 (uC zUb) (uC zUb) (info_uV zUb) rfl (uC_one zUb)
  clear D2 U2 F2 D3 T3 A3
  go_wp2_with (first
    | ((with_reducible refine wg_alloc 27 ?_); refine wpList_alloc_blk rfl 27 rfl (uC zUb) zero_ub ?_)
    | ((with_reducible refine wg_store 27 (.tmp 1) (.tmp 6) ?_); refine ws_new w3 rfl 27 (.tmp 1) (.tmp 6) rfl (uC zUb) 27 (uC zUb) rfl rfl rfl (info_uV zUb) rfl (uC_one zUb) ?_))
  refine (AL.out _).mono ?_
  rintro e w5 ⟨rfl, U5⟩
  go_wp2_with fail
  go_ret
  exact ⟨rfl, U4.out.trans U5⟩

end Go.Proofs.Ytgmdhedabmkcoaa
