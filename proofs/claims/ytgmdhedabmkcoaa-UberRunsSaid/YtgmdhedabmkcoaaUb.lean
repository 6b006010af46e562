/- An uber (api.Uber) in memory: what it holds; which can be: the walks of both sides. -/
import Derived.Test.YtgmdhedabmkcoaaPc
import Derived.Test.YtgmdhedabmkcoaaPtrK
import Derived.Test.YtgmdhedabmkcoaaGate
set_option linter.unusedSimpArgs false
set_option linter.unusedVariables false
namespace Go.Proofs.Ytgmdhedabmkcoaa
open Go.RowKit Go.Sort

structure UbD where
  txg : Nat
  stamp : Nat
  tab : PtrD
  len : Int
  sec : Int
deriving DecidableEq
def UbD.wf (u : UbD) : Prop := u.txg < 18446744073709551616 ∧ u.stamp < 18446744073709551616 ∧ u.tab.wf ∧ (-9223372036854775808 ≤ u.len ∧ u.len ≤ 9223372036854775807) ∧ (-9223372036854775808 ≤ u.sec ∧ u.sec ≤ 9223372036854775807)
def uC (u : UbD) : Array Value := #[.int .u64 (u.txg : Int), .int .u64 (u.stamp : Int), .int .i64 u.tab.loc, .int .u64 (u.tab.birth : Int), .int .u32 (u.tab.sum : Int), .int .i64 u.len, .int .i64 u.sec]
def ucells (u : UbD) : List Value := (uC u).toList
theorem uC_size (u : UbD) : (uC u).size = 7 := rfl
theorem uC_one (u : UbD) : (uC u).all (·.oneCell') = true := by simp [uC, Value.oneCell']
theorem uw : Wide ucells 7 := ⟨by omega, fun _ => rfl, fun u v hv => by
  have := uC_one u
  rw [Array.all_eq_true'] at this
  exact this v (by simpa [ucells] using hv)⟩
theorem info_uV (u : UbD) : (Try.prog.info? 27).map (·.size) = some (uC u).size := by rw [uC_size]; kernel_rfl
theorem info_pcU (p : PtrD) : (Try.prog.info? 25).map (·.size) = some (pcA p).size := by kernel_rfl
theorem uC_at {w : World} {g : Nat} {t : TypeId} {txg stamp : Nat} {tab : PtrD} {len sec : Int} (h : Blk w g t (uC ⟨txg, stamp, tab, len, sec⟩)) :
    w.cell? ⟨g, 0, none⟩ = some (.int .u64 (txg : Int)) ∧ w.cell? ⟨g, 1, none⟩ = some (.int .u64 (stamp : Int)) ∧ w.cell? ⟨g, 2, none⟩ = some (.int .i64 tab.loc) ∧ w.cell? ⟨g, 5, none⟩ = some (.int .i64 len) ∧ w.cell? ⟨g, 6, none⟩ = some (.int .i64 sec) ∧
    Hid (w.rangeAt g 2 (pcA tab).toList) :=
  ⟨by rw [h.cell]; rfl, by rw [h.cell]; rfl, by rw [h.cell]; rfl, by rw [h.cell]; rfl, by rw [h.cell]; rfl, Lib.hid fun j v hj => by
    rw [h.cell]
    match j, hj with
    | 0, hj => exact hj
    | 1, hj => exact hj
    | 2, hj => exact hj
    | (n + 3), hj => simp [pcA] at hj⟩
/-- Which ubers can be. -/
def rightU (u : UbD) : Bool := decide (1 ≤ u.txg) && decide (u.txg ≤ 281474976710655) && decide (1 ≤ u.stamp) && decide (u.stamp ≤ 281474976710655) && goodB u.tab && !decide (u.tab = hole) && decide (1 ≤ u.len) && decide (u.len ≤ 65535) && decide (64 ≤ u.sec) && decide (u.sec ≤ 1024)
theorem rightU_iff (u : UbD) : rightU u = true ↔ (1 ≤ u.txg ∧ u.txg ≤ 281474976710655) ∧ (1 ≤ u.stamp ∧ u.stamp ≤ 281474976710655) ∧ (goodB u.tab = true ∧ u.tab ≠ hole) ∧ (1 ≤ u.len ∧ u.len ≤ 65535) ∧ (64 ≤ u.sec ∧ u.sec ≤ 1024) := by
  unfold rightU
  simp [and_assoc]
theorem good_hole {p : PtrD} (h : goodB p = true) : p ≠ hole ↔ 0 < p.loc := by
  obtain ⟨l, b, s⟩ := p
  rw [goodB_iff] at h
  unfold hole
  simp only [ne_eq, PtrD.mk.injEq]
  omega

set_option maxRecDepth 100000 in
set_option maxHeartbeats 8000000 in
theorem uright_any (w : World) (u : UbD) :
    Calls Try.prog 16 #[.agg (uC u)] w fun e w' => BoolUp (rightU u) w e w' := by
  have HI := Lib.hid (info_uV u)
  have B1 := Lib.hid (Blk.new w 27 (uC u))
  have U1 := Lib.hid (up_alloc w (.cells (uC u) 27))
  have PR := Lib.hid (fun W => right_any W u.tab)
  have IFF := Lib.hid (rightU_iff u)
  obtain ⟨txg, stamp, tab, len, sec⟩ := u
  dsimp only at PR IFF
  have HIN := Lib.hid (info_pcU tab)
  have PV : ptrV tab = .agg (pcA tab) := rfl
  rw [PV] at PR
  clear PV
  obtain ⟨c0, c1, c2, c5, c6, R2⟩ := uC_at B1.out
  by_cases h0 : 1 ≤ txg
  rotate_left
  · have b0 : ((1 : Int) ≤ (txg : Int)) = False := by simp; omega
    have HF := Lib.hid (show rightU ⟨txg, stamp, tab, len, sec⟩ = false by
      rw [← Bool.not_eq_true, IFF.out]
      intro hh
      exact absurd hh.1.1 (by omega))
    go_enter Try.func16, Try.ntmps16
    go_wp2_with fail
    go_ret
    exact ⟨by rw [HF.out] <;> rfl, U1.out⟩
  have b0 : ((1 : Int) ≤ (txg : Int)) = True := by simp; omega
  by_cases h1 : txg ≤ 281474976710655
  rotate_left
  · have b1 : ((txg : Int) ≤ (281474976710655 : Int)) = False := by simp; omega
    have HF := Lib.hid (show rightU ⟨txg, stamp, tab, len, sec⟩ = false by
      rw [← Bool.not_eq_true, IFF.out]
      intro hh
      exact absurd hh.1.2 (by omega))
    go_enter Try.func16, Try.ntmps16
    go_wp2_with fail
    go_ret
    exact ⟨by rw [HF.out] <;> rfl, U1.out⟩
  have b1 : ((txg : Int) ≤ (281474976710655 : Int)) = True := by simp; omega
  by_cases h2 : 1 ≤ stamp
  rotate_left
  · have b2 : ((1 : Int) ≤ (stamp : Int)) = False := by simp; omega
    have HF := Lib.hid (show rightU ⟨txg, stamp, tab, len, sec⟩ = false by
      rw [← Bool.not_eq_true, IFF.out]
      intro hh
      exact absurd hh.2.1.1 (by omega))
    go_enter Try.func16, Try.ntmps16
    go_wp2_with fail
    go_ret
    exact ⟨by rw [HF.out] <;> rfl, U1.out⟩
  have b2 : ((1 : Int) ≤ (stamp : Int)) = True := by simp; omega
  by_cases h3 : stamp ≤ 281474976710655
  rotate_left
  · have b3 : ((stamp : Int) ≤ (281474976710655 : Int)) = False := by simp; omega
    have HF := Lib.hid (show rightU ⟨txg, stamp, tab, len, sec⟩ = false by
      rw [← Bool.not_eq_true, IFF.out]
      intro hh
      exact absurd hh.2.1.2 (by omega))
    go_enter Try.func16, Try.ntmps16
    go_wp2_with fail
    go_ret
    exact ⟨by rw [HF.out] <;> rfl, U1.out⟩
  have b3 : ((stamp : Int) ≤ (281474976710655 : Int)) = True := by simp; omega
  go_enter Try.func16, Try.ntmps16
  go_wp2_with (first
    | ((with_reducible refine wg_load 25 (.tmp 22) ?_); refine wl_part rfl 25 (.tmp 22) rfl w.heap.size 2 rfl (pcA tab) R2.out _ Try.underlying25 rfl HIN.out ?_))
  refine (PR.out _).mono ?_
  rintro e w2 ⟨rfl, U2⟩
  have B2 := Lib.hid (B1.out.up U2)
  have U3 := Lib.hid (U1.out.trans U2)
  clear c0 c1 c2 c5 c6 R2
  obtain ⟨c0, c1, c2, c5, c6, R2⟩ := uC_at B2.out
  clear U2 PR B1 U1
  cases hg : goodB tab
  · have HF := Lib.hid (show rightU ⟨txg, stamp, tab, len, sec⟩ = false by
      rw [← Bool.not_eq_true, IFF.out]
      intro hh
      have := hh.2.2.1.1
      rw [hg] at this
      cases this)
    clear hg
    go_wp2_with fail
    go_ret
    exact ⟨by rw [HF.out] <;> rfl, U3.out⟩
  have HG := Lib.hid hg
  clear hg
  have EQ : ∀ W : World, (Op.equalIn 10000 25 (.agg (pcA tab)) (.agg #[.int .i64 0, .int .u64 0, .int .u32 0])).run Try.prog W = .ok (decide (tab = hole)) W := fun W => ptr_eqD 9998 tab hole W
  by_cases hh : tab = hole
  · have HF := Lib.hid (show rightU ⟨txg, stamp, tab, len, sec⟩ = false by
      rw [← Bool.not_eq_true, IFF.out]
      intro h
      exact h.2.2.1.2 hh)
    rw [decide_eq_true hh] at EQ
    clear hh
    go_wp2_with (first
      | ((with_reducible refine wg_load 25 (.tmp 27) ?_); refine wl_part rfl 25 (.tmp 27) rfl w.heap.size 2 rfl (pcA tab) R2.out _ Try.underlying25 rfl HIN.out ?_))
    go_ret
    exact ⟨by rw [HF.out] <;> rfl, U3.out⟩
  have HH := Lib.hid hh
  rw [decide_eq_false hh] at EQ
  clear hh
  by_cases h4 : 1 ≤ len
  rotate_left
  · have b4 : ((1 : Int) ≤ len) = False := by simp; omega
    have HF := Lib.hid (show rightU ⟨txg, stamp, tab, len, sec⟩ = false by
      rw [← Bool.not_eq_true, IFF.out]
      intro hh
      exact absurd hh.2.2.2.1.1 (by omega))
    go_wp2_with (first
      | ((with_reducible refine wg_load 25 (.tmp 27) ?_); refine wl_part rfl 25 (.tmp 27) rfl w.heap.size 2 rfl (pcA tab) R2.out _ Try.underlying25 rfl HIN.out ?_))
    go_ret
    exact ⟨by rw [HF.out] <;> rfl, U3.out⟩
  have b4 : ((1 : Int) ≤ len) = True := by simp; omega
  by_cases h5 : len ≤ 65535
  rotate_left
  · have b5 : (len ≤ 65535) = False := by simp; omega
    have HF := Lib.hid (show rightU ⟨txg, stamp, tab, len, sec⟩ = false by
      rw [← Bool.not_eq_true, IFF.out]
      intro hh
      exact absurd hh.2.2.2.1.2 (by omega))
    go_wp2_with (first
      | ((with_reducible refine wg_load 25 (.tmp 27) ?_); refine wl_part rfl 25 (.tmp 27) rfl w.heap.size 2 rfl (pcA tab) R2.out _ Try.underlying25 rfl HIN.out ?_))
    go_ret
    exact ⟨by rw [HF.out] <;> rfl, U3.out⟩
  have b5 : (len ≤ 65535) = True := by simp; omega
  by_cases h6 : 64 ≤ sec
  rotate_left
  · have b6 : ((64 : Int) ≤ sec) = False := by simp; omega
    have HF := Lib.hid (show rightU ⟨txg, stamp, tab, len, sec⟩ = false by
      rw [← Bool.not_eq_true, IFF.out]
      intro hh
      exact absurd hh.2.2.2.2.1 (by omega))
    go_wp2_with (first
      | ((with_reducible refine wg_load 25 (.tmp 27) ?_); refine wl_part rfl 25 (.tmp 27) rfl w.heap.size 2 rfl (pcA tab) R2.out _ Try.underlying25 rfl HIN.out ?_))
    go_ret
    exact ⟨by rw [HF.out] <;> rfl, U3.out⟩
  have b6 : ((64 : Int) ≤ sec) = True := by simp; omega
  by_cases h7 : sec ≤ 1024
  rotate_left
  · have b7 : (sec ≤ 1024) = False := by simp; omega
    have HF := Lib.hid (show rightU ⟨txg, stamp, tab, len, sec⟩ = false by
      rw [← Bool.not_eq_true, IFF.out]
      intro hh
      exact absurd hh.2.2.2.2.2 (by omega))
    go_wp2_with (first
      | ((with_reducible refine wg_load 25 (.tmp 27) ?_); refine wl_part rfl 25 (.tmp 27) rfl w.heap.size 2 rfl (pcA tab) R2.out _ Try.underlying25 rfl HIN.out ?_))
    go_ret
    exact ⟨by rw [HF.out] <;> rfl, U3.out⟩
  have b7 : (sec ≤ 1024) = True := by simp; omega
  have HF := Lib.hid (show rightU ⟨txg, stamp, tab, len, sec⟩ = true from IFF.out.2 ⟨⟨h0, h1⟩, ⟨h2, h3⟩, ⟨HG.out, HH.out⟩, ⟨h4, h5⟩, ⟨h6, h7⟩⟩)
  go_wp2_with (first
    | ((with_reducible refine wg_load 25 (.tmp 27) ?_); refine wl_part rfl 25 (.tmp 27) rfl w.heap.size 2 rfl (pcA tab) R2.out _ Try.underlying25 rfl HIN.out ?_))
  go_ret
  exact ⟨by rw [HF.out] <;> rfl, U3.out⟩

set_option maxRecDepth 100000 in
set_option maxHeartbeats 8000000 in
theorem urefRight_any (w : World) (u : UbD) :
    Calls Try.prog 17 #[.agg (uC u)] w fun e w' => BoolUp (rightU u) w e w' := by
  have HI := Lib.hid (info_uV u)
  have B1 := Lib.hid (Blk.new w 27 (uC u))
  have U1 := Lib.hid (up_alloc w (.cells (uC u) 27))
  have PR := Lib.hid (fun W => refRight_any W u.tab)
  have IFF := Lib.hid (rightU_iff u)
  obtain ⟨txg, stamp, tab, len, sec⟩ := u
  dsimp only at PR IFF
  have HIN := Lib.hid (info_pcU tab)
  have PV : ptrV tab = .agg (pcA tab) := rfl
  rw [PV] at PR
  clear PV
  obtain ⟨c0, c1, c2, c5, c6, R2⟩ := uC_at B1.out
  by_cases h0 : txg < 1
  · have b0 : ((txg : Int) < 1) = True := by simp; omega
    have HF := Lib.hid (show rightU ⟨txg, stamp, tab, len, sec⟩ = false by
      rw [← Bool.not_eq_true, IFF.out]
      intro hh
      exact absurd hh.1.1 (by omega))
    go_enter Try.func17, Try.ntmps17
    go_wp2_with fail
    go_ret
    exact ⟨by rw [HF.out] <;> rfl, U1.out⟩
  have b0 : ((txg : Int) < 1) = False := by simp; omega
  by_cases h1 : 281474976710655 < txg
  · have b1 : ((281474976710656 : Int) ≤ (txg : Int)) = True := by simp; omega
    have HF := Lib.hid (show rightU ⟨txg, stamp, tab, len, sec⟩ = false by
      rw [← Bool.not_eq_true, IFF.out]
      intro hh
      exact absurd hh.1.2 (by omega))
    go_enter Try.func17, Try.ntmps17
    go_wp2_with fail
    go_ret
    exact ⟨by rw [HF.out] <;> rfl, U1.out⟩
  have b1 : ((281474976710656 : Int) ≤ (txg : Int)) = False := by simp; omega
  by_cases h2 : stamp < 1
  · have b2 : ((stamp : Int) < 1) = True := by simp; omega
    have HF := Lib.hid (show rightU ⟨txg, stamp, tab, len, sec⟩ = false by
      rw [← Bool.not_eq_true, IFF.out]
      intro hh
      exact absurd hh.2.1.1 (by omega))
    go_enter Try.func17, Try.ntmps17
    go_wp2_with fail
    go_ret
    exact ⟨by rw [HF.out] <;> rfl, U1.out⟩
  have b2 : ((stamp : Int) < 1) = False := by simp; omega
  by_cases h3 : 281474976710655 < stamp
  · have b3 : ((281474976710656 : Int) ≤ (stamp : Int)) = True := by simp; omega
    have HF := Lib.hid (show rightU ⟨txg, stamp, tab, len, sec⟩ = false by
      rw [← Bool.not_eq_true, IFF.out]
      intro hh
      exact absurd hh.2.1.2 (by omega))
    go_enter Try.func17, Try.ntmps17
    go_wp2_with fail
    go_ret
    exact ⟨by rw [HF.out] <;> rfl, U1.out⟩
  have b3 : ((281474976710656 : Int) ≤ (stamp : Int)) = False := by simp; omega
  by_cases h4 : len < 1
  · have b4 : (len < 1) = True := by simp; omega
    have HF := Lib.hid (show rightU ⟨txg, stamp, tab, len, sec⟩ = false by
      rw [← Bool.not_eq_true, IFF.out]
      intro hh
      exact absurd hh.2.2.2.1.1 (by omega))
    go_enter Try.func17, Try.ntmps17
    go_wp2_with fail
    go_ret
    exact ⟨by rw [HF.out] <;> rfl, U1.out⟩
  have b4 : (len < 1) = False := by simp; omega
  by_cases h5 : 65535 < len
  · have b5 : (65535 < len) = True := by simp; omega
    have HF := Lib.hid (show rightU ⟨txg, stamp, tab, len, sec⟩ = false by
      rw [← Bool.not_eq_true, IFF.out]
      intro hh
      exact absurd hh.2.2.2.1.2 (by omega))
    go_enter Try.func17, Try.ntmps17
    go_wp2_with fail
    go_ret
    exact ⟨by rw [HF.out] <;> rfl, U1.out⟩
  have b5 : (65535 < len) = False := by simp; omega
  by_cases h6 : sec < 64
  · have b6 : (sec < 64) = True := by simp; omega
    have HF := Lib.hid (show rightU ⟨txg, stamp, tab, len, sec⟩ = false by
      rw [← Bool.not_eq_true, IFF.out]
      intro hh
      exact absurd hh.2.2.2.2.1 (by omega))
    go_enter Try.func17, Try.ntmps17
    go_wp2_with fail
    go_ret
    exact ⟨by rw [HF.out] <;> rfl, U1.out⟩
  have b6 : (sec < 64) = False := by simp; omega
  by_cases h7 : 1024 < sec
  · have b7 : (1024 < sec) = True := by simp; omega
    have HF := Lib.hid (show rightU ⟨txg, stamp, tab, len, sec⟩ = false by
      rw [← Bool.not_eq_true, IFF.out]
      intro hh
      exact absurd hh.2.2.2.2.2 (by omega))
    go_enter Try.func17, Try.ntmps17
    go_wp2_with fail
    go_ret
    exact ⟨by rw [HF.out] <;> rfl, U1.out⟩
  have b7 : (1024 < sec) = False := by simp; omega
  go_enter Try.func17, Try.ntmps17
  go_wp2_with (first
    | ((with_reducible refine wg_load 25 (.tmp 41) ?_); refine wl_part rfl 25 (.tmp 41) rfl w.heap.size 2 rfl (pcA tab) R2.out _ Try.underlying25 rfl HIN.out ?_))
  refine (PR.out _).mono ?_
  rintro e w2 ⟨rfl, U2⟩
  have B2 := Lib.hid (B1.out.up U2)
  have U3 := Lib.hid (U1.out.trans U2)
  clear c0 c1 c2 c5 c6 R2
  obtain ⟨c0, c1, c2, c5, c6, R2⟩ := uC_at B2.out
  clear U2 PR B1 U1
  cases hg : goodB tab
  · have HF := Lib.hid (show rightU ⟨txg, stamp, tab, len, sec⟩ = false by
      rw [← Bool.not_eq_true, IFF.out]
      intro hh
      have := hh.2.2.1.1
      rw [hg] at this
      cases this)
    clear hg
    go_wp2_with fail
    go_ret
    exact ⟨by rw [HF.out] <;> rfl, U3.out⟩
  have GH := Lib.hid (good_hole hg)
  have HG := Lib.hid hg
  clear hg
  obtain ⟨tl, tz⟩ : ∃ z, z = tab.loc := ⟨_, rfl⟩
  rw [← tz] at c2
  by_cases hz : 0 < tl
  · have bz : ((0 : Int) < tl) = True := by simp; omega
    have HF := Lib.hid (show rightU ⟨txg, stamp, tab, len, sec⟩ = true from IFF.out.2 ⟨⟨by omega, by omega⟩, ⟨by omega, by omega⟩, ⟨HG.out, GH.out.2 (by rw [← tz]; exact hz)⟩, ⟨by omega, by omega⟩, ⟨by omega, by omega⟩⟩)
    clear tz
    go_wp2_with fail
    go_ret
    exact ⟨by rw [HF.out] <;> rfl, U3.out⟩
  · have bz : ((0 : Int) < tl) = False := by simp; omega
    have HF := Lib.hid (show rightU ⟨txg, stamp, tab, len, sec⟩ = false by
      rw [← Bool.not_eq_true, IFF.out]
      intro hh
      have := GH.out.1 hh.2.2.1.2
      omega)
    clear tz
    go_wp2_with fail
    go_ret
    exact ⟨by rw [HF.out] <;> rfl, U3.out⟩

end Go.Proofs.Ytgmdhedabmkcoaa
