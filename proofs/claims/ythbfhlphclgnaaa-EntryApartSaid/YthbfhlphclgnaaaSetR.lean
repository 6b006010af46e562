/- Which records can be: the walks of both sides. -/
import Derived.Test.YthbfhlphclgnaaaSet
set_option linter.unusedSimpArgs false
set_option linter.unusedVariables false
namespace Go.Proofs.Ythbfhlphclgnaaa
open Go.RowKit Go.Sort

theorem SetAt.rfl' {w : World} {g : Nat} {id : Nat} {name : List UInt8} {snap : Bool} {owner prev stamp : Nat} {blocks : Int} {root : PtrD} {dead : List PtrD} {vd : Value} (h : SetAt w g ⟨id, name, snap, owner, prev, stamp, blocks, root, dead⟩ vd) :
    w.cell? ⟨g, 0, none⟩ = some (.int .u64 (id : Int)) ∧ w.cell? ⟨g, 1, none⟩ = some (.string (strOf name)) ∧ w.cell? ⟨g, 2, none⟩ = some (.bool snap) ∧ w.cell? ⟨g, 3, none⟩ = some (.int .u64 (owner : Int)) ∧
    w.cell? ⟨g, 4, none⟩ = some (.int .u64 (prev : Int)) ∧ w.cell? ⟨g, 5, none⟩ = some (.int .u64 (stamp : Int)) ∧ w.cell? ⟨g, 6, none⟩ = some (.int .i64 blocks) ∧ Hid (w.rangeAt g 7 (pcA root).toList) ∧ w.cell? ⟨g, 10, none⟩ = some vd :=
  ⟨h.c0, h.c1, h.c2, h.c3, h.c4, h.c5, h.c6, Lib.hid h.c7, h.c10⟩

set_option maxRecDepth 100000 in
set_option maxHeartbeats 8000000 in
theorem sright_any (w : World) (x : SetD) (vd : Value) (hd : IsPtrs w vd x.dead) :
    Calls Try.prog 16 #[.agg (setC x vd)] w fun e w' => BoolUp (rightS x) w e w' := by
  have hln := hd.length_le
  obtain ⟨da, dc, rfl⟩ := hd.slice
  have HI := Lib.hid (info_setV x (.slice da x.dead.length dc))
  have B1 := Lib.hid (Blk.new w 44 (setC x (.slice da x.dead.length dc)))
  have U1 := Lib.hid (up_alloc w (.cells (setC x (.slice da x.dead.length dc)) 44))
  have NR := Lib.hid (fun W => nright_any W x.name)
  have PR := Lib.hid (fun W => right_any W x.root)
  have LR := Lib.hid (fun W U => lright_any W (.slice da x.dead.length dc) x.dead (IsRow.up hd U))
  have IFF := Lib.hid (rightS_iff x)
  clear hd
  obtain ⟨id, name, snap, owner, prev, stamp, blocks, root, dead⟩ := x
  dsimp only at NR PR LR IFF hln
  have HIN := Lib.hid (info_pcA root)
  obtain ⟨c0, c1, c2, c3, c4, c5, c6, R7, c10⟩ := B1.out.setAt.rfl'
  by_cases h0 : id < 1
  · have b0 : ((id : Int) < 1) = True := by simp; omega
    have HF := Lib.hid (show rightS ⟨id, name, snap, owner, prev, stamp, blocks, root, dead⟩ = false by
      rw [← Bool.not_eq_true, IFF.out]
      intro hh
      exact absurd hh.1.1 (by omega))
    go_enter Try.func16, Try.ntmps16
    go_wp2_with fail
    go_ret
    exact ⟨by rw [HF.out] <;> rfl, U1.out⟩
  have b0 : ((id : Int) < 1) = False := by simp; omega
  by_cases h1 : 281474976710655 < id
  · have b1 : ((281474976710655 : Int) < (id : Int)) = True := by simp; omega
    have HF := Lib.hid (show rightS ⟨id, name, snap, owner, prev, stamp, blocks, root, dead⟩ = false by
      rw [← Bool.not_eq_true, IFF.out]
      intro hh
      exact absurd hh.1.2 (by omega))
    go_enter Try.func16, Try.ntmps16
    go_wp2_with fail
    go_ret
    exact ⟨by rw [HF.out] <;> rfl, U1.out⟩
  have b1 : ((281474976710655 : Int) < (id : Int)) = False := by simp; omega
  by_cases h2 : owner < 1
  · have b2 : ((owner : Int) < 1) = True := by simp; omega
    have HF := Lib.hid (show rightS ⟨id, name, snap, owner, prev, stamp, blocks, root, dead⟩ = false by
      rw [← Bool.not_eq_true, IFF.out]
      intro hh
      exact absurd hh.2.1.1 (by omega))
    go_enter Try.func16, Try.ntmps16
    go_wp2_with fail
    go_ret
    exact ⟨by rw [HF.out] <;> rfl, U1.out⟩
  have b2 : ((owner : Int) < 1) = False := by simp; omega
  by_cases h3 : 281474976710655 < owner
  · have b3 : ((281474976710655 : Int) < (owner : Int)) = True := by simp; omega
    have HF := Lib.hid (show rightS ⟨id, name, snap, owner, prev, stamp, blocks, root, dead⟩ = false by
      rw [← Bool.not_eq_true, IFF.out]
      intro hh
      exact absurd hh.2.1.2 (by omega))
    go_enter Try.func16, Try.ntmps16
    go_wp2_with fail
    go_ret
    exact ⟨by rw [HF.out] <;> rfl, U1.out⟩
  have b3 : ((281474976710655 : Int) < (owner : Int)) = False := by simp; omega
  by_cases h4 : 281474976710655 < prev
  · have b4 : ((281474976710655 : Int) < (prev : Int)) = True := by simp; omega
    have HF := Lib.hid (show rightS ⟨id, name, snap, owner, prev, stamp, blocks, root, dead⟩ = false by
      rw [← Bool.not_eq_true, IFF.out]
      intro hh
      exact absurd hh.2.2.1 (by omega))
    go_enter Try.func16, Try.ntmps16
    go_wp2_with fail
    go_ret
    exact ⟨by rw [HF.out] <;> rfl, U1.out⟩
  have b4 : ((281474976710655 : Int) < (prev : Int)) = False := by simp; omega
  by_cases h5 : blocks < 1
  · have b5 : (blocks < 1) = True := by simp; omega
    have HF := Lib.hid (show rightS ⟨id, name, snap, owner, prev, stamp, blocks, root, dead⟩ = false by
      rw [← Bool.not_eq_true, IFF.out]
      intro hh
      exact absurd hh.2.2.2.1.1 (by omega))
    go_enter Try.func16, Try.ntmps16
    go_wp2_with fail
    go_ret
    exact ⟨by rw [HF.out] <;> rfl, U1.out⟩
  have b5 : (blocks < 1) = False := by simp; omega
  by_cases h6 : 64 < blocks
  · have b6 : (64 < blocks) = True := by simp; omega
    have HF := Lib.hid (show rightS ⟨id, name, snap, owner, prev, stamp, blocks, root, dead⟩ = false by
      rw [← Bool.not_eq_true, IFF.out]
      intro hh
      exact absurd hh.2.2.2.1.2 (by omega))
    go_enter Try.func16, Try.ntmps16
    go_wp2_with fail
    go_ret
    exact ⟨by rw [HF.out] <;> rfl, U1.out⟩
  have b6 : (64 < blocks) = False := by simp; omega
  go_enter Try.func16, Try.ntmps16
  go_wp2_with fail
  refine (NR.out _).mono ?_
  rintro e w2 ⟨rfl, U2⟩
  have B2 := Lib.hid (B1.out.up U2)
  have U3 := Lib.hid (U1.out.trans U2)
  clear c0 c1 c2 c3 c4 c5 c6 R7 c10
  obtain ⟨c0, c1, c2, c3, c4, c5, c6, R7, c10⟩ := B2.out.setAt.rfl'
  clear U2 NR
  cases hnm : nameB name
  · have HF := Lib.hid (show rightS ⟨id, name, snap, owner, prev, stamp, blocks, root, dead⟩ = false by
      rw [← Bool.not_eq_true, IFF.out]
      intro hh
      rw [hnm] at hh; exact absurd hh.2.2.2.2.1 (by simp))
    go_wp2_with fail
    go_ret
    exact ⟨by rw [HF.out] <;> rfl, U3.out⟩
  have HNM := Lib.hid hnm
  clear hnm
  go_wp2_with (first
    | ((with_reducible refine wg_load 41 (.tmp 35) ?_); refine wl_part rfl 41 (.tmp 35) rfl w.heap.size 7 rfl (pcA root) R7.out _ Try.underlying41 rfl HIN.out ?_))
  refine (PR.out _).mono ?_
  rintro e w4 ⟨rfl, U4⟩
  have B4 := Lib.hid (B2.out.up U4)
  have U5 := Lib.hid (U3.out.trans U4)
  clear c0 c1 c2 c3 c4 c5 c6 R7 c10
  obtain ⟨c0, c1, c2, c3, c4, c5, c6, R7, c10⟩ := B4.out.setAt.rfl'
  clear U4 PR B2
  cases hgd : goodB root
  · have HF := Lib.hid (show rightS ⟨id, name, snap, owner, prev, stamp, blocks, root, dead⟩ = false by
      rw [← Bool.not_eq_true, IFF.out]
      intro hh
      rw [hgd] at hh; exact absurd hh.2.2.2.2.2.1 (by simp))
    go_wp2_with fail
    go_ret
    exact ⟨by rw [HF.out] <;> rfl, U5.out⟩
  have HGD := Lib.hid hgd
  clear hgd
  by_cases hdl : 4000 < dead.length
  · have bd : ((4000 : Int) < (dead.length : Int)) = True := by simp; omega
    have HF := Lib.hid (show rightS ⟨id, name, snap, owner, prev, stamp, blocks, root, dead⟩ = false by
      rw [← Bool.not_eq_true, IFF.out]
      intro hh
      exact absurd hh.2.2.2.2.2.2.1 (by omega))
    go_wp2_with fail
    go_ret
    exact ⟨by rw [HF.out] <;> rfl, U5.out⟩
  have bd : ((4000 : Int) < (dead.length : Int)) = False := by simp; omega
  go_wp2_with fail
  refine (LR.out _ U5.out).mono ?_
  rintro e w6 ⟨rfl, U6⟩
  have B6 := Lib.hid (B4.out.up U6)
  have U7 := Lib.hid (U5.out.trans U6)
  clear c0 c1 c2 c3 c4 c5 c6 R7 c10
  obtain ⟨c0, c1, c2, c3, c4, c5, c6, R7, c10⟩ := B6.out.setAt.rfl'
  clear U6 LR B4
  cases hrb : rightB dead
  · have HF := Lib.hid (show rightS ⟨id, name, snap, owner, prev, stamp, blocks, root, dead⟩ = false by
      rw [← Bool.not_eq_true, IFF.out]
      intro hh
      rw [hrb] at hh; exact absurd hh.2.2.2.2.2.2.2.1 (by simp))
    go_wp2_with fail
    go_ret
    exact ⟨by rw [HF.out] <;> rfl, U7.out⟩
  have HRB := Lib.hid hrb
  clear hrb
  have TT := Lib.hid (show (if snap = true then 1 ≤ stamp ∧ stamp ≤ 281474976710655 else stamp = 0 ∧ owner = id) → rightS ⟨id, name, snap, owner, prev, stamp, blocks, root, dead⟩ = true from fun ht => IFF.out.2 ⟨by omega, by omega, by omega, by omega, HNM.out, HGD.out, by omega, HRB.out, ht⟩)
  have FF := Lib.hid (show ¬ (if snap = true then 1 ≤ stamp ∧ stamp ≤ 281474976710655 else stamp = 0 ∧ owner = id) → rightS ⟨id, name, snap, owner, prev, stamp, blocks, root, dead⟩ = false from fun ht => by
    rw [← Bool.not_eq_true, IFF.out]
    exact fun hh => ht hh.2.2.2.2.2.2.2.2)
  cases snap
  · by_cases hz : stamp = 0
    · by_cases hoi : owner = id
      · have q1 : ((stamp : Int) == 0) = true := by simp; omega
        have q2 : ((owner : Int) == (id : Int)) = true := by simp; omega
        have HF := Lib.hid (TT.out (by simp; omega))
        go_wp2_with fail
        go_ret
        exact ⟨by rw [HF.out] <;> rfl, U7.out⟩
      · have q1 : ((stamp : Int) == 0) = true := by simp; omega
        have q2 : ((owner : Int) == (id : Int)) = false := by simp; omega
        have HF := Lib.hid (FF.out (by simp; omega))
        go_wp2_with fail
        go_ret
        exact ⟨by rw [HF.out] <;> rfl, U7.out⟩
    · have q1 : ((stamp : Int) == 0) = false := by simp; omega
      have HF := Lib.hid (FF.out (by simp; omega))
      go_wp2_with fail
      go_ret
      exact ⟨by rw [HF.out] <;> rfl, U7.out⟩
  · by_cases h1 : stamp < 1
    · have q1 : ((1 : Int) ≤ (stamp : Int)) = False := by simp; omega
      have HF := Lib.hid (FF.out (by simp; omega))
      go_wp2_with fail
      go_ret
      exact ⟨by rw [HF.out] <;> rfl, U7.out⟩
    · have q1 : ((1 : Int) ≤ (stamp : Int)) = True := by simp; omega
      by_cases h2 : 281474976710655 < stamp
      · have q2 : ((stamp : Int) ≤ 281474976710655) = False := by simp; omega
        have HF := Lib.hid (FF.out (by simp; omega))
        go_wp2_with fail
        go_ret
        exact ⟨by rw [HF.out] <;> rfl, U7.out⟩
      · have q2 : ((stamp : Int) ≤ 281474976710655) = True := by simp; omega
        have HF := Lib.hid (TT.out (by simp; omega))
        go_wp2_with fail
        go_ret
        exact ⟨by rw [HF.out] <;> rfl, U7.out⟩

def stampB (n : Nat) : Bool := decide (1 ≤ n) && decide (n ≤ 281474976710655)
theorem stampB_iff (n : Nat) : stampB n = true ↔ 1 ≤ n ∧ n ≤ 281474976710655 := by simp [stampB]
set_option maxHeartbeats 1000000 in
theorem stamp_any (w : World) (n : Nat) : Calls Try.prog 42 #[.int .u64 (n : Int)] w fun e w' => e = .returned (.bool (stampB n)) ∧ w = w' := by
  by_cases h1 : 0 < n
  · have b1 : ((0 : Int) < (n : Int)) = True := by simp; omega
    by_cases h2 : n < 281474976710656
    · have b2 : ((n : Int) < 281474976710656) = True := by simp; omega
      have HF := Lib.hid (show stampB n = true by rw [stampB_iff]; omega)
      go_enter Try.func42, Try.ntmps42
      go_wp2_with fail
      go_ret
      exact ⟨by rw [HF.out] <;> rfl, rfl⟩
    · have b2 : ((n : Int) < 281474976710656) = False := by simp; omega
      have HF := Lib.hid (show stampB n = false by rw [← Bool.not_eq_true, stampB_iff]; omega)
      go_enter Try.func42, Try.ntmps42
      go_wp2_with fail
      go_ret
      exact ⟨by rw [HF.out] <;> rfl, rfl⟩
  · have b1 : ((0 : Int) < (n : Int)) = False := by simp; omega
    have HF := Lib.hid (show stampB n = false by rw [← Bool.not_eq_true, stampB_iff]; omega)
    go_enter Try.func42, Try.ntmps42
    go_wp2_with fail
    go_ret
    exact ⟨by rw [HF.out] <;> rfl, rfl⟩

set_option maxRecDepth 100000 in
set_option maxHeartbeats 8000000 in
theorem srright_any (w : World) (x : SetD) (vd : Value) (hd : IsPtrs w vd x.dead) :
    Calls Try.prog 18 #[.agg (setC x vd)] w fun e w' => BoolUp (rightS x) w e w' := by
  have hln := hd.length_le
  obtain ⟨da, dc, rfl⟩ := hd.slice
  have HI := Lib.hid (info_setV x (.slice da x.dead.length dc))
  have B1 := Lib.hid (Blk.new w 44 (setC x (.slice da x.dead.length dc)))
  have U1 := Lib.hid (up_alloc w (.cells (setC x (.slice da x.dead.length dc)) 44))
  have NR := Lib.hid (fun W => nrefRight_any W x.name)
  have PR := Lib.hid (fun W => refRight_any W x.root)
  have LR := Lib.hid (fun W U => rright_any W (.slice da x.dead.length dc) x.dead (IsRow.up hd U))
  have IFF := Lib.hid (rightS_iff x)
  clear hd
  obtain ⟨id, name, snap, owner, prev, stamp, blocks, root, dead⟩ := x
  dsimp only at NR PR LR IFF hln
  have HIN := Lib.hid (info_pcA root)
  obtain ⟨c0, c1, c2, c3, c4, c5, c6, R7, c10⟩ := B1.out.setAt.rfl'
  go_enter Try.func18, Try.ntmps18
  go_wp2_with fail
  refine (stamp_any _ id).mono ?_
  rintro e w2 ⟨rfl, rfl⟩
  cases hs1 : stampB id
  · have HF := Lib.hid (show rightS ⟨id, name, snap, owner, prev, stamp, blocks, root, dead⟩ = false by
      rw [← Bool.not_eq_true, IFF.out]
      intro hh
      have := (stampB_iff id).2 hh.1; rw [hs1] at this; cases this)
    go_wp2_with fail
    go_ret
    exact ⟨by rw [HF.out] <;> rfl, U1.out⟩
  have HS1 := Lib.hid ((stampB_iff id).1 hs1)
  clear hs1
  go_wp2_with fail
  refine (stamp_any _ owner).mono ?_
  rintro e w2 ⟨rfl, rfl⟩
  cases hs2 : stampB owner
  · have HF := Lib.hid (show rightS ⟨id, name, snap, owner, prev, stamp, blocks, root, dead⟩ = false by
      rw [← Bool.not_eq_true, IFF.out]
      intro hh
      have := (stampB_iff owner).2 hh.2.1; rw [hs2] at this; cases this)
    go_wp2_with fail
    go_ret
    exact ⟨by rw [HF.out] <;> rfl, U1.out⟩
  have HS2 := Lib.hid ((stampB_iff owner).1 hs2)
  clear hs2
  by_cases h1 : 281474976710656 ≤ prev
  · have q : ((281474976710656 : Int) ≤ (prev : Int)) = True := by simp; omega
    have HF := Lib.hid (show rightS ⟨id, name, snap, owner, prev, stamp, blocks, root, dead⟩ = false by
      rw [← Bool.not_eq_true, IFF.out]
      intro hh
      exact absurd hh.2.2.1 (by omega))
    go_wp2_with fail
    go_ret
    exact ⟨by rw [HF.out] <;> rfl, U1.out⟩
  have q1 : ((281474976710656 : Int) ≤ (prev : Int)) = False := by simp; omega
  by_cases h2 : blocks < 1
  · have q : (blocks < 1) = True := by simp; omega
    have HF := Lib.hid (show rightS ⟨id, name, snap, owner, prev, stamp, blocks, root, dead⟩ = false by
      rw [← Bool.not_eq_true, IFF.out]
      intro hh
      exact absurd hh.2.2.2.1.1 (by omega))
    go_wp2_with fail
    go_ret
    exact ⟨by rw [HF.out] <;> rfl, U1.out⟩
  have q2 : (blocks < 1) = False := by simp; omega
  by_cases h3 : 64 < blocks
  · have q : (64 < blocks) = True := by simp; omega
    have HF := Lib.hid (show rightS ⟨id, name, snap, owner, prev, stamp, blocks, root, dead⟩ = false by
      rw [← Bool.not_eq_true, IFF.out]
      intro hh
      exact absurd hh.2.2.2.1.2 (by omega))
    go_wp2_with fail
    go_ret
    exact ⟨by rw [HF.out] <;> rfl, U1.out⟩
  have q3 : (64 < blocks) = False := by simp; omega
  by_cases h4 : 4000 < dead.length
  · have q : ((4000 : Int) < (dead.length : Int)) = True := by simp; omega
    have HF := Lib.hid (show rightS ⟨id, name, snap, owner, prev, stamp, blocks, root, dead⟩ = false by
      rw [← Bool.not_eq_true, IFF.out]
      intro hh
      exact absurd hh.2.2.2.2.2.2.1 (by omega))
    go_wp2_with fail
    go_ret
    exact ⟨by rw [HF.out] <;> rfl, U1.out⟩
  have q4 : ((4000 : Int) < (dead.length : Int)) = False := by simp; omega
  go_wp2_with fail
  refine (NR.out _).mono ?_
  rintro e w2 ⟨rfl, rfl⟩
  cases hnm : nameB name
  · have HF := Lib.hid (show rightS ⟨id, name, snap, owner, prev, stamp, blocks, root, dead⟩ = false by
      rw [← Bool.not_eq_true, IFF.out]
      intro hh
      rw [hnm] at hh; exact absurd hh.2.2.2.2.1 (by simp))
    go_wp2_with fail
    go_ret
    exact ⟨by rw [HF.out] <;> rfl, U1.out⟩
  have HNM := Lib.hid hnm
  clear hnm NR
  go_wp2_with (first
    | ((with_reducible refine wg_load 41 (.tmp 39) ?_); refine wl_part rfl 41 (.tmp 39) rfl w.heap.size 7 rfl (pcA root) R7.out _ Try.underlying41 rfl HIN.out ?_))
  refine (PR.out _).mono ?_
  rintro e w4 ⟨rfl, U4⟩
  have B4 := Lib.hid (B1.out.up U4)
  have U5 := Lib.hid (U1.out.trans U4)
  clear c0 c1 c2 c3 c4 c5 c6 R7 c10
  obtain ⟨c0, c1, c2, c3, c4, c5, c6, R7, c10⟩ := B4.out.setAt.rfl'
  clear U4 PR
  cases hgd : goodB root
  · have HF := Lib.hid (show rightS ⟨id, name, snap, owner, prev, stamp, blocks, root, dead⟩ = false by
      rw [← Bool.not_eq_true, IFF.out]
      intro hh
      rw [hgd] at hh; exact absurd hh.2.2.2.2.2.1 (by simp))
    go_wp2_with fail
    go_ret
    exact ⟨by rw [HF.out] <;> rfl, U5.out⟩
  have HGD := Lib.hid hgd
  clear hgd
  go_wp2_with fail
  refine (LR.out _ U5.out).mono ?_
  rintro e w6 ⟨rfl, U6⟩
  have B6 := Lib.hid (B4.out.up U6)
  have U7 := Lib.hid (U5.out.trans U6)
  clear c0 c1 c2 c3 c4 c5 c6 R7 c10
  obtain ⟨c0, c1, c2, c3, c4, c5, c6, R7, c10⟩ := B6.out.setAt.rfl'
  clear U6 LR B4
  cases hrb : rightB dead
  · have HF := Lib.hid (show rightS ⟨id, name, snap, owner, prev, stamp, blocks, root, dead⟩ = false by
      rw [← Bool.not_eq_true, IFF.out]
      intro hh
      rw [hrb] at hh; exact absurd hh.2.2.2.2.2.2.2.1 (by simp))
    go_wp2_with fail
    go_ret
    exact ⟨by rw [HF.out] <;> rfl, U7.out⟩
  have HRB := Lib.hid hrb
  clear hrb
  have TT := Lib.hid (show (if snap = true then 1 ≤ stamp ∧ stamp ≤ 281474976710655 else stamp = 0 ∧ owner = id) → rightS ⟨id, name, snap, owner, prev, stamp, blocks, root, dead⟩ = true from fun ht => IFF.out.2 ⟨HS1.out, HS2.out, by omega, by omega, HNM.out, HGD.out, by omega, HRB.out, ht⟩)
  have FF := Lib.hid (show ¬ (if snap = true then 1 ≤ stamp ∧ stamp ≤ 281474976710655 else stamp = 0 ∧ owner = id) → rightS ⟨id, name, snap, owner, prev, stamp, blocks, root, dead⟩ = false from fun ht => by
    rw [← Bool.not_eq_true, IFF.out]
    exact fun hh => ht hh.2.2.2.2.2.2.2.2)
  cases snap
  · by_cases hz : stamp = 0
    · by_cases hoi : owner = id
      · have q1 : ((stamp : Int) == 0) = true := by simp; omega
        have q2 : ((owner : Int) == (id : Int)) = true := by simp; omega
        have HF := Lib.hid (TT.out (by simp; omega))
        go_wp2_with fail
        go_ret
        exact ⟨by rw [HF.out] <;> rfl, U7.out⟩
      · have q1 : ((stamp : Int) == 0) = true := by simp; omega
        have q2 : ((owner : Int) == (id : Int)) = false := by simp; omega
        have HF := Lib.hid (FF.out (by simp; omega))
        go_wp2_with fail
        go_ret
        exact ⟨by rw [HF.out] <;> rfl, U7.out⟩
    · have q1 : ((stamp : Int) == 0) = false := by simp; omega
      have HF := Lib.hid (FF.out (by simp; omega))
      go_wp2_with fail
      go_ret
      exact ⟨by rw [HF.out] <;> rfl, U7.out⟩
  · go_wp2_with fail
    refine (stamp_any _ stamp).mono ?_
    rintro e w8 ⟨rfl, rfl⟩
    cases hst : stampB stamp
    · have HF := Lib.hid (FF.out (by simp only [if_true]; rw [← stampB_iff, hst]; simp))
      go_wp2_with fail
      go_ret
      exact ⟨by rw [HF.out] <;> rfl, U7.out⟩
    · have HF := Lib.hid (TT.out (by simp only [if_true]; rw [← stampB_iff]; exact hst))
      go_wp2_with fail
      go_ret
      exact ⟨by rw [HF.out] <;> rfl, U7.out⟩
end Go.Proofs.Ythbfhlphclgnaaa
