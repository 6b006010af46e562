/- Whether two records are the same: the walks of both sides. -/
import Derived.Test.YthbfhlphclgnaaaSetR
set_option linter.unusedSimpArgs false
set_option linter.unusedVariables false
namespace Go.Proofs.Ythbfhlphclgnaaa
open Go.RowKit Go.Sort

theorem sz_alloc (w : World) (o : Obj) : (w.alloc o).heap.size = w.heap.size + 1 := by unfold World.alloc; simp
theorem str_test (a b : List UInt8) : ((strOf a).toList == (strOf b).toList) = decide (a = b) := by
  rw [ByteArray.toList_eq, ByteArray.toList_eq, strOf_data, strOf_data, Bool.eq_iff_iff]
  simp
/-- Whether two records are the same. -/
def sameB (x y : SetD) : Bool := decide (x = y)
set_option maxHeartbeats 4000000 in
theorem eqptrs_any (w : World) (v v2 : Value) (l m : List PtrD) (hv : IsPtrs w v l) (hv2 : IsPtrs w v2 m) :
    Calls Try.prog 46 #[v, v2] w fun e w' => BoolUp (decide (l = m)) w e w' := by
  have hlen := hv.length_le
  have hlen2 := hv2.length_le
  obtain ⟨a, cap, rfl⟩ := hv.slice
  obtain ⟨a2, cap2, rfl⟩ := hv2.slice
  by_cases hl : l.length = m.length
  case neg =>
    have ht : ((l.length : Int) != (m.length : Int)) = true := by simp; omega
    have hb : decide (l = m) = false := by simp; rintro rfl; exact hl rfl
    have HB := Lib.hid hb
    clear hb hl
    go_enter Try.func46, Try.ntmps46
    go_wp2_with fail
    go_ret
    exact ⟨by rw [HB.out] <;> rfl, Up.refl _⟩
  obtain ⟨n, hn⟩ : ∃ n, n = l.length := ⟨_, rfl⟩
  have hn2 : m.length = n := by omega
  have ht : ((n : Int) != (n : Int)) = false := by simp
  rw [← hn] at hv hlen ⊢
  rw [hn2] at hv2 ⊢
  have HL := Lib.hid hn
  have HM := Lib.hid hn2
  clear hn hn2 hl
  have HV := Lib.hid hv
  have HV2 := Lib.hid hv2
  clear hv hv2
  go_enter Try.func46, Try.ntmps46
  go_wp2_with fail
  clear ht
  go_loopw [13] (fun i wr => ∃ k : Nat, k ≤ n ∧ i = .int .i64 k ∧ l.take k = m.take k ∧ Up w wr) (fun i _ => n - (intOf i).toNat)
  case atStart => exact ⟨0, Nat.zero_le _, rfl, by simp, Up.refl _⟩
  case round =>
    obtain ⟨k, hk, rfl, heq, upr⟩ := hrel
    by_cases hlt : k < n
    · have k1 : k < l.length := by have := HL.out; omega
      have k2 : k < m.length := by have := HM.out; omega
      obtain ⟨b, off, rfl, hbs, hnc, hc⟩ := ptrs_at (IsRow.up HV.out upr) (by omega)
      obtain ⟨b', off', rfl, hbs', hnc', hc'⟩ := ptrs_at (IsRow.up HV2.out upr) (by omega)
      have c0 := (hc k k1).1
      have c1 := (hc k k1).2.1
      have c2 := (hc k k1).2.2
      have d0 := (hc' k k2).1
      have d1 := (hc' k k2).2.1
      have d2 := (hc' k k2).2.2
      have b2 : ((k : Int) < (n : Int)) = True := by simp; omega
      have NE := fun W => ptr_eq l[k].loc m[k].loc l[k].birth l[k].sum m[k].birth m[k].sum W
      have HST := Lib.hid (fun h => take_eq_step k1 k2 heq h)
      have HNE : l[k] ≠ m[k] → decide (l = m) = false := fun h => by
        simp only [decide_eq_false_iff_not]
        rintro rfl
        exact h rfl
      have HNE' := Lib.hid HNE
      have hp1 : (⟨l[k].loc, l[k].birth, l[k].sum⟩ : PtrD) = l[k] := rfl
      have hp2 : (⟨m[k].loc, m[k].birth, m[k].sum⟩ : PtrD) = m[k] := rfl
      rw [hp1, hp2] at NE
      clear HNE hp1 hp2 hc hc' heq
      by_cases hpq : l[k] = m[k]
      · have HEQ := Lib.hid (HST.out hpq)
        have hd : decide (l[k] = m[k]) = true := by simpa using hpq
        rw [hd] at NE
        clear hd hpq HST HNE'
        generalize l[k] = p at *
        generalize m[k] = q at *
        obtain ⟨pl, pb, ps⟩ := p
        obtain ⟨ql, qb, qs⟩ := q
        simp only at c0 c1 c2 d0 d1 d2 NE
        go_wp2_with fail
        go_quiet (fail)
        go_wp2_with fail
        go_roundw
        case rel => exact ⟨k + 1, by omega, by simp, HEQ.out, upr.drewN _⟩
        case measure => simp [intOf]; omega
      · have hd : decide (l[k] = m[k]) = false := by simpa using hpq
        have HF := Lib.hid (HNE'.out hpq)
        rw [hd] at NE
        clear hd hpq HST HNE'
        generalize l[k] = p at *
        generalize m[k] = q at *
        obtain ⟨pl, pb, ps⟩ := p
        obtain ⟨ql, qb, qs⟩ := q
        simp only at c0 c1 c2 d0 d1 d2 NE
        go_wp2_with fail
        go_quiet (fail)
        go_wp2_with fail
        go_ret
        exact ⟨by rw [HF.out] <;> rfl, upr.drewN _⟩
    · obtain rfl : k = n := by omega
      have hb : decide (l = m) = true := by
        have h1 : l.take k = l := List.take_of_length_le (by have := HL.out; omega)
        have h2 : m.take k = m := List.take_of_length_le (by have := HM.out; omega)
        rw [h1, h2] at heq
        simpa using heq
      have HB := Lib.hid hb
      clear hb heq
      go_wp2_with fail
      go_ret
      exact ⟨by rw [HB.out] <;> rfl, upr⟩


set_option maxRecDepth 100000 in
set_option maxHeartbeats 8000000 in
theorem ssame_any (w : World) (x y : SetD) (vx vy : Value) (hx : IsPtrs w vx x.dead) (hy : IsPtrs w vy y.dead) :
    Calls Try.prog 19 #[.agg (setC x vx), .agg (setC y vy)] w fun e w' => BoolUp (sameB x y) w e w' := by
  obtain ⟨da, dc, rfl⟩ := hx.slice
  obtain ⟨da2, dc2, rfl⟩ := hy.slice
  have HI1 := Lib.hid (info_setV x (.slice da x.dead.length dc))
  have HI2 := Lib.hid (info_setV y (.slice da2 y.dead.length dc2))
  have upa := up_alloc (w.alloc (.cells (setC x (.slice da x.dead.length dc)) 44)) (.cells (setC y (.slice da2 y.dead.length dc2)) 44)
  have sza : (w.alloc (.cells (setC x (.slice da x.dead.length dc)) 44)).heap.size = w.heap.size + 1 := sz_alloc _ _
  have B1 := Lib.hid ((Blk.new w 44 (setC x (.slice da x.dead.length dc))).up upa)
  have b2 := Blk.new (w.alloc (.cells (setC x (.slice da x.dead.length dc)) 44)) 44 (setC y (.slice da2 y.dead.length dc2))
  rw [sza] at b2
  have B2 := Lib.hid b2
  have U1 := Lib.hid ((up_alloc w (.cells (setC x (.slice da x.dead.length dc)) 44)).trans upa)
  have DR := Lib.hid (fun W U => eqptrs_any W (.slice da x.dead.length dc) (.slice da2 y.dead.length dc2) x.dead y.dead (IsRow.up hx U) (IsRow.up hy U))
  clear hx hy b2 sza upa
  obtain ⟨id, name, snap, owner, prev, stamp, blocks, root, dead⟩ := x
  obtain ⟨id2, name2, snap2, owner2, prev2, stamp2, blocks2, root2, dead2⟩ := y
  dsimp only at DR
  have EQ : ∀ W, (Op.equalIn 10000 41 (.agg (pcA root)) (.agg (pcA root2))).run Try.prog W = .ok (decide (root = root2)) W := fun W => ptr_eqD 9998 root root2 W
  have HIN := Lib.hid (info_pcA root)
  have HIN2 := Lib.hid (info_pcA root2)
  obtain ⟨c0, c1, c2, c3, c4, c5, c6, C7, c10⟩ := B1.out.setAt.rfl'
  obtain ⟨d0, d1, d2, d3, d4, d5, d6, D7, d10⟩ := B2.out.setAt.rfl'
  have NO := Lib.hid (show ¬ (id = id2 ∧ name = name2 ∧ snap = snap2 ∧ owner = owner2 ∧ prev = prev2 ∧ stamp = stamp2 ∧ blocks = blocks2 ∧ root = root2 ∧ dead = dead2) → sameB ⟨id, name, snap, owner, prev, stamp, blocks, root, dead⟩ ⟨id2, name2, snap2, owner2, prev2, stamp2, blocks2, root2, dead2⟩ = false from fun h => by
    unfold sameB
    rw [decide_eq_false_iff_not]
    intro hh
    simp only [SetD.mk.injEq] at hh
    exact h hh)
  by_cases hq : id = id2
  rotate_left
  · have HF := Lib.hid (NO.out (fun h => hq (h.1)))
    have t0 : ((id : Int) == (id2 : Int)) = false := by simp; omega
    go_enter Try.func19, Try.ntmps19
    go_wp2_with (first
      | ((with_reducible refine wg_load 41 (.tmp 53) ?_); refine wl_part rfl 41 (.tmp 53) rfl w.heap.size 7 rfl (pcA root) C7.out _ Try.underlying41 rfl HIN.out ?_)
      | ((with_reducible refine wg_load 41 (.tmp 55) ?_); refine wl_part rfl 41 (.tmp 55) rfl (w.heap.size + 1) 7 rfl (pcA root2) D7.out _ Try.underlying41 rfl HIN2.out ?_))
    go_ret
    exact ⟨by rw [HF.out] <;> rfl, U1.out⟩
  have t0 : ((id : Int) == (id2 : Int)) = true := by rw [hq]; simp
  have q0 := Lib.hid hq
  clear hq
  by_cases hq : name = name2
  rotate_left
  · have HF := Lib.hid (NO.out (fun h => hq (h.2.1)))
    have t1 : ((strOf name).toList == (strOf name2).toList) = false := by first | (rw [str_test]; exact decide_eq_false hq) | (rw [bne, str_test, decide_eq_false hq]; rfl)
    go_enter Try.func19, Try.ntmps19
    go_wp2_with (first
      | ((with_reducible refine wg_load 41 (.tmp 53) ?_); refine wl_part rfl 41 (.tmp 53) rfl w.heap.size 7 rfl (pcA root) C7.out _ Try.underlying41 rfl HIN.out ?_)
      | ((with_reducible refine wg_load 41 (.tmp 55) ?_); refine wl_part rfl 41 (.tmp 55) rfl (w.heap.size + 1) 7 rfl (pcA root2) D7.out _ Try.underlying41 rfl HIN2.out ?_))
    go_ret
    exact ⟨by rw [HF.out] <;> rfl, U1.out⟩
  have t1 : ((strOf name).toList == (strOf name2).toList) = true := by rw [hq]; simp
  have q1 := Lib.hid hq
  clear hq
  by_cases hq : snap = snap2
  rotate_left
  · have HF := Lib.hid (NO.out (fun h => hq (h.2.2.1)))
    have t2 : (snap == snap2) = false := by simp [hq]
    go_enter Try.func19, Try.ntmps19
    go_wp2_with (first
      | ((with_reducible refine wg_load 41 (.tmp 53) ?_); refine wl_part rfl 41 (.tmp 53) rfl w.heap.size 7 rfl (pcA root) C7.out _ Try.underlying41 rfl HIN.out ?_)
      | ((with_reducible refine wg_load 41 (.tmp 55) ?_); refine wl_part rfl 41 (.tmp 55) rfl (w.heap.size + 1) 7 rfl (pcA root2) D7.out _ Try.underlying41 rfl HIN2.out ?_))
    go_ret
    exact ⟨by rw [HF.out] <;> rfl, U1.out⟩
  have t2 : (snap == snap2) = true := by rw [hq]; simp
  have q2 := Lib.hid hq
  clear hq
  by_cases hq : owner = owner2
  rotate_left
  · have HF := Lib.hid (NO.out (fun h => hq (h.2.2.2.1)))
    have t3 : ((owner : Int) == (owner2 : Int)) = false := by simp; omega
    go_enter Try.func19, Try.ntmps19
    go_wp2_with (first
      | ((with_reducible refine wg_load 41 (.tmp 53) ?_); refine wl_part rfl 41 (.tmp 53) rfl w.heap.size 7 rfl (pcA root) C7.out _ Try.underlying41 rfl HIN.out ?_)
      | ((with_reducible refine wg_load 41 (.tmp 55) ?_); refine wl_part rfl 41 (.tmp 55) rfl (w.heap.size + 1) 7 rfl (pcA root2) D7.out _ Try.underlying41 rfl HIN2.out ?_))
    go_ret
    exact ⟨by rw [HF.out] <;> rfl, U1.out⟩
  have t3 : ((owner : Int) == (owner2 : Int)) = true := by rw [hq]; simp
  have q3 := Lib.hid hq
  clear hq
  by_cases hq : prev = prev2
  rotate_left
  · have HF := Lib.hid (NO.out (fun h => hq (h.2.2.2.2.1)))
    have t4 : ((prev : Int) == (prev2 : Int)) = false := by simp; omega
    go_enter Try.func19, Try.ntmps19
    go_wp2_with (first
      | ((with_reducible refine wg_load 41 (.tmp 53) ?_); refine wl_part rfl 41 (.tmp 53) rfl w.heap.size 7 rfl (pcA root) C7.out _ Try.underlying41 rfl HIN.out ?_)
      | ((with_reducible refine wg_load 41 (.tmp 55) ?_); refine wl_part rfl 41 (.tmp 55) rfl (w.heap.size + 1) 7 rfl (pcA root2) D7.out _ Try.underlying41 rfl HIN2.out ?_))
    go_ret
    exact ⟨by rw [HF.out] <;> rfl, U1.out⟩
  have t4 : ((prev : Int) == (prev2 : Int)) = true := by rw [hq]; simp
  have q4 := Lib.hid hq
  clear hq
  by_cases hq : stamp = stamp2
  rotate_left
  · have HF := Lib.hid (NO.out (fun h => hq (h.2.2.2.2.2.1)))
    have t5 : ((stamp : Int) == (stamp2 : Int)) = false := by simp; omega
    go_enter Try.func19, Try.ntmps19
    go_wp2_with (first
      | ((with_reducible refine wg_load 41 (.tmp 53) ?_); refine wl_part rfl 41 (.tmp 53) rfl w.heap.size 7 rfl (pcA root) C7.out _ Try.underlying41 rfl HIN.out ?_)
      | ((with_reducible refine wg_load 41 (.tmp 55) ?_); refine wl_part rfl 41 (.tmp 55) rfl (w.heap.size + 1) 7 rfl (pcA root2) D7.out _ Try.underlying41 rfl HIN2.out ?_))
    go_ret
    exact ⟨by rw [HF.out] <;> rfl, U1.out⟩
  have t5 : ((stamp : Int) == (stamp2 : Int)) = true := by rw [hq]; simp
  have q5 := Lib.hid hq
  clear hq
  by_cases hq : blocks = blocks2
  rotate_left
  · have HF := Lib.hid (NO.out (fun h => hq (h.2.2.2.2.2.2.1)))
    have t6 : (blocks == blocks2) = false := by simp [hq]
    go_enter Try.func19, Try.ntmps19
    go_wp2_with (first
      | ((with_reducible refine wg_load 41 (.tmp 53) ?_); refine wl_part rfl 41 (.tmp 53) rfl w.heap.size 7 rfl (pcA root) C7.out _ Try.underlying41 rfl HIN.out ?_)
      | ((with_reducible refine wg_load 41 (.tmp 55) ?_); refine wl_part rfl 41 (.tmp 55) rfl (w.heap.size + 1) 7 rfl (pcA root2) D7.out _ Try.underlying41 rfl HIN2.out ?_))
    go_ret
    exact ⟨by rw [HF.out] <;> rfl, U1.out⟩
  have t6 : (blocks == blocks2) = true := by rw [hq]; simp
  have q6 := Lib.hid hq
  clear hq
  by_cases hq : root = root2
  rotate_left
  · have HF := Lib.hid (NO.out (fun h => hq (h.2.2.2.2.2.2.2.1)))
    rw [decide_eq_false hq] at EQ
    go_enter Try.func19, Try.ntmps19
    go_wp2_with (first
      | ((with_reducible refine wg_load 41 (.tmp 53) ?_); refine wl_part rfl 41 (.tmp 53) rfl w.heap.size 7 rfl (pcA root) C7.out _ Try.underlying41 rfl HIN.out ?_)
      | ((with_reducible refine wg_load 41 (.tmp 55) ?_); refine wl_part rfl 41 (.tmp 55) rfl (w.heap.size + 1) 7 rfl (pcA root2) D7.out _ Try.underlying41 rfl HIN2.out ?_))
    go_ret
    exact ⟨by rw [HF.out] <;> rfl, U1.out⟩
  rw [decide_eq_true hq] at EQ
  have q7 := Lib.hid hq
  clear hq
  go_enter Try.func19, Try.ntmps19
  go_wp2_with (first
    | ((with_reducible refine wg_load 41 (.tmp 53) ?_); refine wl_part rfl 41 (.tmp 53) rfl w.heap.size 7 rfl (pcA root) C7.out _ Try.underlying41 rfl HIN.out ?_)
    | ((with_reducible refine wg_load 41 (.tmp 55) ?_); refine wl_part rfl 41 (.tmp 55) rfl (w.heap.size + 1) 7 rfl (pcA root2) D7.out _ Try.underlying41 rfl HIN2.out ?_))
  refine (DR.out _ U1.out).mono ?_
  rintro e w2 ⟨rfl, U2⟩
  by_cases hq : dead = dead2
  · rw [decide_eq_true hq]
    have HT := Lib.hid (show sameB ⟨id, name, snap, owner, prev, stamp, blocks, root, dead⟩ ⟨id2, name2, snap2, owner2, prev2, stamp2, blocks2, root2, dead2⟩ = true by
      unfold sameB
      rw [decide_eq_true_iff]
      simp only [SetD.mk.injEq]
      exact ⟨q0.out, q1.out, q2.out, q3.out, q4.out, q5.out, q6.out, q7.out, hq⟩)
    clear hq NO
    go_wp2_with fail
    go_ret
    exact ⟨by rw [HT.out] <;> rfl, U1.out.trans U2⟩
  · rw [decide_eq_false hq]
    have HF := Lib.hid (NO.out (fun h => hq (h.2.2.2.2.2.2.2.2)))
    clear hq NO
    go_wp2_with fail
    go_ret
    exact ⟨by rw [HF.out] <;> rfl, U1.out.trans U2⟩

set_option maxRecDepth 100000 in
set_option maxHeartbeats 8000000 in
theorem srsame_any (w : World) (x y : SetD) (vx vy : Value) (hx : IsPtrs w vx x.dead) (hy : IsPtrs w vy y.dead) :
    Calls Try.prog 20 #[.agg (setC x vx), .agg (setC y vy)] w fun e w' => BoolUp (sameB x y) w e w' := by
  obtain ⟨da, dc, rfl⟩ := hx.slice
  obtain ⟨da2, dc2, rfl⟩ := hy.slice
  have HI1 := Lib.hid (info_setV x (.slice da x.dead.length dc))
  have HI2 := Lib.hid (info_setV y (.slice da2 y.dead.length dc2))
  have upa := up_alloc (w.alloc (.cells (setC x (.slice da x.dead.length dc)) 44)) (.cells (setC y (.slice da2 y.dead.length dc2)) 44)
  have sza : (w.alloc (.cells (setC x (.slice da x.dead.length dc)) 44)).heap.size = w.heap.size + 1 := sz_alloc _ _
  have B1 := Lib.hid ((Blk.new w 44 (setC x (.slice da x.dead.length dc))).up upa)
  have b2 := Blk.new (w.alloc (.cells (setC x (.slice da x.dead.length dc)) 44)) 44 (setC y (.slice da2 y.dead.length dc2))
  rw [sza] at b2
  have B2 := Lib.hid b2
  have U1 := Lib.hid ((up_alloc w (.cells (setC x (.slice da x.dead.length dc)) 44)).trans upa)
  have DR := Lib.hid (fun W U => same_any W (.slice da x.dead.length dc) (.slice da2 y.dead.length dc2) x.dead y.dead (IsRow.up hx U) (IsRow.up hy U))
  clear hx hy b2 sza upa
  obtain ⟨id, name, snap, owner, prev, stamp, blocks, root, dead⟩ := x
  obtain ⟨id2, name2, snap2, owner2, prev2, stamp2, blocks2, root2, dead2⟩ := y
  dsimp only at DR
  have EQ : ∀ W, (Op.equalIn 10000 41 (.agg (pcA root)) (.agg (pcA root2))).run Try.prog W = .ok (decide (root = root2)) W := fun W => ptr_eqD 9998 root root2 W
  have HIN := Lib.hid (info_pcA root)
  have HIN2 := Lib.hid (info_pcA root2)
  obtain ⟨c0, c1, c2, c3, c4, c5, c6, C7, c10⟩ := B1.out.setAt.rfl'
  obtain ⟨d0, d1, d2, d3, d4, d5, d6, D7, d10⟩ := B2.out.setAt.rfl'
  have NO := Lib.hid (show ¬ (id = id2 ∧ name = name2 ∧ snap = snap2 ∧ owner = owner2 ∧ prev = prev2 ∧ stamp = stamp2 ∧ blocks = blocks2 ∧ root = root2 ∧ dead = dead2) → sameB ⟨id, name, snap, owner, prev, stamp, blocks, root, dead⟩ ⟨id2, name2, snap2, owner2, prev2, stamp2, blocks2, root2, dead2⟩ = false from fun h => by
    unfold sameB
    rw [decide_eq_false_iff_not]
    intro hh
    simp only [SetD.mk.injEq] at hh
    exact h hh)
  by_cases hq : id = id2
  rotate_left
  · have HF := Lib.hid (NO.out (fun h => hq (h.1)))
    have t0 : ((id : Int) != (id2 : Int)) = true := by simp; omega
    have u0 : ((id : Int) == (id2 : Int)) = false := by simp; omega
    go_enter Try.func20, Try.ntmps20
    go_wp2_with (first
      | ((with_reducible refine wg_load 41 (.tmp 51) ?_); refine wl_part rfl 41 (.tmp 51) rfl w.heap.size 7 rfl (pcA root) C7.out _ Try.underlying41 rfl HIN.out ?_)
      | ((with_reducible refine wg_load 41 (.tmp 53) ?_); refine wl_part rfl 41 (.tmp 53) rfl (w.heap.size + 1) 7 rfl (pcA root2) D7.out _ Try.underlying41 rfl HIN2.out ?_))
    go_ret
    exact ⟨by rw [HF.out] <;> rfl, U1.out⟩
  have t0 : ((id : Int) != (id2 : Int)) = false := by rw [hq]; simp
  have u0 : ((id : Int) == (id2 : Int)) = true := by rw [hq]; simp
  have q0 := Lib.hid hq
  clear hq
  by_cases hq : name = name2
  rotate_left
  · have HF := Lib.hid (NO.out (fun h => hq (h.2.1)))
    have t1 : ((strOf name).toList != (strOf name2).toList) = true := by first | (rw [str_test]; exact decide_eq_false hq) | (rw [bne, str_test, decide_eq_false hq]; rfl)
    have u1 : ((strOf name).toList == (strOf name2).toList) = false := by first | (rw [str_test]; exact decide_eq_false hq) | (rw [bne, str_test, decide_eq_false hq]; rfl)
    go_enter Try.func20, Try.ntmps20
    go_wp2_with (first
      | ((with_reducible refine wg_load 41 (.tmp 51) ?_); refine wl_part rfl 41 (.tmp 51) rfl w.heap.size 7 rfl (pcA root) C7.out _ Try.underlying41 rfl HIN.out ?_)
      | ((with_reducible refine wg_load 41 (.tmp 53) ?_); refine wl_part rfl 41 (.tmp 53) rfl (w.heap.size + 1) 7 rfl (pcA root2) D7.out _ Try.underlying41 rfl HIN2.out ?_))
    go_ret
    exact ⟨by rw [HF.out] <;> rfl, U1.out⟩
  have t1 : ((strOf name).toList != (strOf name2).toList) = false := by rw [hq]; simp
  have u1 : ((strOf name).toList == (strOf name2).toList) = true := by rw [hq]; simp
  have q1 := Lib.hid hq
  clear hq
  by_cases hq : snap = snap2
  rotate_left
  · have HF := Lib.hid (NO.out (fun h => hq (h.2.2.1)))
    have t2 : (snap != snap2) = true := by simp [hq]
    have u2 : (snap == snap2) = false := by simp [hq]
    go_enter Try.func20, Try.ntmps20
    go_wp2_with (first
      | ((with_reducible refine wg_load 41 (.tmp 51) ?_); refine wl_part rfl 41 (.tmp 51) rfl w.heap.size 7 rfl (pcA root) C7.out _ Try.underlying41 rfl HIN.out ?_)
      | ((with_reducible refine wg_load 41 (.tmp 53) ?_); refine wl_part rfl 41 (.tmp 53) rfl (w.heap.size + 1) 7 rfl (pcA root2) D7.out _ Try.underlying41 rfl HIN2.out ?_))
    go_ret
    exact ⟨by rw [HF.out] <;> rfl, U1.out⟩
  have t2 : (snap != snap2) = false := by rw [hq]; simp
  have u2 : (snap == snap2) = true := by rw [hq]; simp
  have q2 := Lib.hid hq
  clear hq
  by_cases hq : owner = owner2
  rotate_left
  · have HF := Lib.hid (NO.out (fun h => hq (h.2.2.2.1)))
    have t3 : ((owner : Int) != (owner2 : Int)) = true := by simp; omega
    have u3 : ((owner : Int) == (owner2 : Int)) = false := by simp; omega
    go_enter Try.func20, Try.ntmps20
    go_wp2_with (first
      | ((with_reducible refine wg_load 41 (.tmp 51) ?_); refine wl_part rfl 41 (.tmp 51) rfl w.heap.size 7 rfl (pcA root) C7.out _ Try.underlying41 rfl HIN.out ?_)
      | ((with_reducible refine wg_load 41 (.tmp 53) ?_); refine wl_part rfl 41 (.tmp 53) rfl (w.heap.size + 1) 7 rfl (pcA root2) D7.out _ Try.underlying41 rfl HIN2.out ?_))
    go_ret
    exact ⟨by rw [HF.out] <;> rfl, U1.out⟩
  have t3 : ((owner : Int) != (owner2 : Int)) = false := by rw [hq]; simp
  have u3 : ((owner : Int) == (owner2 : Int)) = true := by rw [hq]; simp
  have q3 := Lib.hid hq
  clear hq
  by_cases hq : prev = prev2
  rotate_left
  · have HF := Lib.hid (NO.out (fun h => hq (h.2.2.2.2.1)))
    have t4 : ((prev : Int) != (prev2 : Int)) = true := by simp; omega
    have u4 : ((prev : Int) == (prev2 : Int)) = false := by simp; omega
    go_enter Try.func20, Try.ntmps20
    go_wp2_with (first
      | ((with_reducible refine wg_load 41 (.tmp 51) ?_); refine wl_part rfl 41 (.tmp 51) rfl w.heap.size 7 rfl (pcA root) C7.out _ Try.underlying41 rfl HIN.out ?_)
      | ((with_reducible refine wg_load 41 (.tmp 53) ?_); refine wl_part rfl 41 (.tmp 53) rfl (w.heap.size + 1) 7 rfl (pcA root2) D7.out _ Try.underlying41 rfl HIN2.out ?_))
    go_ret
    exact ⟨by rw [HF.out] <;> rfl, U1.out⟩
  have t4 : ((prev : Int) != (prev2 : Int)) = false := by rw [hq]; simp
  have u4 : ((prev : Int) == (prev2 : Int)) = true := by rw [hq]; simp
  have q4 := Lib.hid hq
  clear hq
  by_cases hq : stamp = stamp2
  rotate_left
  · have HF := Lib.hid (NO.out (fun h => hq (h.2.2.2.2.2.1)))
    have t5 : ((stamp : Int) == (stamp2 : Int)) = false := by simp; omega
    go_enter Try.func20, Try.ntmps20
    go_wp2_with (first
      | ((with_reducible refine wg_load 41 (.tmp 51) ?_); refine wl_part rfl 41 (.tmp 51) rfl w.heap.size 7 rfl (pcA root) C7.out _ Try.underlying41 rfl HIN.out ?_)
      | ((with_reducible refine wg_load 41 (.tmp 53) ?_); refine wl_part rfl 41 (.tmp 53) rfl (w.heap.size + 1) 7 rfl (pcA root2) D7.out _ Try.underlying41 rfl HIN2.out ?_))
    go_ret
    exact ⟨by rw [HF.out] <;> rfl, U1.out⟩
  have t5 : ((stamp : Int) == (stamp2 : Int)) = true := by rw [hq]; simp
  have q5 := Lib.hid hq
  clear hq
  by_cases hq : blocks = blocks2
  rotate_left
  · have HF := Lib.hid (NO.out (fun h => hq (h.2.2.2.2.2.2.1)))
    have t6 : (blocks == blocks2) = false := by simp [hq]
    go_enter Try.func20, Try.ntmps20
    go_wp2_with (first
      | ((with_reducible refine wg_load 41 (.tmp 51) ?_); refine wl_part rfl 41 (.tmp 51) rfl w.heap.size 7 rfl (pcA root) C7.out _ Try.underlying41 rfl HIN.out ?_)
      | ((with_reducible refine wg_load 41 (.tmp 53) ?_); refine wl_part rfl 41 (.tmp 53) rfl (w.heap.size + 1) 7 rfl (pcA root2) D7.out _ Try.underlying41 rfl HIN2.out ?_))
    go_ret
    exact ⟨by rw [HF.out] <;> rfl, U1.out⟩
  have t6 : (blocks == blocks2) = true := by rw [hq]; simp
  have q6 := Lib.hid hq
  clear hq
  by_cases hq : root = root2
  rotate_left
  · have HF := Lib.hid (NO.out (fun h => hq (h.2.2.2.2.2.2.2.1)))
    rw [decide_eq_false hq] at EQ
    go_enter Try.func20, Try.ntmps20
    go_wp2_with (first
      | ((with_reducible refine wg_load 41 (.tmp 51) ?_); refine wl_part rfl 41 (.tmp 51) rfl w.heap.size 7 rfl (pcA root) C7.out _ Try.underlying41 rfl HIN.out ?_)
      | ((with_reducible refine wg_load 41 (.tmp 53) ?_); refine wl_part rfl 41 (.tmp 53) rfl (w.heap.size + 1) 7 rfl (pcA root2) D7.out _ Try.underlying41 rfl HIN2.out ?_))
    go_ret
    exact ⟨by rw [HF.out] <;> rfl, U1.out⟩
  rw [decide_eq_true hq] at EQ
  have q7 := Lib.hid hq
  clear hq
  go_enter Try.func20, Try.ntmps20
  go_wp2_with (first
    | ((with_reducible refine wg_load 41 (.tmp 51) ?_); refine wl_part rfl 41 (.tmp 51) rfl w.heap.size 7 rfl (pcA root) C7.out _ Try.underlying41 rfl HIN.out ?_)
    | ((with_reducible refine wg_load 41 (.tmp 53) ?_); refine wl_part rfl 41 (.tmp 53) rfl (w.heap.size + 1) 7 rfl (pcA root2) D7.out _ Try.underlying41 rfl HIN2.out ?_))
  refine (DR.out _ U1.out).mono ?_
  rintro e w2 ⟨rfl, U2⟩
  by_cases hq : dead = dead2
  · rw [decide_eq_true hq]
    have HT := Lib.hid (show sameB ⟨id, name, snap, owner, prev, stamp, blocks, root, dead⟩ ⟨id2, name2, snap2, owner2, prev2, stamp2, blocks2, root2, dead2⟩ = true by
      unfold sameB
      rw [decide_eq_true_iff]
      simp only [SetD.mk.injEq]
      exact ⟨q0.out, q1.out, q2.out, q3.out, q4.out, q5.out, q6.out, q7.out, hq⟩)
    clear hq NO
    go_wp2_with fail
    go_ret
    exact ⟨by rw [HT.out] <;> rfl, U1.out.trans U2⟩
  · rw [decide_eq_false hq]
    have HF := Lib.hid (NO.out (fun h => hq (h.2.2.2.2.2.2.2.2)))
    clear hq NO
    go_wp2_with fail
    go_ret
    exact ⟨by rw [HF.out] <;> rfl, U1.out.trans U2⟩
end Go.Proofs.Ythbfhlphclgnaaa
