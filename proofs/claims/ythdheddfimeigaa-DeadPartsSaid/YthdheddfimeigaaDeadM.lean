/- dead.Merge: the walk. -/
import Derived.Test.YthdheddfimeigaaDeadB
set_option linter.unusedSimpArgs false
namespace Go.Proofs.Ythdheddfimeigaa
open Go.RowKit Go.Sort

/-- What Merge makes of two lists. -/
def mergeF : List PtrD → List PtrD → Option (List PtrD)
  | [], b => some b
  | a, [] => some a
  | x :: a, y :: b => if lessB x y = true then (mergeF a (y :: b)).map (x :: ·) else if lessB y x = true then (mergeF (x :: a) b).map (y :: ·) else none
termination_by a b => a.length + b.length

theorem merge_nil (b : List PtrD) : mergeF [] b = some b := by unfold mergeF; rfl
theorem merge_nil2 (a : List PtrD) : mergeF a [] = some a := by
  cases a with
  | nil => exact merge_nil []
  | cons x a => unfold mergeF; rfl
theorem merge_step (a b : List PtrD) (ha : 0 < a.length) (hb : 0 < b.length) : mergeF a b = if lessB a[0] b[0] = true then (mergeF (a.drop 1) b).map (a[0] :: ·) else if lessB b[0] a[0] = true then (mergeF a (b.drop 1)).map (b[0] :: ·) else none := by
  cases a with
  | nil => simp at ha
  | cons x a =>
    cases b with
    | nil => simp at hb
    | cons y b => rw [mergeF]; rfl
def lenV : Value → Nat
  | .slice _ n _ => n
  | _ => 0
def MergePost (o : Option (List PtrD)) (w : World) (e : Ending) (w' : World) : Prop :=
  (o = none ∧ e = .returned (.tuple #[.slice none 0 0, .int .i64 131]) ∧ Up w w') ∨ ∃ m u, o = some m ∧ e = .returned (.tuple #[u, .int .i64 0]) ∧ OwnPtrs w' w.heap.size u m ∧ Up w w'

set_option maxRecDepth 100000 in
set_option maxHeartbeats 8000000 in
theorem merge_any (w : World) (v v2 : Value) (a0 b0 : List PtrD) (hv : IsPtrs w v a0) (hv2 : IsPtrs w v2 b0) (hr : (a0.length + b0.length) * 24 ≤ 281474976710656) :
    Calls Try.prog 21 #[v, v2] w fun e w' => MergePost (mergeF a0 b0) w e w' := by
  obtain ⟨T, hT⟩ : ∃ T, T = a0.length + b0.length := ⟨_, rfl⟩
  have MK : ∀ W : World, (Instr.makeSlice 22 (.int .i64 0) (.int .i64 (T : Int))).run Try.prog W = _ := fun W => run_makeR0 (P := Try.prog) 22 29 _ 3 24 Try.underlying22 info_ptr T (by omega) (by omega) W
  have RM := Lib.hid (fun W (B : Nat) (hB : B ≤ W.heap.size) => OwnRow.room pcells 3 29 W (.agg #[.int .i64 0, .int .u64 0, .int .u32 0]) B T hB (by omega))
  generalize madeCells (Value.agg #[.int .i64 0, .int .u64 0, .int .u32 0]).cells (T * 3) = zr at *
  have wt : IntKind.i64.wrap ((a0.length : Int) + (b0.length : Int)) = (T : Int) := by rw [show (a0.length : Int) + (b0.length : Int) = (T : Int) by omega]; exact wrap_i64_nat T (by omega)
  obtain ⟨va, ca, rfl⟩ := hv.slice
  obtain ⟨vb, cb, rfl⟩ := hv2.slice
  obtain ⟨na, hna⟩ : ∃ n, n = a0.length := ⟨_, rfl⟩
  obtain ⟨nb, hnb⟩ : ∃ n, n = b0.length := ⟨_, rfl⟩
  rw [← hna] at hv wt ⊢
  rw [← hnb] at hv2 wt ⊢
  have HNA := Lib.hid hna
  have HNB := Lib.hid hnb
  have HT := Lib.hid hT
  have HV := Lib.hid hv
  have HV2 := Lib.hid hv2
  have HT24 : T * 24 ≤ 281474976710656 := by omega
  clear hna hnb hT hv hv2 hr
  go_enter Try.func21, Try.ntmps21
  go_wp2_with fail
  have own0 := RM.out w w.heap.size (Nat.le_refl _)
  obtain ⟨g, hg⟩ : ∃ g, g = w.heap.size := ⟨_, rfl⟩
  go_loopw [0, 1, 6] (fun s t u wr => ∃ (a b out : List PtrD) (pa pb : Option Addr) (ka kb n m z : Nat), s = .slice pa n ka ∧ n = a.length ∧ IsPtrs w (.slice pa n ka) a ∧ t = .slice pb m kb ∧ m = b.length ∧ IsPtrs w (.slice pb m kb) b ∧
      u = .slice (some ⟨g, 0, none⟩) z T ∧ z = out.length ∧ OwnPtrs wr w.heap.size (.slice (some ⟨g, 0, none⟩) z T) out ∧ z + n + m = T ∧ mergeF a0 b0 = (mergeF a b).map (out ++ ·) ∧ Up w wr) (fun s t _ _ => lenV s + lenV t)
  case atStart =>
    have hz := up_alloc w (.cells zr 29)
    refine ⟨a0, b0, [], va, vb, ca, cb, na, nb, 0, rfl, HNA.out, HV.out, rfl, HNB.out, HV2.out, by rw [hg], rfl, by rw [hg]; exact own0, ?_, ?_, hz⟩
    · have := HNA.out; have := HNB.out; have := HT.out; omega
    · simp
  case round =>
    obtain ⟨a, b, out, pa, pb, ka, kb, n, m, z, rfl, hn, ha, rfl, hm, hb, rfl, hz, hown, hsum, hme, upr⟩ := hrel
    clear own0 MK wt
    have HA := Lib.hid ha
    have HB := Lib.hid hb
    have HO := Lib.hid hown
    have HN := Lib.hid hn
    have HM := Lib.hid hm
    have HZ := Lib.hid hz
    have HME := Lib.hid hme
    have HG := Lib.hid hg
    clear ha hb hown hme hz hg
    by_cases h0 : 0 < n ∧ 0 < m
    · obtain ⟨h0n, h0m⟩ := h0
      have la : 0 < a.length := by omega
      have lb : 0 < b.length := by omega
      have MS := merge_step a b la lb
      obtain ⟨ba, oa, rfl, _, hka, hca⟩ := ptrs_at (IsRow.up HA.out upr) la
      obtain ⟨bb, ob, rfl, _, hkb, hcb⟩ := ptrs_at (IsRow.up HB.out upr) lb
      have c0 := (hca 0 la).1
      have c1 := (hca 0 la).2.1
      have c2 := (hca 0 la).2.2
      have e0 := (hcb 0 lb).1
      have e1 := (hcb 0 lb).2.1
      have e2 := (hcb 0 lb).2.2
      simp only [Nat.zero_mul, Nat.add_zero] at c0 c1 c2 e0 e1 e2
      obtain ⟨n', hn'⟩ : ∃ x, x = n - 1 := ⟨_, rfl⟩
      obtain ⟨m', hm'⟩ : ∃ x, x = m - 1 := ⟨_, rfl⟩
      obtain ⟨pa', hpa⟩ : ∃ p : Option Addr, p = (if ka = 1 then some ⟨ba, oa, none⟩ else (some (⟨ba, oa, none⟩ : Addr)).map (·.add (1 * 3))) := ⟨_, rfl⟩
      obtain ⟨pb', hpb⟩ : ∃ p : Option Addr, p = (if kb = 1 then some ⟨bb, ob, none⟩ else (some (⟨bb, ob, none⟩ : Addr)).map (·.add (1 * 3))) := ⟨_, rfl⟩
      have PA : ∀ W, (Instr.slice 22 (.slice (some ⟨ba, oa, none⟩) n ka) (some (.int .i64 1)) none none).run Try.prog W = .ok (.slice pa' n' (ka - 1)) W := fun W => by
        have := run_part_from (P := Try.prog) 22 3 ptrs_elem run_size3 (some ⟨ba, oa, none⟩) n ka 1 (by omega) W
        rw [hpa, hn']
        exact this
      have PB : ∀ W, (Instr.slice 22 (.slice (some ⟨bb, ob, none⟩) m kb) (some (.int .i64 1)) none none).run Try.prog W = .ok (.slice pb' m' (kb - 1)) W := fun W => by
        have := run_part_from (P := Try.prog) 22 3 ptrs_elem run_size3 (some ⟨bb, ob, none⟩) m kb 1 (by omega) W
        rw [hpb, hm']
        exact this
      have RA := Lib.hid (show IsPtrs w (.slice pa' n' (ka - 1)) (a.drop 1) by
        have := IsRow.part pw HA.out (lo := 1) (hi := n) (by omega) (by omega)
        rw [hn, List.take_length, ← hn] at this
        rw [hpa, hn']
        exact this)
      have RB := Lib.hid (show IsPtrs w (.slice pb' m' (kb - 1)) (b.drop 1) by
        have := IsRow.part pw HB.out (lo := 1) (hi := m) (by omega) (by omega)
        rw [hm, List.take_length, ← hm] at this
        rw [hpb, hm']
        exact this)
      have L1 := Lib.hid (show LessFits (ptrV a[0]) (ptrV b[0]) (lessB a[0] b[0]) from ⟨fun W => less_any W _ _⟩)
      have L2 := Lib.hid (show LessFits (ptrV b[0]) (ptrV a[0]) (lessB b[0] a[0]) from ⟨fun W => less_any W _ _⟩)
      have DA := Lib.hid (show n' = (a.drop 1).length by rw [List.length_drop]; omega)
      have DB := Lib.hid (show m' = (b.drop 1).length by rw [List.length_drop]; omega)
      have t1 : decide ((0 : Int) < (n : Int)) = true := by simp; omega
      have t1' : decide (0 < n) = true := by simp; omega
      have t2 : decide ((0 : Int) < (m : Int)) = true := by simp; omega
      have t2' : decide (0 < m) = true := by simp; omega
      have t3 : ((0 : Int) < (n : Int)) = True := by simp; omega
      have t4 : ((0 : Int) < (m : Int)) = True := by simp; omega
      have HNN := Lib.hid (show n' + 1 = n by omega)
      have HMM := Lib.hid (show m' + 1 = m by omega)
      clear hca hcb hpa hpb hn hm hn' hm'
      generalize a[0] = x at *
      generalize b[0] = y at *
      obtain ⟨pl, pb, ps⟩ := x
      obtain ⟨ql, qb, qs⟩ := y
      unfold ptrV at L1 L2
      simp only at c0 c1 c2 e0 e1 e2 L1 L2 MS
      generalize lessB ⟨pl, pb, ps⟩ ⟨ql, qb, qs⟩ = le1 at *
      generalize lessB ⟨ql, qb, qs⟩ ⟨pl, pb, ps⟩ = le2 at *
      have x0 := cell_regrown c0
      have x1 := cell_regrown c1
      have x2 := cell_regrown c2
      have x3 := cell_regrown e0
      have x4 := cell_regrown e1
      have x5 := cell_regrown e2
      go_wp2_with fail
      cases le1
      case true =>
        have HMS := Lib.hid (show mergeF a b = (mergeF (a.drop 1) b).map (⟨pl, pb, ps⟩ :: ·) by rw [MS]; simp)
        clear MS
        refine wp_region_quiet_below (by kernel_rfl) (by kernel_rfl) ?_
        repeat (go_big_quiet_step ((go_at_call 29; exact Calls.regrown_of (less_fits _ _ _ _ L1.out))))
        refine wpQuiet_nil ?_
        intro w4 hw'
        obtain ⟨⟨d, os⟩, hw4⟩ := hw'
        have up4 : Up wr w4 := by rw [hw4]; exact below_regrown _ _ _
        clear hw4
        clear x0 x1 x2 x3 x4 x5
        have c0 := up4.cell c0
        have c1 := up4.cell c1
        have c2 := up4.cell c2
        have o4 := HO.out.up up4
        have upr4 := upr.trans up4
        go_wp2_with fail
        go_region_law ((refine step_append_room pw rfl (.tmp 29) (.tmp 33) 22 rfl w.heap.size 29 (.agg #[.int .i64 0, .int .u64 0, .int .u32 0]) 24 Try.underlying22 info_ptr g T z out HZ.out rfl (o4.up ((Up.refl w4).drew.alloc _)) (.slice (some ⟨w4.heap.size, 0, none⟩) 1 1) [⟨pl, pb, ps⟩] rfl (one_lit w4.drew w4.heap.size rfl pl pb ps) (z + 1) (by rw [HZ.out]; rfl) (by omega) (Nat.le_trans upr4.size ((Up.refl w4).drew.alloc _).size) ?_; intro w5 hown5 _ hb5))
        all_goals
          have up5 : Up w w5 := (upr4.drew.alloc _).below_trans hb5 (Nat.le_refl _)
          go_wp2_with fail
          go_simp
          exact ⟨⟨_, _, _, _, _, ⟨a.drop 1, b, out ++ [⟨pl, pb, ps⟩], pa', some ⟨bb, ob, none⟩, ka - 1, kb, n', rfl, DA.out, RA.out, m, rfl, HM.out, HB.out, z + 1, rfl, by rw [List.length_append, HZ.out]; rfl, hown5, by have := HNN.out; omega, by rw [HME.out, HMS.out]; cases mergeF (a.drop 1) b <;> simp⟩, rfl, rfl, rfl, rfl, rfl⟩, by have := HNN.out; show n' < n; omega⟩
      case false =>
        refine wp_region_quiet_below (by kernel_rfl) (by kernel_rfl) ?_
        repeat (go_big_quiet_step ((go_at_call 29; exact Calls.regrown_of (less_fits _ _ _ _ L1.out))))
        refine wpQuiet_nil ?_
        intro w4 hw'
        obtain ⟨⟨d, os⟩, hw4⟩ := hw'
        have up4 : Up wr w4 := by rw [hw4]; exact below_regrown _ _ _
        clear hw4
        clear x0 x1 x2 x3 x4 x5
        have c0 := up4.cell c0
        have c1 := up4.cell c1
        have c2 := up4.cell c2
        have e0 := up4.cell e0
        have e1 := up4.cell e1
        have e2 := up4.cell e2
        have x0 := cell_regrown c0
        have x1 := cell_regrown c1
        have x2 := cell_regrown c2
        have x3 := cell_regrown e0
        have x4 := cell_regrown e1
        have x5 := cell_regrown e2
        go_wp2_with fail
        cases le2
        case false =>
          have HMS := Lib.hid (show mergeF a b = none by rw [MS]; simp)
          clear MS
          refine wp_region_quiet_below (by kernel_rfl) (by kernel_rfl) ?_
          repeat (go_big_quiet_step ((go_at_call 29; exact Calls.regrown_of (less_fits _ _ _ _ L2.out))))
          refine wpQuiet_nil ?_
          intro w5 hw'
          obtain ⟨⟨d, os⟩, hw4⟩ := hw'
          have up5 : Up w4 w5 := by rw [hw4]; exact below_regrown _ _ _
          clear hw4
          clear x0 x1 x2 x3 x4 x5
          go_wp2_with fail
          go_ret2
          exact .inl ⟨by rw [HME.out, HMS.out]; rfl, rfl, upr.trans (up4.trans up5)⟩
        case true =>
          have HMS := Lib.hid (show mergeF a b = (mergeF a (b.drop 1)).map (⟨ql, qb, qs⟩ :: ·) by rw [MS]; simp)
          clear MS
          refine wp_region_quiet_below (by kernel_rfl) (by kernel_rfl) ?_
          repeat (go_big_quiet_step ((go_at_call 29; exact Calls.regrown_of (less_fits _ _ _ _ L2.out))))
          refine wpQuiet_nil ?_
          intro w5 hw'
          obtain ⟨⟨d, os⟩, hw4⟩ := hw'
          have up5 : Up w4 w5 := by rw [hw4]; exact below_regrown _ _ _
          clear hw4
          clear x0 x1 x2 x3 x4 x5
          have e0 := up5.cell e0
          have e1 := up5.cell e1
          have e2 := up5.cell e2
          have o5 := HO.out.up (up4.trans up5)
          have upr5 := upr.trans (up4.trans up5)
          go_wp2_with fail
          go_region_law ((refine step_append_room pw rfl (.tmp 45) (.tmp 49) 22 rfl w.heap.size 29 (.agg #[.int .i64 0, .int .u64 0, .int .u32 0]) 24 Try.underlying22 info_ptr g T z out HZ.out rfl (o5.up ((Up.refl w5).drew.alloc _)) (.slice (some ⟨w5.heap.size, 0, none⟩) 1 1) [⟨ql, qb, qs⟩] rfl (one_lit w5.drew w5.heap.size rfl ql qb qs) (z + 1) (by rw [HZ.out]; rfl) (by omega) (Nat.le_trans upr5.size ((Up.refl w5).drew.alloc _).size) ?_; intro w6 hown6 _ hb6))
          all_goals
            have up6 : Up w w6 := (upr5.drew.alloc _).below_trans hb6 (Nat.le_refl _)
            go_wp2_with fail
            go_simp
            exact ⟨⟨_, _, _, _, _, ⟨a, b.drop 1, out ++ [⟨ql, qb, qs⟩], some ⟨ba, oa, none⟩, pb', ka, kb - 1, n, rfl, HN.out, HA.out, m', rfl, DB.out, RB.out, z + 1, rfl, by rw [List.length_append, HZ.out]; rfl, hown6, by have := HMM.out; omega, by rw [HME.out, HMS.out]; cases mergeF a (b.drop 1) <;> simp⟩, rfl, rfl, rfl, rfl, rfl⟩, by have := HMM.out; show m' < m; omega⟩
    · have Q : (decide ((0 : Int) < (n : Int)) = false ∧ decide (0 < n) = false ∧ n = 0) ∨ (decide ((0 : Int) < (n : Int)) = true ∧ decide (0 < n) = true ∧ decide ((0 : Int) < (m : Int)) = false ∧ decide (0 < m) = false ∧ m = 0) := by
        by_cases hn0 : n = 0
        · exact .inl ⟨by simp; omega, by simp; omega, hn0⟩
        · exact .inr ⟨by simp; omega, by simp; omega, by simp; omega, by simp; omega, by omega⟩
      have MF : mergeF a b = some (a ++ b) := by
        rcases Q with ⟨_, _, h⟩ | ⟨_, _, _, _, h⟩
        · have : a = [] := List.length_eq_zero_iff.1 (by have := HN.out; omega)
          rw [this, merge_nil]; rfl
        · have : b = [] := List.length_eq_zero_iff.1 (by have := HM.out; omega)
          rw [this, merge_nil2, List.append_nil]
      have HMF := Lib.hid MF
      clear MF h0 hn hm
      rcases Q with ⟨q1, q2, hq⟩ | ⟨q1, q2, q3, q4, hq⟩
      all_goals
        clear hq
        go_wp2_with (at_builtin; refine wpList_append_room pw rfl (.tmp 53) (.tmp 54) 22 rfl w.heap.size 29 (.agg #[.int .i64 0, .int .u64 0, .int .u32 0]) 24 Try.underlying22 info_ptr g T z out HZ.out rfl HO.out _ a rfl (IsRow.up HA.out upr) (z + n) (by rw [HZ.out, HN.out]) (by omega) upr.size ?_)
        intro w5 hown5 _ hb5
        have up5 : Up w w5 := upr.below_trans hb5 (Nat.le_refl _)
        go_wp2_with (at_builtin; refine wpList_append_room pw rfl (.tmp 56) (.tmp 57) 22 rfl w.heap.size 29 (.agg #[.int .i64 0, .int .u64 0, .int .u32 0]) 24 Try.underlying22 info_ptr g T (z + n) (out ++ a) (by rw [List.length_append, HZ.out, HN.out]) rfl hown5 _ b rfl (IsRow.up HB.out up5) T (by rw [List.length_append]; have := HZ.out; have := HN.out; have := HM.out; omega) (by omega) up5.size ?_)
        intro w6 hown6 _ hb6
        go_wp2_with fail
        go_ret2
        refine .inr ⟨_, _, ?_, rfl, hown6, up5.below_trans hb6 (Nat.le_refl _)⟩
        rw [HME.out, HMF.out]
        simp
end Go.Proofs.Ythdheddfimeigaa
