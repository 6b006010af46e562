/- Lists of pointers: plain functions; the walks of fits, one, Hole and Right of both sides. -/
import Derived.Test.YthbfhlphclgnaaaPtrO
import Derived.Test.YthbfhlphclgnaaaRowW
import Derived.Test.YthbfhlphclgnaaaPc
import Derived.Lib.QuietBelow
set_option linter.unusedSimpArgs false
namespace Go.Proofs.Ythbfhlphclgnaaa
open Go.RowKit Go.Sort

abbrev IsPtrs (w : World) (v : Value) (l : List PtrD) : Prop := IsRow pcells w v l
abbrev OwnPtrs (w : World) (base : Nat) (v : Value) (l : List PtrD) : Prop := OwnRow pcells 3 41 w base v l
theorem ptrs_at {w : World} {a : Option Addr} {n cap : Nat} {l : List PtrD} (h : IsPtrs w (.slice a n cap) l) (h0 : 0 < l.length) :
    ∃ b off, a = some ⟨b, off, none⟩ ∧ b < w.heap.size ∧ n ≤ cap ∧ ∀ i (hi : i < l.length), w.cell? ⟨b, off + i * 3, none⟩ = some (.int .i64 l[i].loc) ∧ w.cell? ⟨b, off + i * 3 + 1, none⟩ = some (.int .u64 (l[i].birth : Int)) ∧ w.cell? ⟨b, off + i * 3 + 2, none⟩ = some (.int .u32 (l[i].sum : Int)) := by
  obtain ⟨b, off, h1, h2, h3, h4⟩ := IsRow.get h pw h0
  exact ⟨b, off, h1, h2, h3, fun i hi => ⟨h4 i hi 0 _ rfl, h4 i hi 1 _ rfl, h4 i hi 2 _ rfl⟩⟩

def fitB (p : PtrD) : Bool := !decide (p = hole) && goodB p
def okAt (l : List PtrD) (i : Nat) (h : i < l.length) : Bool := fitB l[i] && (if h0 : i = 0 then true else lessB (l[i - 1]'(by omega)) l[i])
def rightB (l : List PtrD) : Bool := decide (∀ i (h : i < l.length), okAt l i h = true)
theorem rightB_iff (l : List PtrD) : rightB l = true ↔ ∀ i (h : i < l.length), okAt l i h = true := by simp [rightB]
theorem hole_iff (l : Int) (b s : Nat) : decide ((⟨l, b, s⟩ : PtrD) = hole) = true ↔ l = 0 ∧ b = 0 ∧ s = 0 := by simp [hole]

set_option maxHeartbeats 1000000 in
theorem fits_any (w : World) (p : PtrD) : Calls Try.prog 54 #[ptrV p] w fun e w' => BoolUp (fitB p) w e w' := by
  have R := Lib.hid (fun W => right_any W p)
  have hf : fitB p = (!decide (p = hole) && goodB p) := rfl
  rw [hf]
  clear hf
  obtain ⟨l, b, s⟩ := p
  have hh := hole_iff l b s
  unfold ptrV at *
  simp only at *
  generalize goodB ⟨l, b, s⟩ = g at *
  generalize decide ((⟨l, b, s⟩ : PtrD) = hole) = h at *
  by_cases h0 : l = 0 ∧ b = 0 ∧ s = 0
  · have : h = true := hh.2 h0
    subst this
    obtain ⟨rfl, rfl, rfl⟩ := h0
    clear hh
    go_enter Try.func54, Try.ntmps54
    go_wp2_with fail
    go_ret
    exact ⟨rfl, up_alloc _ _⟩
  · have : h = false := by rw [← Bool.not_eq_true, hh]; exact h0
    subst this
    have hx : (((l == 0) && ((b : Int) == 0)) && ((s : Int) == 0)) = false := by
      rw [← Bool.not_eq_true]; simp; omega
    clear hh
    have HX : (l == 0) = false ∨ ((l == 0) = true ∧ ((b : Int) == 0) = false) ∨ ((l == 0) = true ∧ ((b : Int) == 0) = true ∧ ((s : Int) == 0) = false) := by
      cases h1 : (l == 0) <;> cases h2 : ((b : Int) == 0) <;> cases h3 : ((s : Int) == 0) <;> simp_all
    clear hx h0
    rcases HX with t1 | ⟨t1, t2⟩ | ⟨t1, t2, t3⟩
    all_goals
      go_enter Try.func54, Try.ntmps54
      go_wp2_with fail
      refine (R.out _).mono ?_
      rintro e w1 ⟨rfl, up1⟩
      go_wp2_with fail
      go_ret
      exact ⟨by simp, (up_alloc _ _).trans up1⟩

set_option maxHeartbeats 1000000 in
theorem hole_any (w : World) (p : PtrD) : Calls Try.prog 59 #[ptrV p] w fun e w' => BoolUp (decide (p = hole)) w e w' := by
  obtain ⟨l, b, s⟩ := p
  unfold ptrV
  go_enter Try.func59, Try.ntmps59
  go_wp2_with fail
  all_goals
    go_ret
    refine ⟨?_, up_alloc _ _⟩
    refine retB ?_
    rw [hole_iff]
    try simp only [decide_eq_true_eq, beq_iff_eq, bne_iff_ne, beq_eq_false_iff_ne, bne_eq_false_iff_eq, Bool.not_eq_true', Bool.and_eq_true, Bool.or_eq_true, Bool.and_eq_false_iff, decide_eq_false_iff_not] at *
    try simp only [Bool.false_eq_true, false_iff, true_iff]
    omega

theorem one_any (w : World) (p : PtrD) : Calls Try.prog 56 #[ptrV p] w fun e w' => BoolUp (fitB p) w e w' := by
  have R := Lib.hid (fun W => refRight_any W p)
  have H := Lib.hid (fun W => hole_any W p)
  have hf : fitB p = (!decide (p = hole) && goodB p) := rfl
  rw [hf]
  clear hf
  obtain ⟨l, b, s⟩ := p
  unfold ptrV at *
  simp only at *
  generalize goodB ⟨l, b, s⟩ = g at *
  generalize decide ((⟨l, b, s⟩ : PtrD) = hole) = h at *
  go_enter Try.func56, Try.ntmps56
  go_wp2_with fail
  refine (H.out _).mono ?_
  rintro e w1 ⟨rfl, up1⟩
  have c0 : w1.cell? ⟨w.heap.size, 0, none⟩ = some (.int .i64 l) := up1.cell (cell_new w _ _ _ 0 _ rfl)
  have c1 : w1.cell? ⟨w.heap.size, 1, none⟩ = some (.int .u64 b) := up1.cell (cell_new w _ _ _ 1 _ rfl)
  have c2 : w1.cell? ⟨w.heap.size, 2, none⟩ = some (.int .u32 s) := up1.cell (cell_new w _ _ _ 2 _ rfl)
  cases h
  · go_wp2_with fail
    refine (R.out _).mono ?_
    rintro e w2 ⟨rfl, up2⟩
    go_wp2_with fail
    go_ret
    exact ⟨by simp, (up_alloc _ _).trans (up1.trans up2)⟩
  · go_wp2_with fail
    go_ret
    exact ⟨by simp, (up_alloc _ _).trans up1⟩

/-- The cells of a pointer's box, in every world that a region's calls may leave. -/
theorem box0 (w : World) (l : Int) (b s : Nat) (d : Nat) (os : Array Obj) : (grow (redrawn (w.alloc (.cells #[.int .i64 l, .int .u64 b, .int .u32 s] 41)) d) os).cell? ⟨w.heap.size, 0, none⟩ = some (.int .i64 l) := cell_regrown (cell_new w _ _ _ 0 _ rfl) d os
theorem box1 (w : World) (l : Int) (b s : Nat) (d : Nat) (os : Array Obj) : (grow (redrawn (w.alloc (.cells #[.int .i64 l, .int .u64 b, .int .u32 s] 41)) d) os).cell? ⟨w.heap.size, 1, none⟩ = some (.int .u64 b) := cell_regrown (cell_new w _ _ _ 1 _ rfl) d os
theorem box2 (w : World) (l : Int) (b s : Nat) (d : Nat) (os : Array Obj) : (grow (redrawn (w.alloc (.cells #[.int .i64 l, .int .u64 b, .int .u32 s] 41)) d) os).cell? ⟨w.heap.size, 2, none⟩ = some (.int .u32 s) := cell_regrown (cell_new w _ _ _ 2 _ rfl) d os

structure LessFits (x y : Value) (b : Bool) : Prop where
  fit : ∀ W, Calls Try.prog 55 #[x, y] W fun e w' => BoolUp b W e w'
theorem less_fits (W : World) (x y : Value) (b : Bool) (h : LessFits x y b) : Calls Try.prog 55 #[x, y] W fun e w' => BoolUp b W e w' := h.fit W

theorem ok_zero {l : List PtrD} (h : 0 < l.length) : okAt l 0 h = fitB l[0] := by simp [okAt]
theorem ok_succ {l : List PtrD} {k : Nat} (h : k + 1 < l.length) : okAt l (k + 1) h = (fitB l[k + 1] && lessB (l[k]'(by omega)) l[k + 1]) := by simp [okAt]
theorem not_right {l : List PtrD} {k : Nat} (h : k < l.length) (hk : okAt l k h = false) : rightB l = false := by
  rw [← Bool.not_eq_true, rightB_iff]
  intro hh
  rw [hh k h] at hk
  cases hk

set_option maxHeartbeats 4000000 in
theorem lright_any (w : World) (v : Value) (l : List PtrD) (hv : IsPtrs w v l) : Calls Try.prog 41 #[v] w fun e w' => BoolUp (rightB l) w e w' := by
  have hlen := hv.length_le
  obtain ⟨a, cap, rfl⟩ := hv.slice
  go_enter Try.func41, Try.ntmps41
  go_wp2_with fail
  go_loopw [7] (fun i wr => ∃ k : Nat, k ≤ l.length ∧ i = .int .i64 k ∧ (∀ j (hj : j < l.length), j < k → okAt l j hj = true) ∧ Up w wr) (fun i _ => l.length - (intOf i).toNat)
  case atStart => exact ⟨0, Nat.zero_le _, rfl, fun j hj h => by omega, Up.refl _⟩
  case round =>
    obtain ⟨k, hk, rfl, hall, upr⟩ := hrel
    have Hall := Lib.hid hall
    clear hall
    by_cases hlt : k < l.length
    · obtain ⟨b, off, rfl, hbs, hnc, hc⟩ := ptrs_at (IsRow.up hv upr) (by omega)
      have hc0 := (hc k hlt).1
      have hc1 := (hc k hlt).2.1
      have hc2 := (hc k hlt).2.2
      have F := Lib.hid (fun W => fits_any W l[k])
      have Hst : (okAt l k hlt = true → ∀ j (hj : j < l.length), j < k + 1 → okAt l j hj = true) := fun h j hj hjk => by
        by_cases e : j = k
        · subst e; exact h
        · exact Hall.out j hj (by omega)
      have HST := Lib.hid Hst
      have HNO := Lib.hid (fun h => not_right hlt h)
      have b2 : ((k : Int) < (l.length : Int)) = True := by simp; omega
      have hok : okAt l k hlt = (fitB l[k] && (if h0 : k = 0 then true else lessB (l[k - 1]'(by omega)) l[k])) := rfl
      have HOK := Lib.hid hok
      clear Hst hok
      by_cases hk0 : k = 0
      · have hok := HOK.out
        simp only [hk0, dif_pos, Bool.and_true] at hok
        have HOK2 := Lib.hid (show okAt l k hlt = fitB l[k] by subst hk0; exact ok_zero hlt)
        have t0 : decide ((0 : Int) < (k : Int)) = false := by simp; omega
        have t0' : decide (0 < k) = false := by simp; omega
        clear hok HOK hk0
        generalize l[k] = p at *
        obtain ⟨pl, pb, ps⟩ := p
        unfold ptrV at F
        simp only at F hc0 hc1 hc2
        generalize fitB ⟨pl, pb, ps⟩ = g at *
        clear hc
        go_wp2_with fail
        have x0 := box0 wr pl pb ps
        have x1 := box1 wr pl pb ps
        have x2 := box2 wr pl pb ps
        have upa := up_alloc wr (.cells #[.int .i64 pl, .int .u64 pb, .int .u32 ps] 41)
        generalize hw3 : wr.alloc (.cells #[.int .i64 pl, .int .u64 pb, .int .u32 ps] 41) = w3 at *
        clear hw3
        cases g
        all_goals
          refine wp_region_quiet_below (by kernel_rfl) (by kernel_rfl) ?_
          repeat (go_big_quiet_step ((go_at_call 54; exact Calls.regrown_of (F.out _))))
          refine wpQuiet_nil ?_
          intro w4 hw'
          obtain ⟨⟨d, os⟩, hw4⟩ := hw'
          have up4 : Up w3 w4 := by rw [hw4]; exact below_regrown _ _ _
          clear hw4 x0 x1 x2
          have upf := upr.trans (upa.trans up4)
          go_wp2_with fail
        · go_ret
          exact ⟨by rw [HNO.out HOK2.out] <;> rfl, upf⟩
        · go_roundw
          case rel => exact ⟨k + 1, by omega, by simp, HST.out HOK2.out, upf⟩
          case measure => simp [intOf]; omega
      · obtain ⟨j, hj⟩ : ∃ j, j = k - 1 := ⟨_, rfl⟩
        have hjlt : j < l.length := by omega
        have HOK2 := Lib.hid (show okAt l k hlt = (fitB l[k] && lessB l[j] l[k]) by subst hj; rw [HOK.out, dif_neg hk0])
        have hd0 := (hc j hjlt).1
        have hd1 := (hc j hjlt).2.1
        have hd2 := (hc j hjlt).2.2
        have L := Lib.hid (show LessFits (ptrV l[j]) (ptrV l[k]) (lessB l[j] l[k]) from ⟨fun W => less_any W l[j] l[k]⟩)
        have t0 : decide ((0 : Int) < (k : Int)) = true := by simp; omega
        have t0' : decide (0 < k) = true := by simp; omega
        have t1 : IntKind.i64.wrap ((k : Int) - 1) = (j : Int) := by rw [show (k : Int) - 1 = (j : Int) by omega]; exact wrap_i64_nat j (by omega)
        have t2 : ((j : Int) < (l.length : Int)) = True := by simp; omega
        clear HOK hk0 hj
        generalize l[k] = p at *
        generalize l[j] = q at *
        obtain ⟨pl, pb, ps⟩ := p
        obtain ⟨ql, qb, qs⟩ := q
        unfold ptrV at F L
        simp only at F hc0 hc1 hc2 hd0 hd1 hd2 L
        generalize fitB ⟨pl, pb, ps⟩ = g at *
        generalize lessB ⟨ql, qb, qs⟩ ⟨pl, pb, ps⟩ = le at *
        clear hc
        go_wp2_with fail
        have x0 := box0 wr pl pb ps
        have x1 := box1 wr pl pb ps
        have x2 := box2 wr pl pb ps
        have upa := up_alloc wr (.cells #[.int .i64 pl, .int .u64 pb, .int .u32 ps] 41)
        have x3 := cell_regrown (upa.cell hd0)
        have x4 := cell_regrown (upa.cell hd1)
        have x5 := cell_regrown (upa.cell hd2)
        generalize hw3 : wr.alloc (.cells #[.int .i64 pl, .int .u64 pb, .int .u32 ps] 41) = w3 at *
        clear hw3
        cases g
        · refine wp_region_quiet_below (by kernel_rfl) (by kernel_rfl) ?_
          repeat (go_big_quiet_step ((go_at_call 54; exact Calls.regrown_of (F.out _))))
          refine wpQuiet_nil ?_
          intro w4 hw'
          obtain ⟨⟨d, os⟩, hw4⟩ := hw'
          have up4 : Up w3 w4 := by rw [hw4]; exact below_regrown _ _ _
          clear hw4 x0 x1 x2
          have upf := upr.trans (upa.trans up4)
          go_wp2_with fail
          go_ret
          exact ⟨by rw [HNO.out (by rw [HOK2.out]; simp)] <;> rfl, upf⟩
        cases le
        all_goals
          refine wp_region_quiet_below (by kernel_rfl) (by kernel_rfl) ?_
          repeat (go_big_quiet_step (first | (go_at_call 54; exact Calls.regrown_of (F.out _)) | (go_at_call 55; exact Calls.regrown_of (less_fits _ _ _ _ L.out))))
          refine wpQuiet_nil ?_
          intro w4 hw'
          obtain ⟨⟨d, os⟩, hw4⟩ := hw'
          have up4 : Up w3 w4 := by rw [hw4]; exact below_regrown _ _ _
          clear hw4 x0 x1 x2 x3 x4 x5
          have upf := upr.trans (upa.trans up4)
          go_wp2_with fail
        · go_ret
          exact ⟨by rw [HNO.out (by rw [HOK2.out]; simp)] <;> rfl, upf⟩
        · go_roundw
          case rel => exact ⟨k + 1, by omega, by simp, HST.out (by rw [HOK2.out]; simp), upf⟩
          case measure => simp [intOf]; omega
    · obtain rfl : k = l.length := by omega
      have hb : rightB l = true := by
        rw [rightB_iff]
        exact fun i h => Hall.out i h h
      go_wp2_with fail
      go_ret
      exact ⟨by first | rfl | (rw [hb]; rfl), upr⟩
end Go.Proofs.Ythbfhlphclgnaaa
