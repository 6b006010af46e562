/- VdevKeeps: the walk. -/
import Derived.Test.YthlpoboijggjnaaDevV
import Derived.Test.YthlpoboijggjnaaGate
set_option linter.unusedSimpArgs false
set_option linter.unusedVariables false
namespace Go.Proofs.Ythlpoboijggjnaa
open Go.RowKit

/-- The pending writes at one place. -/
def atOf (n : Nat) (ws : List WrD) : List Sec := (ws.filter (fun x => x.loc == n)).map (·.s)
theorem atOf_snoc (n : Nat) (ws : List WrD) (x : WrD) : atOf n (ws ++ [x]) = if x.loc = n then atOf n ws ++ [x.s] else atOf n ws := by
  unfold atOf
  by_cases h : x.loc = n <;> simp [h]
theorem atOf_length (n : Nat) (ws : List WrD) : (atOf n ws).length ≤ ws.length := by
  unfold atOf
  rw [List.length_map]
  exact List.length_filter_le _ _
theorem applyW_at (n : Nat) : ∀ (ws : List WrD) (l : List Sec) (s : Sec), l[n]? = some s → (applyW l ws)[n]? = some ((atOf n ws).getLast?.getD s)
  | [], l, s, h => by simpa [atOf, applyW] using h
  | x :: ws, l, s, h => by
    show (applyW (l.set x.loc x.s) ws)[n]? = _
    have hn : n < l.length := (List.getElem?_eq_some_iff.1 h).1
    by_cases hx : x.loc = n
    · rw [applyW_at n ws (l.set x.loc x.s) x.s (by rw [List.getElem?_set, if_pos hx, if_pos (by omega)])]
      unfold atOf
      simp [hx, List.getLast?_cons]
    · rw [applyW_at n ws (l.set x.loc x.s) s (by rw [List.getElem?_set, if_neg hx]; exact h)]
      unfold atOf
      simp [hx]
theorem keepW_sub (ks : List Bool) : ∀ (ws : List WrD) (i : Nat), (keepW ks i ws).Sublist ws
  | [], i => List.Sublist.refl _
  | x :: ws, i => by
    unfold keepW
    split
    · exact (keepW_sub ks ws _).cons_cons x
    · exact (keepW_sub ks ws _).cons x
theorem atOf_keep (ks : List Bool) (n : Nat) (ws : List WrD) (s : Sec) (h : s ∈ atOf n (keepW ks 0 ws)) : s ∈ atOf n ws := by
  unfold atOf at h ⊢
  exact (((keepW_sub ks ws 0).filter _).map _).subset h

structure KeepsInv (k n : Nat) (fl : Sec) (sc : List Sec) (v : DevD) : Prop where
  len : v.stable.length = 8
  pend : v.pend.length ≤ k
  st : v.stable[n]? = some fl
  sc : atOf n v.pend = sc
theorem KeepsInv.mono {k n : Nat} {fl : Sec} {sc : List Sec} {v : DevD} (I : KeepsInv k n fl sc v) : KeepsInv (k + 1) n fl sc v := ⟨I.len, by have := I.pend; omega, I.st, I.sc⟩
theorem KeepsInv.most {k n : Nat} {fl : Sec} {sc : List Sec} {v : DevD} (I : KeepsInv k n fl sc v) : sc.length ≤ k := by
  rw [← I.sc]
  exact Nat.le_trans (atOf_length _ _) I.pend
theorem KeepsInv.spent {k n : Nat} {fl : Sec} {sc : List Sec} {v : DevD} (I : KeepsInv k n fl sc v) : KeepsInv k n fl sc v.counted.spent := by
  obtain ⟨e1, e2, e3⟩ := spent_same v.counted
  exact ⟨by rw [e2]; exact I.len, by rw [e1]; exact I.pend, by rw [e2]; exact I.st, by rw [e1]; exact I.sc⟩
theorem KeepsInv.write {k n : Nat} {fl : Sec} {sc : List Sec} {v : DevD} (I : KeepsInv k n fl sc v) (i : Int) (u : Sec) :
    (v.writeE i = 0 ∧ KeepsInv (k + 1) n fl (if i = n then sc ++ [u] else sc) (v.written i u)) ∨ ((v.writeE i = 41 ∨ v.writeE i = 42) ∧ KeepsInv (k + 1) n fl sc (v.written i u)) := by
  obtain ⟨e1, e2, e3⟩ := spent_same v.counted
  have hn : n < 8 := by rw [← I.len]; exact (List.getElem?_eq_some_iff.1 I.st).1
  unfold DevD.written DevD.writeE
  cases hb : v.hasB i
  · simp only [Bool.false_eq_true, if_false]
    exact .inr ⟨.inl trivial, ⟨I.len, by have := I.pend; show v.pend.length ≤ _; omega, I.st, I.sc⟩⟩
  · simp only [if_true]
    have hi : 0 ≤ i := by unfold DevD.hasB at hb; simp at hb; exact hb.1
    cases hp : v.powerB
    · simp only [Bool.false_eq_true, if_false]
      exact .inr ⟨.inr trivial, I.spent.mono⟩
    · simp only [if_true]
      refine .inl ⟨trivial, ⟨I.spent.len, ?_, I.spent.st, ?_⟩⟩
      · show (v.counted.spent.pend ++ _).length ≤ _
        have := I.spent.pend
        simp
        omega
      · show atOf n (v.counted.spent.pend ++ [⟨i.toNat, u⟩]) = _
        rw [atOf_snoc, I.spent.sc]
        by_cases h : i = n
        · rw [if_pos h, if_pos (by show i.toNat = n; omega)]
        · rw [if_neg h, if_neg (by show ¬ i.toNat = n; omega)]
theorem KeepsInv.flush {k n : Nat} {fl : Sec} {sc : List Sec} {v : DevD} (I : KeepsInv k n fl sc v) :
    (v.flushE = 0 ∧ KeepsInv (k + 1) n (sc.getLast?.getD fl) [] v.flushed) ∨ (v.flushE = 42 ∧ KeepsInv (k + 1) n fl sc v.flushed) := by
  unfold DevD.flushed DevD.flushE
  cases hp : v.powerB
  · simp only [Bool.false_eq_true, if_false]
    exact .inr ⟨trivial, I.spent.mono⟩
  · simp only [if_true]
    refine .inl ⟨trivial, ⟨by show (applyW _ _).length = 8; rw [applyW_length]; exact I.len, Nat.zero_le _, ?_, rfl⟩⟩
    show (applyW v.stable v.pend)[n]? = _
    rw [applyW_at n v.pend v.stable fl I.st, I.sc]
theorem KeepsInv.brk {k n : Nat} {fl : Sec} {sc : List Sec} {v : DevD} (I : KeepsInv k n fl sc v) (i : Int) : KeepsInv (k + 1) n fl sc (v.broken i) := ⟨I.len, by have := I.pend; show v.pend.length ≤ _; omega, I.st, I.sc⟩
theorem KeepsInv.crash {k n : Nat} {fl : Sec} {sc : List Sec} {v : DevD} (I : KeepsInv k n fl sc v) (ks : List Bool) :
    (v.crashed ks).stableAt n = fl ∨ (v.crashed ks).stableAt n ∈ sc := by
  have hn : n < 8 := by rw [← I.len]; exact (List.getElem?_eq_some_iff.1 I.st).1
  have h1 : (v.crashed ks).stable[n]? = _ := applyW_at n (keepW ks 0 v.pend) v.stable fl I.st
  have hb : (v.crashed ks).hasB (n : Int) = true := by
    unfold DevD.hasB
    rw [show (v.crashed ks).stable.length = 8 from (crashed_facts v ks).1.trans I.len]
    simp
    omega
  unfold DevD.stableAt
  rw [if_pos hb, Int.toNat_natCast, List.getD_eq_getElem?_getD, h1]
  simp only [Option.getD_some]
  cases hl : (atOf n (keepW ks 0 v.pend)).getLast? with
  | none => exact .inl rfl
  | some s =>
    refine .inr ?_
    rw [← I.sc]
    exact atOf_keep ks n v.pend s (List.mem_of_getLast? hl)

/-- All that the loop holds. -/
structure KeepAt (w wr : World) (h : Hnd) (gw : Nat) (vs : Value) (v : DevD) (fl : Sec) (sc : List Sec) : Prop where
  dev : DevAt w wr h v
  blk : Blk wr gw 29 (secC fl.val)
  nf : ¬ Foot h gw
  own : OwnRow scells 128 29 wr w.heap.size vs sc
  ne : ∀ b, vs.ownBlock = some b → ¬ Foot h b ∧ b ≠ gw
  ge : w.heap.size ≤ gw
section
variable {w wr wr' : World} {h : Hnd} {gw : Nat} {vs : Value} {v v' : DevD} {fl : Sec} {sc : List Sec}
theorem KeepAt.up (A : KeepAt w wr h gw vs v fl sc) (U : Up wr wr') : KeepAt w wr' h gw vs v fl sc := ⟨A.dev.upTo U, A.blk.up U, A.nf, A.own.up U, A.ne, A.ge⟩
theorem KeepAt.touch (A : KeepAt w wr h gw vs v fl sc) (D : Dv wr' h v') (T : Touch (Foot h) wr wr') : KeepAt w wr' h gw vs v' fl sc :=
  ⟨A.dev.touch D T, A.blk.touch T A.nf, A.nf, A.own.touch T (fun b hb => (A.ne b hb).1), A.ne, A.ge⟩
theorem KeepAt.turn (A : KeepAt w wr h gw vs v fl sc) (T : Turned wr h v' wr') : ∃ vp, KeepAt w wr' { h with vp := vp } gw vs v' fl sc ∧ Touch (Foot h) wr wr' := by
  obtain ⟨vp, D, TT, O⟩ := T
  have hf : ∀ b, b < wr.heap.size → ¬ Foot h b → ¬ Foot { h with vp := vp } b := fun b hb hnf hh => by
    rcases Turned.foot (w' := wr') O b hh with h1 | h1
    · exact hnf h1
    · omega
  refine ⟨vp, ⟨⟨D, TT.up A.dev.up A.dev.own, fun b hb => ?_⟩, A.blk.touch TT A.nf, hf _ A.blk.lt A.nf, A.own.touch TT (fun b hb => (A.ne b hb).1), fun b hb => ⟨hf _ (A.own.block_lt b hb).2 (A.ne b hb).1, (A.ne b hb).2⟩, A.ge⟩, TT⟩
  rcases Turned.foot (w' := wr') O b hb with h1 | h1
  · exact A.dev.own b h1
  · exact Nat.le_trans A.dev.up.size h1
theorem DevAt.grownOff {w w1 w2 : World} {row : Option Nat} (A : DevAt w w1 h v) (hg : w1.grownBy w2 row) (hf : ∀ b, row = some b → ¬ Foot h b ∧ w.heap.size ≤ b) : DevAt w w2 h v :=
  ⟨A.dv.touch (Touch.of_grown (F := fun b => row = some b) hg (fun k hk => hk)) (fun b hb e => (hf b e).1 hb), A.up.grown hg (fun k hk => (hf k hk).2), A.own⟩
theorem KeepAt.stored (A : KeepAt w wr h gw vs v fl sc) (u : Sec) : KeepAt w (wr.setRow gw (secC u.val)) h gw vs v u sc := by
  have G := grown_setRow wr gw (secC u.val)
  refine ⟨A.dev.grownOff G (fun b hb => by cases hb; exact ⟨A.nf, A.ge⟩), A.blk.set _, A.nf, A.own.kept G ?_, A.ne, A.ge⟩
  cases ho : vs.ownBlock with
  | none => exact .inl rfl
  | some b => exact .inr (fun e => (A.ne b ho).2 (Option.some.inj e))
theorem KeepAt.reset (A : KeepAt w wr h gw vs v fl sc) : KeepAt w (wr.alloc (.cells #[] 29)) h gw (.slice (some ⟨wr.heap.size, 0, none⟩) 0 0) v fl [] := by
  have U := up_alloc wr (.cells #[] 29)
  refine ⟨A.dev.upTo U, A.blk.up U, A.nf, OwnRow.made scells 128 29 wr w.heap.size A.dev.up.size, fun b hb => ?_, A.ge⟩
  obtain rfl : wr.heap.size = b := by simpa [Value.ownBlock] using hb
  exact ⟨fun hf => Nat.lt_irrefl _ (A.dev.dv.foot_lt _ hf), fun e => by have := A.blk.lt; omega⟩
theorem KeepAt.pushed {vs' : Value} (A : KeepAt w wr h gw vs v fl sc) (sc' : List Sec) (ho : OwnRow scells 128 29 wr' w.heap.size vs' sc') (hg : wr.grownBy wr' vs.ownBlock) (hw : Whereto wr vs vs') : KeepAt w wr' h gw vs' v fl sc' := by
  refine ⟨A.dev.grownOff hg (fun b hb => ⟨(A.ne b hb).1, (A.own.block_lt b hb).1⟩), A.blk.grown hg (fun e => (A.ne gw e).2 rfl), A.nf, ho, fun b hb => ?_, A.ge⟩
  rcases hw with hw | ⟨g, hw, hgg⟩
  · exact A.ne b (by rw [← hw]; exact hb)
  · rw [hb] at hw
    cases hw
    exact ⟨fun hf => by have := A.dev.dv.foot_lt _ hf; omega, fun e => by have := A.blk.lt; omega⟩
theorem KeepAt.size (A : KeepAt w wr h gw vs v fl sc) : w.heap.size ≤ wr.heap.size := A.dev.up.size
end
theorem info_boolV : (Try.prog.info? 4).map (fun i => (i.zero, i.size, i.bytes)) = some (some (.bool false), 1, 1) := by kernel_rfl
theorem info_sec3 : (Try.prog.info? 29).map (fun i => (i.zero, i.size, i.bytes)) = some (some (.agg (secC zeroS)), 128, 128) := by kernel_rfl
theorem sec_row (w : World) (b : Nat) (hb : b = w.heap.size) (x : Sec) : IsRow scells (w.alloc (.cells (secC x.val) 29)) (.slice (some ⟨b, 0, none⟩) 1 1) [x] :=
  IsRow.litAt w b hb (secC x.val) 29 (0, 0) [x] 1 rfl (by unfold maxLen; omega) (by rw [secC_scells]; simp)
/-- A sector in a row of sectors. -/
theorem secs_at {w : World} {base : Nat} {a : Option Addr} {n cap : Nat} {l : List Sec} (h : OwnRow scells 128 29 w base (.slice a n cap) l) (h0 : 0 < l.length) : ∃ b off, a = some ⟨b, off, none⟩ ∧ b < w.heap.size ∧ ∀ i (hi : i < l.length), w.rangeAt b (off + i * 128) (secC l[i].val).toList := by
  obtain ⟨b, off, h1, h2, _, h4⟩ := IsRow.get (h.row sw) sw h0
  exact ⟨b, off, h1, h2, fun i hi j v hj => by
    have := h4 i hi j v (by rw [secC_scells] at hj; exact hj)
    rw [show off + i * 128 + j = off + (i * 128 + j) by omega]
    exact this⟩
-- THE WALK
set_option maxRecDepth 100000 in
set_option maxHeartbeats 16000000 in
theorem vdevKeeps_walk (w : World) (va : Value) (l : List ActD) (hl : IsRow acells w va l) (_hr : l.length * 168 ≤ 140737488351232) (hq : ∀ x ∈ l, x.wf) (vk : Value) (ks : List Bool) (hk : IsOnes boolCell w vk ks) (hkr : ks.length * 1 ≤ 140737488351232) (_hkq : ∀ x ∈ ks, True) (i : Int) (hi : -9223372036854775808 ≤ i ∧ i ≤ 9223372036854775807) :
    Calls Try.prog 5 #[va, vk, .int .i64 i] w fun e w' => e = .returned (.bool true) ∧ Up w w' := by
  have hln := hl.length_le
  obtain ⟨pa, pc, rfl⟩ := hl.slice
  obtain ⟨ka, kc, rfl⟩ := hk.slice
  have AL := Lib.hid (alive_any w)
  have NW := Lib.hid (fun W => dnew_any W 8 (by omega))
  have HL := Lib.hid hl
  have HQ := Lib.hid hq
  have HK := Lib.hid hk
  clear hl hq _hr hk _hkq
  by_cases h200 : 200 < l.length
  · have b1 : ((200 : Int) < (l.length : Int)) = True := by simp; omega
    go_enter Try.func5, Try.ntmps5
    go_wp2_with fail
    refine AL.out.mono ?_
    rintro e w1 ⟨rfl, U1⟩
    go_wp2_with fail
    refine (NW.out w1).mono ?_
    rintro e w2 ⟨h, rfl, D2, U2, O2⟩
    go_wp2_with fail
    go_ret
    exact ⟨rfl, U1.trans U2⟩
  have b1 : ((200 : Int) < (l.length : Int)) = False := by simp; omega
  by_cases hneg : i < 0
  · go_enter Try.func5, Try.ntmps5
    go_wp2_with fail
    refine AL.out.mono ?_
    rintro e w1 ⟨rfl, U1⟩
    go_wp2_with fail
    refine (NW.out w1).mono ?_
    rintro e w2 ⟨h, rfl, D2, U2, O2⟩
    go_wp2_with fail
    go_ret
    exact ⟨rfl, U1.trans U2⟩
  by_cases h7 : 7 < i
  · go_enter Try.func5, Try.ntmps5
    go_wp2_with fail
    refine AL.out.mono ?_
    rintro e w1 ⟨rfl, U1⟩
    go_wp2_with fail
    refine (NW.out w1).mono ?_
    rintro e w2 ⟨h, rfl, D2, U2, O2⟩
    go_wp2_with fail
    go_ret
    exact ⟨rfl, U1.trans U2⟩
  obtain ⟨n, rfl⟩ : ∃ n : Nat, i = n := ⟨i.toNat, by omega⟩
  have hn7 : n ≤ 7 := by omega
  clear hneg h7
  have OW := Lib.hid (show ∀ W h v k fl sc, Dv W h v → KeepsInv k n fl sc v → v.pend.length ≤ 1000000 → ∀ i : Int, -9223372036854775808 ≤ i ∧ i ≤ 9223372036854775807 → ∀ u : Sec, Calls Try.prog 11 #[.pointer (some ⟨h.d, 0, none⟩), .int .i64 i, .agg (secC u.val)] W fun e w' => ∃ v' ee, e = .returned (.int .i64 ee) ∧ Turned W h v' w' ∧ ((ee = 0 ∧ KeepsInv (k + 1) n fl (if i = n then sc ++ [u] else sc) v') ∨ ((ee = 41 ∨ ee = 42) ∧ KeepsInv (k + 1) n fl sc v')) from fun W h v k fl sc D I hp i hi u =>
    (dwrite_any W h v D i hi u hp).mono fun e w' ⟨h1, h2⟩ => ⟨_, _, h1, h2, I.write i u⟩)
  have OF := Lib.hid (show ∀ W h v k fl sc, Dv W h v → KeepsInv k n fl sc v → v.pend.length ≤ 1000000 → Calls Try.prog 13 #[.pointer (some ⟨h.d, 0, none⟩)] W fun e w' => ∃ v' ee, e = .returned (.int .i64 ee) ∧ Turned W h v' w' ∧ ((ee = 0 ∧ KeepsInv (k + 1) n (sc.getLast?.getD fl) [] v') ∨ (ee = 42 ∧ KeepsInv (k + 1) n fl sc v')) from fun W h v k fl sc D I hp =>
    (dflush_any W h v D hp).mono fun e w' ⟨h1, h2⟩ => ⟨_, _, h1, h2, I.flush⟩)
  have OB := Lib.hid (show ∀ W h v k fl sc, Dv W h v → KeepsInv k n fl sc v → ∀ i : Int, -9223372036854775808 ≤ i ∧ i ≤ 9223372036854775807 → Calls Try.prog 17 #[.pointer (some ⟨h.d, 0, none⟩), .int .i64 i] W fun e w' => ∃ v', e = .returned (.tuple #[]) ∧ Dv w' h v' ∧ Touch (Foot h) W w' ∧ KeepsInv (k + 1) n fl sc v' from fun W h v k fl sc D I i hi =>
    (dbreak_any W h v D i hi).mono fun e w' ⟨h1, h2, h3⟩ => ⟨_, h1, h2, h3, I.brk i⟩)
  have OC := Lib.hid (show ∀ W h v k fl sc, Dv W h v → KeepsInv k n fl sc v → v.pend.length ≤ 1000000 → ∀ vk, (∀ w', Touch (Foot h) W w' → IsOnes boolCell w' vk ks) → Calls Try.prog 14 #[.pointer (some ⟨h.d, 0, none⟩), vk] W fun e w' => ∃ v', e = .returned (.tuple #[]) ∧ Turned W h v' w' ∧ (v'.stableAt n = fl ∨ v'.stableAt n ∈ sc) ∧ v'.dead = false from fun W h v k fl sc D I hp vk HK =>
    (dcrash_any W h v D hp vk ks HK).mono fun e w' ⟨h1, h2⟩ => ⟨_, h1, h2, I.crash ks, rfl⟩)
  have OS := Lib.hid (show ∀ W h v, Dv W h v → Calls Try.prog 15 #[.pointer (some ⟨h.d, 0, none⟩), .int .i64 (n : Int)] W fun e w' => e = .returned (.agg (secC (v.stableAt n).val)) ∧ Up W w' from fun W h v D => dstable_any W h v D n hi)
  have OD := Lib.hid (show ∀ W h v, Dv W h v → v.dead = false → Calls Try.prog 18 #[.pointer (some ⟨h.d, 0, none⟩)] W fun e w' => e = .returned (.bool false) ∧ W = w' from fun W h v D hd => by
    have := ddead_any W h v D
    rw [hd] at this
    exact this)
  have b7 : ((7 : Int) < (n : Int)) = False := by simp; omega
  go_enter Try.func5, Try.ntmps5
  go_wp2_with fail
  refine AL.out.mono ?_
  rintro e w1 ⟨rfl, U1⟩
  have HU1 := Lib.hid U1
  go_wp2_with fail
  refine (NW.out w1).mono ?_
  rintro e w2 ⟨h, rfl, D2, U2, O2⟩
  have A2 := Lib.hid (show DevAt w w2 h (newD (clampN 8)) from ⟨D2, HU1.out.trans U2, fun b hb => Nat.le_trans HU1.out.size (O2 b hb)⟩)
  clear D2 U2 O2 U1 NW AL
  have SC := run_storeCells_new (P := Try.prog) w2 29 (secC zeroS) (secC zeroS) (info_secV zSec) rfl (secC_one _)
  have upa := up_alloc w2 (.cells (secC zeroS) 29)
  have upb := up_alloc (w2.alloc (.cells (secC zeroS) 29)) (.cells #[] 29)
  have szb := size_alloc w2 (.cells (secC zeroS) 29)
  have N3 := Lib.hid (show ¬ Foot h w2.heap.size from fun hf => Nat.lt_irrefl _ (A2.out.dv.foot_lt _ hf))
  have HW := Lib.hid A2.out.up.size
  have A3 := Lib.hid (show KeepAt w ((w2.alloc (.cells (secC zeroS) 29)).alloc (.cells #[] 29)) h w2.heap.size (.slice (some ⟨w2.heap.size + 1, 0, none⟩) 0 0) (newD (clampN 8)) zSec [] from
    ⟨(A2.out.upTo upa).upTo upb, (Blk.new w2 29 (secC zeroS)).up upb, N3.out, by
      have := OwnRow.made scells 128 29 (w2.alloc (.cells (secC zeroS) 29)) w.heap.size (by rw [szb]; have := HW.out; omega)
      rw [szb] at this
      exact this, fun b hb => by
      obtain rfl : w2.heap.size + 1 = b := by simpa [Value.ownBlock] using hb
      exact ⟨fun hf => by have := A2.out.dv.foot_lt _ hf; omega, by omega⟩, HW.out⟩)
  have I3 := Lib.hid (show KeepsInv 0 n zSec [] (newD (clampN 8)) from ⟨by kernel_rfl, Nat.le_refl _, by
    show (List.replicate (clampN 8) zSec)[n]? = _
    rw [List.getElem?_replicate, if_pos (by show n < 8; omega)], rfl⟩)
  clear upa upb HU1 szb HW N3
  go_wp2_with (first
    | (refine wpList_build0 rfl 29 rfl (secC zeroS) built_sec ?_)
    | ((with_reducible refine wg_alloc 29 ?_); refine wpList_alloc_blk rfl 29 rfl (secC zeroS) zero_sec ?_))
  clear SC
  go_loopw [9, 40] (fun vs i wr => ∃ (k : Nat) (vp : Value) (v : DevD) (fl : Sec) (sc : List Sec), k ≤ l.length ∧ i = .int .i64 k ∧ KeepAt w wr { h with vp := vp } w2.heap.size vs v fl sc ∧ KeepsInv k n fl sc v) (fun _ i _ => l.length - (intOf i).toNat)
  case atStart => exact ⟨0, h.vp, _, zSec, [], Nat.zero_le _, rfl, A3.out, I3.out⟩
  case round =>
    obtain ⟨k, vp, v, fl, sc, hk, rfl, ar, ir⟩ := hrel
    obtain ⟨sa, scap, rfl⟩ := (ar.own.row sw).slice
    have scl := ir.most
    generalize hN : sc.length = N at *
    have HN := Lib.hid hN
    have AR := Lib.hid ar
    have IR := Lib.hid ir
    have ROOM := Lib.hid (show v.pend.length ≤ 1000000 by have := ir.pend; omega)
    have SCL := Lib.hid scl
    clear scl hN ar ir A3 I3 A2
    generalize w2.heap.size = gw at *
    by_cases hlt : k < l.length
    · have b2 : ((k : Int) < (l.length : Int)) = True := by simp; omega
      obtain ⟨ab, ao, rfl, _, rg⟩ := acts_at HL.out (by omega)
      have RG := Lib.hid (show wr.rangeAt ab (ao + k * 131) (actC l[k]).toList from fun j u hj => AR.out.dev.up.cell (rg k hlt j u hj))
      have wfx := HQ.out l[k] (List.getElem_mem hlt)
      clear rg
      generalize l[k] = x at *
      have upa := up_alloc wr (.cells (actC x) 31)
      have A5 := Lib.hid (AR.out.up upa)
      have BX := Lib.hid (Blk.new wr 31 (actC x))
      have NX := Lib.hid (show ¬ Foot { h with vp := vp } wr.heap.size from fun hf => Nat.lt_irrefl _ (AR.out.dev.dv.foot_lt _ hf))
      have GX := Lib.hid (show gw ≠ wr.heap.size from fun e => by have := AR.out.blk.lt; omega)
      obtain ⟨c0, c1, r2⟩ := act_parts BX.out
      have R2 := Lib.hid r2
      have wfx1 := wfx.1
      have wfx2 := wfx.2
      clear r2 upa wfx
      generalize hxk : x.kind = xk at *
      have HXK := Lib.hid hxk
      clear hxk
      generalize hxl : x.loc = xl at *
      have HXL := Lib.hid hxl
      clear hxl
      by_cases hkd : xk = 1
      · obtain rfl := hkd
        go_wp2_with (first
          | ((with_reducible refine wg_load 31 (.tmp 42) ?_); refine wl_part rfl 31 (.tmp 42) rfl ab (ao + k * 131) rfl (actC x) RG.out _ Try.underlying31 rfl (info_act x) ?_)
          | ((with_reducible refine wg_alloc 31 ?_); refine wpList_alloc_blk rfl 31 rfl (actC zAct) zero_act ?_)
          | ((with_reducible refine wg_store 31 (.tmp 11) (.tmp 43) ?_); refine ws_new wr rfl 31 (.tmp 11) (.tmp 43) rfl (actC x) 31 (actC zAct) rfl rfl rfl (info_act x) (actZ x) (actC_one x) ?_)
          | ((with_reducible refine wg_load 29 (.tmp 51) ?_); refine wl_part rfl 29 (.tmp 51) rfl wr.heap.size 2 rfl _ R2.out _ Try.underlying29 rfl (info_secV x.s) ?_))
        refine (OW.out _ _ _ _ _ _ A5.out.dev.dv IR.out ROOM.out _ wfx2 x.s).mono ?_
        rintro e w5 ⟨v', ee, rfl, T5, I5⟩
        obtain ⟨vp5, A6, TT⟩ := A5.out.turn T5
        have HA := Lib.hid A6
        have HBX := Lib.hid (BX.out.touch TT NX.out)
        obtain ⟨d0, d1, dr⟩ := act_parts HBX.out
        rw [HXK.out] at d0
        rw [HXL.out] at d1
        have DR := Lib.hid dr
        clear dr T5 A6 TT c0 c1 R2 RG A5 BX
        rcases I5 with ⟨rfl, I5⟩ | ⟨hee, I5⟩
        · by_cases hin : xl = n
          · subst hin
            rw [if_pos rfl] at I5
            have I6 := Lib.hid I5
            clear I5
            have RW := Lib.hid (sec_row w5 w5.heap.size rfl x.s)
            have A7 := Lib.hid (HA.out.up (up_alloc w5 (.cells (secC x.s.val) 29)))
            have B7 := Lib.hid (HBX.out.up (up_alloc w5 (.cells (secC x.s.val) 29)))
            have hb1 := Lib.hid (show (sc.length + [x.s].length) * 128 ≤ 140737488355328 by rw [HN.out]; have := SCL.out; simp; omega)
            have hb2 := Lib.hid (show sc.length + [x.s].length ≤ 9223372036854775807 by rw [HN.out]; have := SCL.out; simp; omega)
            have HSZ := Lib.hid A7.out.size
            go_wp2_with (first
              | ((with_reducible refine wg_load 29 (.tmp 63) ?_); refine wl_part rfl 29 (.tmp 63) rfl wr.heap.size 2 rfl _ DR.out _ Try.underlying29 rfl (info_secV x.s) ?_)
              | ((with_reducible refine wg_slice 40 1 _ ?_); refine wpList_buildSlice1 rfl 40 29 (.tmp 64) rfl _ 128 128 (secC x.s.val) rfl Try.underlying40 info_sec3 (by omega) (by omega) (secV_size _) ?_)
              | (at_builtin; refine wpList_append_rowW sw rfl (.tmp 62) (.tmp 65) 40 rfl w.heap.size 29 _ 128 Try.underlying40 info_sec3 rfl (.slice sa N scap) sc rfl A7.out.own (.slice (some ⟨w5.heap.size, 0, none⟩) 1 1) [x.s] rfl RW.out hb1.out hb2.out HSZ.out ?_))
            intro v6 w6 hown6 hg6 _ hwh6
            have A8 := Lib.hid (A7.out.pushed (sc ++ [x.s]) hown6 hg6 hwh6)
            have HX7 := act_parts (B7.out.grown hg6 (own_ne (by decide) B7.out A7.out.own))
            have e0 := HX7.1
            rw [HXK.out] at e0
            clear HX7 hown6 hg6 hwh6 d0 d1 DR HA HBX
            go_wp2_with fail
            refine ⟨⟨k + 1, vp5, _, _, _, hlt, by simp, A8.out, I6.out⟩, ?_⟩
            simp only [intOf]
            omega
          · rw [if_neg hin] at I5
            have I6 := Lib.hid I5
            have hne : (xl == (n : Int)) = false := by simp [hin]
            clear I5 hin
            go_wp2_with fail
            refine ⟨⟨k + 1, vp5, _, _, _, hlt, by simp, HA.out, I6.out⟩, ?_⟩
            simp only [intOf]
            omega
        · have I6 := Lib.hid I5
          clear I5
          rcases hee with rfl | rfl
          all_goals
            go_wp2_with fail
            refine ⟨⟨k + 1, vp5, _, _, _, hlt, by simp, HA.out, I6.out⟩, ?_⟩
            simp only [intOf]
            omega
      have hk1 := hkd
      clear hkd
      by_cases hkd : xk = 2
      · obtain rfl := hkd
        go_wp2_with (first
          | ((with_reducible refine wg_load 31 (.tmp 42) ?_); refine wl_part rfl 31 (.tmp 42) rfl ab (ao + k * 131) rfl (actC x) RG.out _ Try.underlying31 rfl (info_act x) ?_)
          | ((with_reducible refine wg_alloc 31 ?_); refine wpList_alloc_blk rfl 31 rfl (actC zAct) zero_act ?_)
          | ((with_reducible refine wg_store 31 (.tmp 11) (.tmp 43) ?_); refine ws_new wr rfl 31 (.tmp 11) (.tmp 43) rfl (actC x) 31 (actC zAct) rfl rfl rfl (info_act x) (actZ x) (actC_one x) ?_))
        refine (OF.out _ _ _ _ _ _ A5.out.dev.dv IR.out ROOM.out).mono ?_
        rintro e w5 ⟨v', ee, rfl, T5, I5⟩
        obtain ⟨vp5, A6, TT⟩ := A5.out.turn T5
        have HA := Lib.hid A6
        have HBX := Lib.hid (BX.out.touch TT NX.out)
        obtain ⟨d0, d1, dr⟩ := act_parts HBX.out
        rw [HXK.out] at d0
        rw [HXL.out] at d1
        have DR := Lib.hid dr
        clear d1 dr T5 A6 TT c0 c1 R2 RG A5 BX
        rcases I5 with ⟨rfl, I5⟩ | ⟨rfl, I5⟩
        · by_cases hs : sc = []
          · obtain rfl := hs
            obtain rfl : N = 0 := HN.out.symm
            have I6 := Lib.hid (show KeepsInv (k + 1) n fl [] v' from I5)
            clear I5
            go_wp2_with fail
            refine ⟨⟨k + 1, vp5, _, _, _, hlt, by simp, HA.out, I6.out⟩, ?_⟩
            simp only [intOf]
            omega
          · have hsne : sc ≠ [] := hs
            obtain ⟨m, rfl⟩ : ∃ m, N = m + 1 := ⟨N - 1, by have := List.length_pos_iff.2 hsne; have := HN.out; omega⟩
            have hm := HN.out
            obtain ⟨sb, so, rfl, _, srg⟩ := secs_at HA.out.own (by omega)
            have hmlt : m < sc.length := by omega
            have SRG := Lib.hid (srg m hmlt)
            have hlast : sc.getLast?.getD fl = sc[m] := by
              rw [List.getLast?_eq_getElem?, hm, Nat.add_sub_cancel, List.getElem?_eq_getElem hmlt]
              rfl
            rw [hlast] at I5
            have I6 := Lib.hid I5
            clear I5 hlast srg hs hsne
            generalize sc[m] = u at *
            have hml : m ≤ 1000000 := by have := SCL.out; omega
            clear hmlt hm
            have A8 := Lib.hid (HA.out.stored u)
            have SZR : (w5.setRow gw (secC u.val)).heap.size = w5.heap.size := by simp [World.setRow]
            have a9 := A8.out.reset
            rw [SZR] at a9
            have A9 := Lib.hid a9
            clear a9 SZR
            have HX7 := act_parts ((HBX.out.grown (grown_setRow w5 gw (secC u.val)) (fun e => GX.out (Option.some.inj e))).up (up_alloc _ (.cells #[] 29)))
            have e0 := HX7.1
            rw [HXK.out] at e0
            have BG := Lib.hid HA.out.blk
            have SZ := Lib.hid (show (secC fl.val).size = (secC u.val).size by rw [secV_size, secV_size])
            clear HX7
            go_wp2_with (first
              | ((with_reducible refine wg_load 29 (.tmp 84) ?_); refine wl_part rfl 29 (.tmp 84) rfl sb (so + m * 128) rfl (secC u.val) SRG.out _ Try.underlying29 rfl (info_secV u) ?_)
              | ((with_reducible refine wg_store 29 (.tmp 8) (.tmp 85) ?_); refine wpList_store_row rfl 29 (.tmp 8) (.tmp 85) rfl gw (secC u.val) rfl rfl 29 _ BG.out (info_secV u) SZ.out (secC_one _) ?_))
            refine ⟨⟨k + 1, vp5, _, _, _, hlt, by simp, A9.out, I6.out⟩, ?_⟩
            simp only [intOf]
            omega
        · have I6 := Lib.hid I5
          clear I5
          go_wp2_with fail
          refine ⟨⟨k + 1, vp5, _, _, _, hlt, by simp, HA.out, I6.out⟩, ?_⟩
          simp only [intOf]
          omega
      have hk2 := hkd
      clear hkd
      by_cases hkd : xk = 3
      · obtain rfl := hkd
        go_wp2_with (first
          | ((with_reducible refine wg_load 31 (.tmp 42) ?_); refine wl_part rfl 31 (.tmp 42) rfl ab (ao + k * 131) rfl (actC x) RG.out _ Try.underlying31 rfl (info_act x) ?_)
          | ((with_reducible refine wg_alloc 31 ?_); refine wpList_alloc_blk rfl 31 rfl (actC zAct) zero_act ?_)
          | ((with_reducible refine wg_store 31 (.tmp 11) (.tmp 43) ?_); refine ws_new wr rfl 31 (.tmp 11) (.tmp 43) rfl (actC x) 31 (actC zAct) rfl rfl rfl (info_act x) (actZ x) (actC_one x) ?_))
        refine (OB.out _ _ _ _ _ _ A5.out.dev.dv IR.out _ wfx2).mono ?_
        rintro e w5 ⟨v', rfl, D5, T5, I5⟩
        have HA := Lib.hid (A5.out.touch D5 T5)
        have I6 := Lib.hid I5
        clear I5 D5 T5 A5
        go_wp2_with fail
        refine ⟨⟨k + 1, vp, _, _, _, hlt, by simp, HA.out, I6.out⟩, ?_⟩
        simp only [intOf]
        omega
      have hk3 := hkd
      clear hkd
      have f1 : decide (xk = 1) = false := by simp [hk1]
      have f2 : decide (xk = 2) = false := by simp [hk2]
      have f3 : decide (xk = 3) = false := by simp [hk3]
      go_wp2_with (first
        | ((with_reducible refine wg_load 31 (.tmp 42) ?_); refine wl_part rfl 31 (.tmp 42) rfl ab (ao + k * 131) rfl (actC x) RG.out _ Try.underlying31 rfl (info_act x) ?_)
        | ((with_reducible refine wg_alloc 31 ?_); refine wpList_alloc_blk rfl 31 rfl (actC zAct) zero_act ?_)
        | ((with_reducible refine wg_store 31 (.tmp 11) (.tmp 43) ?_); refine ws_new wr rfl 31 (.tmp 11) (.tmp 43) rfl (actC x) 31 (actC zAct) rfl rfl rfl (info_act x) (actZ x) (actC_one x) ?_))
      refine ⟨⟨k + 1, vp, _, _, _, hlt, by simp, A5.out, IR.out.mono⟩, ?_⟩
      simp only [intOf]
      omega
    · obtain rfl : k = l.length := by omega
      have b2 : ((l.length : Int) < (l.length : Int)) = False := by simp
      have hN := HN.out
      subst hN
      have KR := Lib.hid (HK.out.up AR.out.dev.up)
      go_wp2_with (first
        | (at_builtin; refine wpList_fresh_ones boolCell (fun _ => rfl) rfl (.tmp 96) (.tmp 97) 27 rfl 4 (.bool false) 1 Try.underlying27 info_boolV rfl rfl (.slice ka ks.length kc) ks rfl KR.out (by omega) ?_))
      intro v4 w4 hown4 U4
      have A4 := Lib.hid (AR.out.up U4)
      have K4 := Lib.hid hown4
      have NF4 := Lib.hid (show ∀ b, v4.ownBlock = some b → ¬ Foot { h with vp := vp } b from fun b hb hf => by
        have h1 := (hown4.block_lt b hb).1
        have h2 := AR.out.dev.dv.foot_lt _ hf
        omega)
      clear hown4 U4
      go_wp2_with fail
      refine (OC.out _ _ _ _ _ _ A4.out.dev.dv IR.out ROOM.out v4 (fun w' T => IsOnes.touch K4.out.ones T NF4.out)).mono ?_
      rintro e w5 ⟨v', rfl, T5, HST0, hdd⟩
      obtain ⟨vp5, A6, _⟩ := A4.out.turn T5
      have HA := Lib.hid A6
      have HDD := Lib.hid hdd
      clear T5 A6 hdd A4 K4 NF4 AR KR
      go_wp2_with fail
      refine (OS.out _ _ _ HA.out.dev.dv).mono ?_
      rintro e w6 ⟨rfl, U6⟩
      have HST := Lib.hid HST0
      clear HST0
      generalize v'.stableAt n = st at *
      have A7 := Lib.hid ((HA.out.up U6).up (up_alloc w6 (.cells (secC st.val) 29)))
      have B7 := Lib.hid (Blk.new w6 29 (secC st.val))
      have BG := Lib.hid A7.out.blk
      have HZ := Lib.hid (show (secC zeroS).size = (secC st.val).size by rw [secV_size]; rfl)
      have EQ := sec_eq st.val fl.val st.property fl.property
      have HI := Lib.hid (info_secV st)
      have HF := Lib.hid (info_secV fl)
      have HO := Lib.hid (secC_one st.val)
      have HOK := Lib.hid (show decide (st.val = fl.val) = true ↔ st = fl ∨ st ∈ sc.take 0 by
        simp only [decide_eq_true_eq, List.take_zero, List.not_mem_nil, or_false]
        exact ⟨fun h1 => Subtype.ext h1, fun h1 => by rw [h1]⟩)
      clear U6 HA
      generalize decide (st.val = fl.val) = dd at *
      go_wp2_with (first
        | ((with_reducible refine wg_alloc 29 ?_); refine wpList_alloc_blk rfl 29 rfl (secC zeroS) zero_sec ?_)
        | ((with_reducible refine wg_store 29 (.tmp 12) (.tmp 102) ?_); refine ws_new w6 rfl 29 (.tmp 12) (.tmp 102) rfl (secC st.val) 29 (secC zeroS) rfl rfl rfl HI.out HZ.out HO.out ?_)
        | ((with_reducible refine wg_load 29 (.tmp 12) ?_); refine wpList_load_blkG rfl 29 (.tmp 12) rfl w6.heap.size rfl 29 _ B7.out _ Try.underlying29 rfl HI.out ?_)
        | ((with_reducible refine wg_load 29 (.tmp 8) ?_); refine wpList_load_blkG rfl 29 (.tmp 8) rfl gw rfl 29 _ BG.out _ Try.underlying29 rfl HF.out ?_))
      generalize hw7 : w6.alloc (.cells (secC st.val) 29) = w7 at *
      generalize w6.heap.size = gs at *
      clear HI HF HO HZ EQ BG hw7
      obtain ⟨w8, hw8⟩ : ∃ x, x = wr := ⟨_, rfl⟩
      subst hw8
      go_loopw [13, 108] (fun ok i wq => ∃ (j : Nat) (okb : Bool), j ≤ sc.length ∧ ok = .bool okb ∧ i = .int .i64 j ∧ Up w7 wq ∧ (okb = true ↔ st = fl ∨ st ∈ sc.take j)) (fun _ i _ => sc.length - (intOf i).toNat)
      case atStart => exact ⟨0, dd, Nat.zero_le _, rfl, rfl, Up.refl _, HOK.out⟩
      case round =>
        obtain ⟨wq, hwq⟩ : ∃ x, x = wr := ⟨_, rfl⟩
        subst hwq
        obtain ⟨j, okb, hj, rfl, rfl, ur, hok⟩ := hrel
        have UR := Lib.hid ur
        have BS := Lib.hid (B7.out.up ur)
        have OWN := Lib.hid (A7.out.own.up ur)
        clear ur
        have HOK := Lib.hid hok
        clear hok
        by_cases hjl : j < sc.length
        · have b3 : ((j : Int) < (sc.length : Int)) = True := by simp; omega
          have scl : j + 1 ≤ 200 := by have := SCL.out; omega
          obtain ⟨sb, so, rfl, _, srg⟩ := secs_at OWN.out (by omega)
          have SRG := Lib.hid (srg j hjl)
          have TK := Lib.hid (show sc.take (j + 1) = sc.take j ++ [sc[j]] from List.take_succ_eq_append_getElem hjl)
          clear srg
          generalize sc[j] = u at *
          have upa := up_alloc wq (.cells (secC u.val) 29)
          have U8 := Lib.hid (UR.out.trans upa)
          have BS8 := Lib.hid (BS.out.up upa)
          have BU8 := Lib.hid (Blk.new wq 29 (secC u.val))
          have HZ := Lib.hid (show (secC zeroS).size = (secC u.val).size by rw [secV_size]; rfl)
          clear upa
          cases okb
          · have EQ := sec_eq st.val u.val st.property u.property
            have HI := Lib.hid (info_secV st)
            have HU := Lib.hid (info_secV u)
            have HO := Lib.hid (secC_one u.val)
            have RES := Lib.hid (show decide (st.val = u.val) = true ↔ st = fl ∨ st ∈ sc.take (j + 1) by
              have h0 := HOK.out
              rw [TK.out, List.mem_append, List.mem_singleton]
              simp only [Bool.false_eq_true, false_iff, not_or] at h0
              simp only [decide_eq_true_eq]
              constructor
              · intro h1; exact .inr (.inr (Subtype.ext h1))
              · rintro (h1 | h1 | h1)
                · exact absurd h1 h0.1
                · exact absurd h1 h0.2
                · rw [h1])
            generalize decide (st.val = u.val) = dd at *
            generalize hcs : secC st.val = cs at *
            generalize hcu : secC u.val = cu at *
            clear hcs hcu
            go_wp2_with (first
              | ((with_reducible refine wg_load 29 (.tmp 110) ?_); refine wl_part rfl 29 (.tmp 110) rfl sb (so + j * 128) rfl cu SRG.out _ Try.underlying29 rfl HU.out ?_)
              | ((with_reducible refine wg_alloc 29 ?_); refine wpList_alloc_blk rfl 29 rfl (secC zeroS) zero_sec ?_)
              | ((with_reducible refine wg_store 29 (.tmp 15) (.tmp 111) ?_); refine ws_new wq rfl 29 (.tmp 15) (.tmp 111) rfl cu 29 (secC zeroS) rfl rfl rfl HU.out HZ.out HO.out ?_)
              | ((with_reducible refine wg_load 29 (.tmp 12) ?_); refine wpList_load_blkG rfl 29 (.tmp 12) rfl gs rfl 29 _ BS8.out _ Try.underlying29 rfl HI.out ?_)
              | ((with_reducible refine wg_load 29 (.tmp 15) ?_); refine wpList_load_blkG rfl 29 (.tmp 15) rfl wq.heap.size rfl 29 _ BU8.out _ Try.underlying29 rfl HU.out ?_))
            refine ⟨⟨j + 1, dd, hjl, rfl, by simp, U8.out, RES.out⟩, ?_⟩
            simp only [intOf]
            omega
          · have HU := Lib.hid (info_secV u)
            have HO := Lib.hid (secC_one u.val)
            have RES := Lib.hid (show true = true ↔ st = fl ∨ st ∈ sc.take (j + 1) by
              have h0 := HOK.out.1 rfl
              refine ⟨fun _ => ?_, fun _ => rfl⟩
              rw [TK.out, List.mem_append]
              rcases h0 with h0 | h0
              · exact .inl h0
              · exact .inr (.inl h0))
            generalize hcu : secC u.val = cu at *
            clear hcu
            go_wp2_with (first
              | ((with_reducible refine wg_load 29 (.tmp 110) ?_); refine wl_part rfl 29 (.tmp 110) rfl sb (so + j * 128) rfl cu SRG.out _ Try.underlying29 rfl HU.out ?_)
              | ((with_reducible refine wg_alloc 29 ?_); refine wpList_alloc_blk rfl 29 rfl (secC zeroS) zero_sec ?_)
              | ((with_reducible refine wg_store 29 (.tmp 15) (.tmp 111) ?_); refine ws_new wq rfl 29 (.tmp 15) (.tmp 111) rfl cu 29 (secC zeroS) rfl rfl rfl HU.out HZ.out HO.out ?_))
            refine ⟨⟨j + 1, true, hjl, rfl, by simp, U8.out, RES.out⟩, ?_⟩
            simp only [intOf]
            omega
        · obtain rfl : j = sc.length := by omega
          have b3 : ((sc.length : Int) < (sc.length : Int)) = False := by simp
          obtain rfl : okb = true := by
            have := HOK.out
            rw [List.take_length] at this
            exact this.2 HST.out
          have D8 := Lib.hid (A7.out.dev.dv.up UR.out)
          go_wp2_with fail
          refine (OD.out _ _ _ D8.out HDD.out).mono ?_
          rintro e w9 ⟨rfl, rfl⟩
          go_wp2_with fail
          go_ret
          exact ⟨rfl, A7.out.dev.up.trans UR.out⟩
end Go.Proofs.Ythlpoboijggjnaa
