/- VdevReads: the walk. -/
import Derived.Test.YthlpoboijggjnaaDevTW
set_option linter.unusedSimpArgs false
set_option linter.unusedVariables false
namespace Go.Proofs.Ythlpoboijggjnaa
open Go.RowKit

theorem DevAt.turn2 {w w1 w2 : World} {h : Hnd} {v v' : DevD} (A : DevAt w w1 h v) (T : Turned w1 h v' w2) (g : Nat) (hg : ¬ Foot h g) (hlt : g < w1.heap.size) : ∃ vp, DevAt w w2 { h with vp := vp } v' ∧ Touch (Foot h) w1 w2 ∧ ¬ Foot { h with vp := vp } g := by
  obtain ⟨vp, D, T, O⟩ := T
  refine ⟨vp, ⟨D, T.up A.up A.own, fun b hb => ?_⟩, T, fun hf => ?_⟩
  · rcases Turned.foot (w' := w2) O b hb with h1 | h1
    · exact A.own b h1
    · exact Nat.le_trans A.up.size h1
  · rcases Turned.foot (w' := w2) O g hf with h1 | h1
    · exact hg h1
    · omega
/-- What is read of a device that has power for ever. -/
structure ReadsInv (k n : Nat) (s : Sec) (v : DevD) : Prop where
  len : v.stable.length = 8
  lenN : v.newest.length = 8
  pend : v.pend.length ≤ k
  left : v.left = -1
  dead : v.dead = false
  now : v.newest[n]? = some s
theorem ReadsInv.mono {k n : Nat} {s : Sec} {v : DevD} (I : ReadsInv k n s v) : ReadsInv (k + 1) n s v := ⟨I.len, I.lenN, by have := I.pend; omega, I.left, I.dead, I.now⟩
theorem spent_live (v : DevD) (hl : v.left = -1) (hd : v.dead = false) : v.powerB = true ∧ v.counted.spent.left = -1 ∧ v.counted.spent.dead = false := by
  unfold DevD.powerB DevD.counted DevD.spent
  simp [hl, hd]
theorem hasB_nat (v : DevD) (h8 : v.stable.length = 8) (i : Int) : v.hasB i = decide (0 ≤ i ∧ i < 8) := by unfold DevD.hasB; rw [h8]; rfl
theorem ReadsInv.write {k n : Nat} {s : Sec} {v : DevD} (I : ReadsInv k n s v) (i : Int) (u : Sec) : ReadsInv (k + 1) n (if i = n then u else s) (v.written i u) ∧ ((v.writeE i = 0) ∨ (v.writeE i = 41 ∧ i ≠ n)) := by
  obtain ⟨h1, h2, h3⟩ := spent_live v I.left I.dead
  obtain ⟨e1, e2, e3⟩ := spent_same v.counted
  have e1 : v.counted.spent.pend = v.pend := e1
  have e2 : v.counted.spent.stable = v.stable := e2
  have e3 : v.counted.spent.newest = v.newest := e3
  have hn : n < 8 := by rw [← I.lenN]; exact (List.getElem?_eq_some_iff.1 I.now).1
  have hp := I.pend
  unfold DevD.written DevD.writeE
  rw [hasB_nat v I.len i, h1]
  by_cases hi : 0 ≤ i ∧ i < 8
  · simp only [hi, and_self, decide_true, if_true]
    refine ⟨⟨by show v.counted.spent.stable.length = 8; rw [e2]; exact I.len, by show (v.counted.spent.newest.set _ _).length = 8; rw [List.length_set, e3]; exact I.lenN, by show (v.counted.spent.pend ++ _).length ≤ _; rw [e1]; simp; omega, h2, h3, ?_⟩, .inl trivial⟩
    show (v.counted.spent.newest.set i.toNat u)[n]? = _
    rw [e3, List.getElem?_set]
    by_cases hin : i = n
    · rw [if_pos (by omega), if_pos (by rw [I.lenN]; omega), if_pos hin]
    · rw [if_neg (by omega), if_neg hin]; exact I.now
  · have hin : i ≠ n := by omega
    rw [decide_eq_false hi, if_neg hin]
    simp only [Bool.false_eq_true, if_false]
    exact ⟨⟨I.len, I.lenN, by show v.pend.length ≤ _; omega, I.left, I.dead, I.now⟩, .inr ⟨trivial, hin⟩⟩
theorem ReadsInv.flush {k n : Nat} {s : Sec} {v : DevD} (I : ReadsInv k n s v) : ReadsInv k n s v.flushed := by
  obtain ⟨h1, h2, h3⟩ := spent_live v I.left I.dead
  obtain ⟨e1, e2, e3⟩ := spent_same v.counted
  have e3 : v.counted.spent.newest = v.newest := e3
  unfold DevD.flushed
  rw [h1]
  simp only [if_true]
  exact ⟨by show (applyW _ _).length = 8; rw [applyW_length]; exact I.len, by show v.counted.spent.newest.length = 8; rw [e3]; exact I.lenN, Nat.zero_le _, h2, h3, by show v.counted.spent.newest[n]? = _; rw [e3]; exact I.now⟩
theorem ReadsInv.rot {k n : Nat} {s : Sec} {v : DevD} (I : ReadsInv k n s v) (i : Int) (u : Sec) : ReadsInv k n (if i = n then u else s) (v.rotted i u) ∧ ((v.rotE i = 0) ∨ (v.rotE i = 41 ∧ i ≠ n)) := by
  have hn : n < 8 := by rw [← I.lenN]; exact (List.getElem?_eq_some_iff.1 I.now).1
  unfold DevD.rotted DevD.rotE
  rw [hasB_nat v I.len i]
  by_cases hi : 0 ≤ i ∧ i < 8
  · simp only [hi, and_self, decide_true, if_true]
    refine ⟨⟨by show (v.stable.set _ _).length = 8; rw [List.length_set]; exact I.len, by show (v.newest.set _ _).length = 8; rw [List.length_set]; exact I.lenN, by show (v.pend.map _).length ≤ _; rw [List.length_map]; exact I.pend, I.left, I.dead, ?_⟩, .inl trivial⟩
    show (v.newest.set i.toNat u)[n]? = _
    rw [List.getElem?_set]
    by_cases hin : i = n
    · rw [if_pos (by omega), if_pos (by rw [I.lenN]; omega), if_pos hin]
    · rw [if_neg (by omega), if_neg hin]; exact I.now
  · have hin : i ≠ n := by omega
    rw [decide_eq_false hi, if_neg hin]
    simp only [Bool.false_eq_true, if_false]
    exact ⟨I, .inr ⟨trivial, hin⟩⟩
-- THE WALK
theorem wpList_gate_load {P : Program} {ops : Array Oper} {Q : Exit → Act → World → Prop} {rest : List Oper} {a : Act} {w : World} {dst : Option Tmp} {type : TypeId} {pos : String} {after : Array Edge} {guard : Option (Nat × Bool)} (ty : TypeId) (x : Operand)
    (h : wpList P ops Q ({ dst := dst, op := .load ty x, type := type, pos := pos, after := after, guard := guard } :: rest) a w) : wpList P ops Q ({ dst := dst, op := .load ty x, type := type, pos := pos, after := after, guard := guard } :: rest) a w := h
theorem wpList_gate_store {P : Program} {ops : Array Oper} {Q : Exit → Act → World → Prop} {rest : List Oper} {a : Act} {w : World} {dst : Option Tmp} {type : TypeId} {pos : String} {after : Array Edge} {guard : Option (Nat × Bool)} (ty : TypeId) (x y : Operand)
    (h : wpList P ops Q ({ dst := dst, op := .store ty x y, type := type, pos := pos, after := after, guard := guard } :: rest) a w) : wpList P ops Q ({ dst := dst, op := .store ty x y, type := type, pos := pos, after := after, guard := guard } :: rest) a w := h
theorem wpList_gate_alloc {P : Program} {ops : Array Oper} {Q : Exit → Act → World → Prop} {rest : List Oper} {a : Act} {w : World} {dst : Option Tmp} {type : TypeId} {pos : String} {after : Array Edge} {guard : Option (Nat × Bool)} (ty : TypeId)
    (h : wpList P ops Q ({ dst := dst, op := .alloc ty, type := type, pos := pos, after := after, guard := guard } :: rest) a w) : wpList P ops Q ({ dst := dst, op := .alloc ty, type := type, pos := pos, after := after, guard := guard } :: rest) a w := h
theorem wpList_store_newW {P : Program} {ops : Array Oper} {rest : List Oper} {op : Oper} {a : Act} {W : World} {Q : Exit → Act → World → Prop} (w : World) (hgd : op.guard = none) (ty : TypeId) (x y : Operand) (ho : op.op = .store ty x y)
    (C' : Array Value) (t : TypeId) (C : Array Value) (hW : W = w.alloc (.cells C t)) (hx : a.eval x = .pointer (some ⟨w.heap.size, 0, none⟩)) (hy : a.eval y = .agg C') (hi : (P.info? ty).map (·.size) = some C'.size) (hold : C.size = C'.size)
    (h1 : C'.all (·.oneCell') = true) (h : wpList P ops Q rest (a.put op.dst undef) (w.alloc (.cells C' t))) : wpList P ops Q (op :: rest) a W := by
  subst hW
  exact wpList_store_new hgd ty x y ho _ rfl C' hx hy t C hi hold h1 h
theorem ReadsInv.reads {k n : Nat} {s : Sec} {v : DevD} (I : ReadsInv k n s v) : v.readS n = s ∧ v.readE n = 0 := by
  have hn : n < 8 := by rw [← I.lenN]; exact (List.getElem?_eq_some_iff.1 I.now).1
  have hb : v.hasB (n : Int) = true := by rw [hasB_nat v I.len]; simp; omega
  unfold DevD.readS DevD.readE DevD.nowAt
  rw [hb, I.dead]
  simp only [Bool.false_eq_true, if_false, if_true, Int.toNat_natCast, and_true]
  rw [List.getD_eq_getElem?_getD, I.now]
  rfl
theorem DevAt.other {w w1 w2 : World} {h : Hnd} {v : DevD} {g : Nat} (A : DevAt w w1 h v) (hg : w1.grownBy w2 (some g)) (hf : ¬ Foot h g) (hge : w.heap.size ≤ g) : DevAt w w2 h v :=
  ⟨A.dv.touch (Touch.of_grown (F := fun b => b = g) hg (fun k hk => by cases hk; rfl)) (fun b hb e => hf (e ▸ hb)), A.up.grown hg (fun k hk => by cases hk; exact hge), A.own⟩
theorem wpList_load_partG {P : Program} {ops : Array Oper} {rest : List Oper} {op : Oper} {a : Act} {w : World} {Q : Exit → Act → World → Prop} (hw : Region.wanted op (yielded ops a.tmps) = true) (ty : TypeId) (x : Operand) (ho : op.op = .load ty x)
    (g off : Nat) (hx : a.eval x = .pointer (some ⟨g, off, none⟩)) (C : Array Value) (hc : w.rangeAt g off C.toList) (d : TypeDesc) (hu : P.underlying ty = some d) (hd : d.isRow = true) (hi : (P.info? ty).map (·.size) = some C.size)
    (h : wpList P ops Q rest (a.put op.dst (.agg C)) w) : wpList P ops Q (op :: rest) a w :=
  BigFrame.wpList_want hw fun _ hK => wp_load_mid ty x ho g off hx C.toList d hc hu hd (by simpa using hi) (hK _ _ (by simpa using h))
set_option maxRecDepth 100000 in
set_option maxHeartbeats 16000000 in
theorem vdevReads_walk (w : World) (va : Value) (l : List ActD) (hl : IsRow acells w va l) (_hr : l.length * 168 ≤ 140737488351232) (hq : ∀ x ∈ l, x.wf) (i : Int) (hi : -9223372036854775808 ≤ i ∧ i ≤ 9223372036854775807) :
    Calls Try.prog 7 #[va, .int .i64 i] w fun e w' => e = .returned (.bool true) ∧ Up w w' := by
  have hln := hl.length_le
  obtain ⟨pa, pc, rfl⟩ := hl.slice
  have AL := Lib.hid (alive_any w)
  have NW := Lib.hid (fun W => dnew_any W 8 (by omega))
  have HL := Lib.hid hl
  have HQ := Lib.hid hq
  clear hl hq _hr
  by_cases h200 : 200 < l.length
  · have b1 : ((200 : Int) < (l.length : Int)) = True := by simp; omega
    go_enter Try.func7, Try.ntmps7
    go_wp2_with fail
    refine AL.out.mono ?_
    rintro e w1 ⟨rfl, U1⟩
    go_wp2_with fail
    refine (NW.out w1).mono ?_
    rintro e w2 ⟨h, rfl, D2, U2, O2⟩
    go_wp2_with fail
    go_ret
    exact ⟨rfl, U1.trans U2⟩
  have b1 : ((200 : Int) < (l.length : Int)) = False := by simp; omega
  by_cases hneg : i < 0
  · go_enter Try.func7, Try.ntmps7
    go_wp2_with fail
    refine AL.out.mono ?_
    rintro e w1 ⟨rfl, U1⟩
    go_wp2_with fail
    refine (NW.out w1).mono ?_
    rintro e w2 ⟨h, rfl, D2, U2, O2⟩
    go_wp2_with fail
    go_ret
    exact ⟨rfl, U1.trans U2⟩
  by_cases h7 : 7 < i
  · go_enter Try.func7, Try.ntmps7
    go_wp2_with fail
    refine AL.out.mono ?_
    rintro e w1 ⟨rfl, U1⟩
    go_wp2_with fail
    refine (NW.out w1).mono ?_
    rintro e w2 ⟨h, rfl, D2, U2, O2⟩
    go_wp2_with fail
    go_ret
    exact ⟨rfl, U1.trans U2⟩
  obtain ⟨n, rfl⟩ : ∃ n : Nat, i = n := ⟨i.toNat, by omega⟩
  have hn7 : n ≤ 7 := by omega
  clear hneg h7
  have OW := Lib.hid (show ∀ W h v k s, Dv W h v → ReadsInv k n s v → v.pend.length ≤ 1000000 → ∀ i : Int, -9223372036854775808 ≤ i ∧ i ≤ 9223372036854775807 → ∀ u : Sec, Calls Try.prog 11 #[.pointer (some ⟨h.d, 0, none⟩), .int .i64 i, .agg (secC u.val)] W fun e w' => ∃ v' ee, e = .returned (.int .i64 ee) ∧ Turned W h v' w' ∧ ReadsInv (k + 1) n (if i = n then u else s) v' ∧ (ee = 0 ∨ (ee = 41 ∧ i ≠ n)) from fun W h v k s D I hp i hi u =>
    (dwrite_any W h v D i hi u hp).mono fun e w' ⟨h1, h2⟩ => ⟨_, _, h1, h2, I.write i u⟩)
  have OR := Lib.hid (show ∀ W h v k s, Dv W h v → ReadsInv k n s v → v.pend.length ≤ 1000000 → ∀ i : Int, -9223372036854775808 ≤ i ∧ i ≤ 9223372036854775807 → ∀ u : Sec, Calls Try.prog 19 #[.pointer (some ⟨h.d, 0, none⟩), .int .i64 i, .agg (secC u.val)] W fun e w' => ∃ v' ee, e = .returned (.int .i64 ee) ∧ Turned W h v' w' ∧ ReadsInv (k + 1) n (if i = n then u else s) v' ∧ (ee = 0 ∨ (ee = 41 ∧ i ≠ n)) from fun W h v k s D I hp i hi u =>
    (drot_any W h v D i hi u hp).mono fun e w' ⟨h1, h2, h3⟩ => ⟨_, _, h1, Turned.same h2 h3, (I.rot i u).1.mono, (I.rot i u).2⟩)
  have OF := Lib.hid (show ∀ W h v k s, Dv W h v → ReadsInv k n s v → v.pend.length ≤ 1000000 → Calls Try.prog 13 #[.pointer (some ⟨h.d, 0, none⟩)] W fun e w' => ∃ v' ee, e = .returned (.int .i64 ee) ∧ Turned W h v' w' ∧ ReadsInv (k + 1) n s v' from fun W h v k s D I hp =>
    (dflush_any W h v D hp).mono fun e w' ⟨h1, h2⟩ => ⟨_, _, h1, h2, I.flush.mono⟩)
  have RD := Lib.hid (show ∀ W h v k s, Dv W h v → ReadsInv k n s v → Calls Try.prog 12 #[.pointer (some ⟨h.d, 0, none⟩), .int .i64 (n : Int)] W fun e w' => ∃ v', e = .returned (.tuple #[.agg (secC s.val), .int .i64 0]) ∧ Dv w' h v' ∧ Touch (Foot h) W w' from fun W h v k s D I =>
    (dread_any W h v D n hi).mono fun e w' ⟨h1, h2, h3⟩ => ⟨_, by rw [h1, I.reads.1, I.reads.2], h2, h3⟩)
  have b7 : ((7 : Int) < (n : Int)) = False := by simp; omega
  go_enter Try.func7, Try.ntmps7
  go_wp2_with fail
  refine AL.out.mono ?_
  rintro e w1 ⟨rfl, U1⟩
  have HU1 := Lib.hid U1
  go_wp2_with fail
  refine (NW.out w1).mono ?_
  rintro e w2 ⟨h, rfl, D2, U2, O2⟩
  have A2 := Lib.hid (show DevAt w w2 h (newD (clampN 8)) from ⟨D2, HU1.out.trans U2, fun b hb => Nat.le_trans HU1.out.size (O2 b hb)⟩)
  clear D2 U2 O2 U1 NW AL
  have SC := run_storeCells_new (P := Try.prog) w2 29 (secC zeroS) (secC zeroS) (info_secV zSec) rfl (secC_one _)
  have upa := up_alloc w2 (.cells (secC zeroS) 29)
  have A3 := Lib.hid (A2.out.upTo upa)
  have B3 := Lib.hid (Blk.new w2 29 (secC zeroS))
  have N3 := Lib.hid (show ¬ Foot h w2.heap.size from fun hf => Nat.lt_irrefl _ (A2.out.dv.foot_lt _ hf))
  have GW0 := Lib.hid (show w.heap.size ≤ w2.heap.size from A2.out.up.size)
  have I3 := Lib.hid (show ReadsInv 0 n zSec (newD (clampN 8)) from ⟨by kernel_rfl, by kernel_rfl, Nat.le_refl _, rfl, rfl, by
    show (List.replicate (clampN 8) zSec)[n]? = _
    rw [List.getElem?_replicate, if_pos (by show n < 8; omega)]⟩)
  clear upa HU1
  go_wp2_with (first
    | (refine wpList_build0 rfl 29 rfl (secC zeroS) built_sec ?_)
    | ((with_reducible refine wpList_gate_alloc 29 ?_); refine wpList_alloc_blk rfl 29 rfl (secC zeroS) zero_sec ?_))
  go_loopw [34] (fun i wr => ∃ (k : Nat) (vp : Value) (v : DevD) (want : Sec), k ≤ l.length ∧ i = .int .i64 k ∧ DevAt w wr { h with vp := vp } v ∧ ReadsInv k n want v ∧ Blk wr w2.heap.size 29 (secC want.val) ∧ ¬ Foot { h with vp := vp } w2.heap.size) (fun i _ => l.length - (intOf i).toNat)
  case atStart => exact ⟨0, h.vp, _, zSec, Nat.zero_le _, rfl, A3.out, I3.out, B3.out, N3.out⟩
  case round =>
    obtain ⟨k, vp, v, want, hk, rfl, ar, ir, br, nr⟩ := hrel
    have AR := Lib.hid ar
    have IR := Lib.hid ir
    have BR := Lib.hid br
    have NF := Lib.hid nr
    have ROOM := Lib.hid (show v.pend.length ≤ 1000000 by have := ir.pend; omega)
    clear ar ir br nr A3 I3 B3 N3 SC A2
    generalize w2.heap.size = gw at *
    by_cases hlt : k < l.length
    · have b2 : ((k : Int) < (l.length : Int)) = True := by simp; omega
      obtain ⟨ab, ao, rfl, _, rg⟩ := acts_at HL.out (by omega)
      have RG := Lib.hid (show wr.rangeAt ab (ao + k * 131) (actC l[k]).toList from fun j u hj => AR.out.up.cell (rg k hlt j u hj))
      have wfx := HQ.out l[k] (List.getElem_mem hlt)
      clear rg
      generalize l[k] = x at *
      have upa := up_alloc wr (.cells (actC x) 31)
      have A5 := Lib.hid (AR.out.upTo upa)
      have B5 := Lib.hid (BR.out.up upa)
      have BX := Lib.hid (Blk.new wr 31 (actC x))
      have NX := Lib.hid (show ¬ Foot { h with vp := vp } wr.heap.size from fun hf => Nat.lt_irrefl _ (AR.out.dv.foot_lt _ hf))
      have LT0 := Lib.hid BR.out.lt
      have LT := Lib.hid B5.out.lt
      obtain ⟨c0, c1, r2⟩ := act_parts BX.out
      have R2 := Lib.hid r2
      have wfx1 := wfx.1
      have wfx2 := wfx.2
      clear r2 upa wfx
      generalize hxk : x.kind = xk at *
      have HXK := Lib.hid hxk
      clear hxk
      generalize hxl : x.loc = xl at *
      have HXL := Lib.hid hxl
      clear hxl
      by_cases hkd : xk = 1
      · obtain rfl := hkd
        go_wp2_with (first
          | ((with_reducible refine wpList_gate_load 31 (.tmp 36) ?_); refine wpList_load_part rfl 31 (.tmp 36) rfl ab (ao + k * 131) rfl (actC x) RG.out _ Try.underlying31 rfl (info_act x) ?_)
          | ((with_reducible refine wpList_gate_alloc 31 ?_); refine wpList_alloc_blk rfl 31 rfl (actC zAct) zero_act ?_)
          | ((with_reducible refine wpList_gate_store 31 (.tmp 8) (.tmp 37) ?_); refine wpList_store_newW wr rfl 31 (.tmp 8) (.tmp 37) rfl (actC x) 31 (actC zAct) rfl rfl rfl (info_act x) (actZ x) (actC_one x) ?_)
          | ((with_reducible refine wpList_gate_load 29 (.tmp 45) ?_); refine wpList_load_partG rfl 29 (.tmp 45) rfl wr.heap.size 2 rfl _ R2.out _ Try.underlying29 rfl (info_secV x.s) ?_))
        refine (OW.out _ _ _ _ _ A5.out.dv IR.out ROOM.out _ wfx2 x.s).mono ?_
        rintro e w5 ⟨v', ee, rfl, T5, I5, E5⟩
        obtain ⟨vp5, A6, TT, NF6⟩ := A5.out.turn2 T5 gw NF.out LT.out
        have HA := Lib.hid A6
        have HNF := Lib.hid NF6
        have HB := Lib.hid (B5.out.touch TT NF.out)
        have HBX := Lib.hid (BX.out.touch TT NX.out)
        obtain ⟨d0, d1, dr⟩ := act_parts HBX.out
        rw [HXK.out] at d0
        rw [HXL.out] at d1
        have DR := Lib.hid dr
        clear dr T5 A6 NF6 TT c0 c1 R2 RG A5 B5 BX
        by_cases hin : xl = n
        · rw [if_pos hin] at I5
          obtain rfl : ee = 0 := by
            rcases E5 with h1 | h1
            · exact h1
            · exact absurd hin h1.2
          subst hin
          have I6 := Lib.hid I5
          clear E5 I5
          have hb7 := HB.out.set (secC x.s.val)
          have hg7 := grown_setRow w5 gw (secC x.s.val)
          have HX7 := act_parts (HBX.out.grown hg7 (fun e => by have := LT0.out; have := Option.some.inj e; omega))
          have e0 := HX7.1
          rw [HXK.out] at e0
          have HB7 := Lib.hid hb7
          have HA7 := Lib.hid (HA.out.other hg7 HNF.out GW0.out)
          clear hb7 hg7 HX7 HA
          have HO := Lib.hid (show (secC want.val).size = (secC x.s.val).size by rw [secV_size, secV_size])
          go_wp2_with (first
            | ((with_reducible refine wpList_gate_load 29 (.tmp 76) ?_); refine wpList_load_part rfl 29 (.tmp 76) rfl wr.heap.size 2 rfl _ DR.out _ Try.underlying29 rfl (info_secV x.s) ?_)
            | ((with_reducible refine wpList_gate_store 29 (.tmp 6) (.tmp 77) ?_); refine wpList_store_row rfl 29 (.tmp 6) (.tmp 77) rfl gw (secC x.s.val) rfl rfl 29 _ HB.out (info_secV x.s) HO.out (secC_one _) ?_))
          refine ⟨⟨k + 1, vp5, _, x.s, hlt, by simp, HA7.out, I6.out, HB7.out, HNF.out⟩, ?_⟩
          simp only [intOf]
          omega
        · rw [if_neg hin] at I5
          have I6 := Lib.hid I5
          have hne : (xl == (n : Int)) = false := by simp [hin]
          rcases E5 with rfl | ⟨rfl, _⟩
          all_goals
            clear I5 hin
            go_wp2_with fail
            refine ⟨⟨k + 1, vp5, _, want, hlt, by simp, HA.out, I6.out, HB.out, HNF.out⟩, ?_⟩
            simp only [intOf]
            omega
      have hk1 := hkd
      clear hkd
      by_cases hkd : xk = 5
      · obtain rfl := hkd
        go_wp2_with (first
          | ((with_reducible refine wpList_gate_load 31 (.tmp 36) ?_); refine wpList_load_part rfl 31 (.tmp 36) rfl ab (ao + k * 131) rfl (actC x) RG.out _ Try.underlying31 rfl (info_act x) ?_)
          | ((with_reducible refine wpList_gate_alloc 31 ?_); refine wpList_alloc_blk rfl 31 rfl (actC zAct) zero_act ?_)
          | ((with_reducible refine wpList_gate_store 31 (.tmp 8) (.tmp 37) ?_); refine wpList_store_newW wr rfl 31 (.tmp 8) (.tmp 37) rfl (actC x) 31 (actC zAct) rfl rfl rfl (info_act x) (actZ x) (actC_one x) ?_)
          | ((with_reducible refine wpList_gate_load 29 (.tmp 64) ?_); refine wpList_load_partG rfl 29 (.tmp 64) rfl wr.heap.size 2 rfl _ R2.out _ Try.underlying29 rfl (info_secV x.s) ?_))
        refine (OR.out _ _ _ _ _ A5.out.dv IR.out ROOM.out _ wfx2 x.s).mono ?_
        rintro e w5 ⟨v', ee, rfl, T5, I5, E5⟩
        obtain ⟨vp5, A6, TT, NF6⟩ := A5.out.turn2 T5 gw NF.out LT.out
        have HA := Lib.hid A6
        have HNF := Lib.hid NF6
        have HB := Lib.hid (B5.out.touch TT NF.out)
        have HBX := Lib.hid (BX.out.touch TT NX.out)
        obtain ⟨d0, d1, dr⟩ := act_parts HBX.out
        rw [HXK.out] at d0
        rw [HXL.out] at d1
        have DR := Lib.hid dr
        clear dr T5 A6 NF6 TT c0 c1 R2 RG A5 B5 BX
        by_cases hin : xl = n
        · rw [if_pos hin] at I5
          obtain rfl : ee = 0 := by
            rcases E5 with h1 | h1
            · exact h1
            · exact absurd hin h1.2
          subst hin
          have I6 := Lib.hid I5
          clear E5 I5
          have hb7 := HB.out.set (secC x.s.val)
          have hg7 := grown_setRow w5 gw (secC x.s.val)
          have HX7 := act_parts (HBX.out.grown hg7 (fun e => by have := LT0.out; have := Option.some.inj e; omega))
          have e0 := HX7.1
          rw [HXK.out] at e0
          have HB7 := Lib.hid hb7
          have HA7 := Lib.hid (HA.out.other hg7 HNF.out GW0.out)
          clear hb7 hg7 HX7 HA
          have HO := Lib.hid (show (secC want.val).size = (secC x.s.val).size by rw [secV_size, secV_size])
          go_wp2_with (first
            | ((with_reducible refine wpList_gate_load 29 (.tmp 76) ?_); refine wpList_load_part rfl 29 (.tmp 76) rfl wr.heap.size 2 rfl _ DR.out _ Try.underlying29 rfl (info_secV x.s) ?_)
            | ((with_reducible refine wpList_gate_store 29 (.tmp 6) (.tmp 77) ?_); refine wpList_store_row rfl 29 (.tmp 6) (.tmp 77) rfl gw (secC x.s.val) rfl rfl 29 _ HB.out (info_secV x.s) HO.out (secC_one _) ?_))
          refine ⟨⟨k + 1, vp5, _, x.s, hlt, by simp, HA7.out, I6.out, HB7.out, HNF.out⟩, ?_⟩
          simp only [intOf]
          omega
        · rw [if_neg hin] at I5
          have I6 := Lib.hid I5
          have hne : (xl == (n : Int)) = false := by simp [hin]
          rcases E5 with rfl | ⟨rfl, _⟩
          all_goals
            clear I5 hin
            go_wp2_with fail
            refine ⟨⟨k + 1, vp5, _, want, hlt, by simp, HA.out, I6.out, HB.out, HNF.out⟩, ?_⟩
            simp only [intOf]
            omega
      have hk5 := hkd
      clear hkd
      by_cases hkd : xk = 2
      · obtain rfl := hkd
        go_wp2_with (first
          | ((with_reducible refine wpList_gate_load 31 (.tmp 36) ?_); refine wpList_load_part rfl 31 (.tmp 36) rfl ab (ao + k * 131) rfl (actC x) RG.out _ Try.underlying31 rfl (info_act x) ?_)
          | ((with_reducible refine wpList_gate_alloc 31 ?_); refine wpList_alloc_blk rfl 31 rfl (actC zAct) zero_act ?_)
          | ((with_reducible refine wpList_gate_store 31 (.tmp 8) (.tmp 37) ?_); refine wpList_store_newW wr rfl 31 (.tmp 8) (.tmp 37) rfl (actC x) 31 (actC zAct) rfl rfl rfl (info_act x) (actZ x) (actC_one x) ?_))
        clear c1
        refine (OF.out _ _ _ _ _ A5.out.dv IR.out ROOM.out).mono ?_
        rintro e w5 ⟨v', ee, rfl, T5, I5⟩
        obtain ⟨vp5, A6, TT, NF6⟩ := A5.out.turn2 T5 gw NF.out LT.out
        have HA := Lib.hid A6
        have HNF := Lib.hid NF6
        have HB := Lib.hid (B5.out.touch TT NF.out)
        have HBX := Lib.hid (BX.out.touch TT NX.out)
        obtain ⟨d0, d1, dr⟩ := act_parts HBX.out
        rw [HXK.out] at d0
        rw [HXL.out] at d1
        have DR := Lib.hid dr
        clear dr T5 A6 NF6 TT c0 R2 RG A5 B5 BX
        have I6 := Lib.hid I5
        clear I5
        go_wp2_with fail
        refine ⟨⟨k + 1, vp5, _, want, hlt, by simp, HA.out, I6.out, HB.out, HNF.out⟩, ?_⟩
        simp only [intOf]
        omega
      have hk2 := hkd
      clear hkd
      have f1 : decide (xk = 1) = false := by simp [hk1]
      have f5 : decide (xk = 5) = false := by simp [hk5]
      have f2 : decide (xk = 2) = false := by simp [hk2]
      go_wp2_with (first
        | ((with_reducible refine wpList_gate_load 31 (.tmp 36) ?_); refine wpList_load_part rfl 31 (.tmp 36) rfl ab (ao + k * 131) rfl (actC x) RG.out _ Try.underlying31 rfl (info_act x) ?_)
        | ((with_reducible refine wpList_gate_alloc 31 ?_); refine wpList_alloc_blk rfl 31 rfl (actC zAct) zero_act ?_)
        | ((with_reducible refine wpList_gate_store 31 (.tmp 8) (.tmp 37) ?_); refine wpList_store_newW wr rfl 31 (.tmp 8) (.tmp 37) rfl (actC x) 31 (actC zAct) rfl rfl rfl (info_act x) (actZ x) (actC_one x) ?_))
      refine ⟨⟨k + 1, vp, _, want, hlt, by simp, A5.out, IR.out.mono, B5.out, NF.out⟩, ?_⟩
      simp only [intOf]
      omega
    · obtain rfl : k = l.length := by omega
      have b2 : ((l.length : Int) < (l.length : Int)) = False := by simp
      have HC := RD.out _ _ _ _ _ AR.out.dv IR.out
      generalize hcw : secC want.val = cw at *
      have HI := Lib.hid (show (Try.prog.info? 29).map (·.size) = some cw.size from hcw ▸ info_secV want)
      have HO := Lib.hid (show cw.all (·.oneCell') = true from hcw ▸ secC_one _)
      have HZ := Lib.hid (show (secC zeroS).size = cw.size by rw [← hcw, secV_size]; rfl)
      have EQ : ∀ W, (Op.equalIn 10000 29 (.agg cw) (.agg cw)).run Try.prog W = .ok true W := fun W => by
        rw [← hcw, sec_eq want.val want.val want.property want.property W, decide_eq_true rfl]
      have HC := Lib.hid HC
      clear IR HL HQ ROOM OW OF OR RD hcw
      clear want
      go_wp2_with fail
      refine HC.out.mono ?_
      rintro e w5 ⟨v', rfl, D5, T5⟩
      have A6 := Lib.hid ((AR.out.touch D5 T5).upTo (up_alloc w5 (.cells cw 29)))
      have B6 := Lib.hid ((BR.out.touch T5 NF.out).up (up_alloc w5 (.cells cw 29)))
      have BN := Lib.hid (Blk.new w5 29 cw)
      clear D5 T5 HC AR BR NF
      go_wp2_with (first
        | ((with_reducible refine wpList_gate_alloc 29 ?_); refine wpList_alloc_blk rfl 29 rfl (secC zeroS) zero_sec ?_)
        | ((with_reducible refine wpList_gate_store 29 (.tmp 9) (.tmp 88) ?_); refine wpList_store_newW w5 rfl 29 (.tmp 9) (.tmp 88) rfl cw 29 (secC zeroS) rfl rfl rfl HI.out HZ.out HO.out ?_)
        | ((with_reducible refine wpList_gate_load 29 (.tmp 9) ?_); refine wpList_load_blkG rfl 29 (.tmp 9) rfl w5.heap.size rfl 29 _ BN.out _ Try.underlying29 rfl HI.out ?_)
        | ((with_reducible refine wpList_gate_load 29 (.tmp 6) ?_); refine wpList_load_blkG rfl 29 (.tmp 6) rfl gw rfl 29 _ B6.out _ Try.underlying29 rfl HI.out ?_))
      go_ret
      exact ⟨rfl, A6.out.up⟩
end Go.Proofs.Ythlpoboijggjnaa
