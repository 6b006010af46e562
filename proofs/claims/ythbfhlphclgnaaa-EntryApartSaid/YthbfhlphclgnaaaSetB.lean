/- A record as bytes: plain functions; entry.record: the walk. -/
import Derived.Test.YthbfhlphclgnaaaSetC
import Derived.Test.YthbfhlphclgnaaaDeadY2
import Derived.Test.YthbfhlphclgnaaaFieldR
import Derived.Laws.IdiomStrings
set_option linter.unusedSimpArgs false
set_option linter.unusedVariables false
namespace Go.Proofs.Ythbfhlphclgnaaa
open Go.RowKit Go.Sort

def setWs : List Int := [8, 1, 8, 8, 8, 1]
def snapN (b : Bool) : Nat := if b = true then 1 else 0
def setNs (x : SetD) : List Nat := [x.id, snapN x.snap, x.owner, x.prev, x.stamp, x.blocks.toNat]
def setHead (x : SetD) : List UInt8 := putBytes setWs (setNs x) ++ ptrBytes x.root
def recBytes (x : SetD) : List UInt8 := joinBytes [setHead x, x.name, bytesL x.dead]
def recO (x : SetD) : Option (List UInt8) := if rightS x = true then some (recBytes x) else none
def RecPost (o : Option (List UInt8)) (w : World) (e : Ending) (w' : World) : Prop :=
  (o = none ∧ e = .returned (.tuple #[.slice none 0 0, .int .i64 151]) ∧ Up w w') ∨ ∃ m u, o = some m ∧ e = .returned (.tuple #[u, .int .i64 0]) ∧ Own byteCell 5 w' w.heap.size u m ∧ Up w w'

theorem right_stamp {x : SetD} (h : rightS x = true) : x.stamp ≤ 281474976710655 := by
  have := ((rightS_iff x).1 h).2.2.2.2.2.2.2.2
  split at this <;> omega
theorem okPut_set {x : SetD} (h : rightS x = true) : okPut setWs (setNs x) := by
  have hs := right_stamp h
  obtain ⟨⟨_, h1⟩, ⟨_, h2⟩, h3, ⟨_, h4⟩, _⟩ := (rightS_iff x).1 h
  have hn : snapN x.snap ≤ 1 := by unfold snapN; split <;> omega
  refine ⟨rfl, by unfold okWs setWs; intro w hw; simp at hw; omega, ?_⟩
  unfold setWs setNs
  simp only [fits, and_true]
  refine ⟨?_, ?_, ?_, ?_, ?_, ?_⟩
  · show x.id < 256 ^ 8; omega
  · show _ < 256 ^ 1; omega
  · show x.owner < 256 ^ 8; omega
  · show x.prev < 256 ^ 8; omega
  · show x.stamp < 256 ^ 8; omega
  · show x.blocks.toNat < 256 ^ 1; omega
theorem setHead_length (x : SetD) : (setHead x).length = 50 := by
  unfold setHead ptrBytes
  rw [List.length_append]
  simp [setWs, setNs, ptrWs, ptrNs, putBytes, numBytes_length]
theorem name_short {l : List UInt8} (h : nameB l = true) : l.length ≤ 24 := by unfold nameB at h; simp at h; exact h.1.2
theorem okJoin_set {x : SetD} (h : rightS x = true) : okJoin [setHead x, x.name, bytesL x.dead] := by
  obtain ⟨_, _, _, _, h5, _, h7, _⟩ := (rightS_iff x).1 h
  refine ⟨by simp, fun t ht => ?_⟩
  simp at ht
  rcases ht with rfl | rfl | rfl
  · rw [setHead_length]; omega
  · have := name_short h5; omega
  · rw [bytesL_length]; omega
/-- A row of another block stays. -/
theorem IsOnes.grown {α : Type} {f : α → Value} {w w' : World} {v : Value} {l : List α} {row : Option Nat} (h : IsOnes f w v l) (hg : w.grownBy w' row) (hne : ∀ b, v.ownBlock = some b → row ≠ some b) : IsOnes f w' v l := by
  rcases h with h | ⟨b, off, cap, h1, h2, h3, h4, h5⟩
  · exact .inl h
  · refine .inr ⟨b, off, cap, h1, h2, h3, h4, fun i hi => ?_⟩
    rw [World.cell?_of_block (hg.block b (World.block_lt_of_cell? w _ (h5 i hi)) (fun e => hne b (by rw [h1]; rfl) e.symm))]
    exact h5 i hi
section
variable {P : Program}
theorem wpOp_someX {ops : Array Oper} {Q : Exit → Act → World → Prop} {i : Nat} {o : Oper} {K : Act → World → Prop} {a : Act} {w : World} (hi : ops[i]? = some o) (hw : Region.wanted o (yielded ops a.tmps) = true) (h : o.wp P a w K Q) : wpOp P ops Q i K a w := by
  unfold wpOp
  simp only [hi, hw, if_true]
  exact .inl h
theorem wpAny_oneX {ops : Array Oper} {Q : Exit → Act → World → Prop} {md : Region.Mode} {fuel : Nat} {listed : Array Bool} {a : Act} {w : World} (i : Nat) (o : Oper) (hr : Region.ready md ops listed = [i]) (hi : ops[i]? = some o) (hw : Region.wanted o (yielded ops a.tmps) = true)
    (h : o.wp P a w (wpAny P md ops Q fuel (listed.setIfInBounds i true)) Q) : wpAny P md ops Q (fuel + 1) listed a w :=
  wpAny_all hr (by simp) (fun j hj => by simp at hj; subst hj; exact wpOp_someX hi hw h)
theorem wpAny_twoX {ops : Array Oper} {Q : Exit → Act → World → Prop} {md : Region.Mode} {fuel : Nat} {listed : Array Bool} {a : Act} {w : World} (i j : Nat) (o o' : Oper) (hr : Region.ready md ops listed = [i, j]) (hi : ops[i]? = some o) (hj : ops[j]? = some o')
    (hw : Region.wanted o (yielded ops a.tmps) = true) (hw' : Region.wanted o' (yielded ops a.tmps) = true)
    (h : o.wp P a w (wpAny P md ops Q fuel (listed.setIfInBounds i true)) Q) (h' : o'.wp P a w (wpAny P md ops Q fuel (listed.setIfInBounds j true)) Q) : wpAny P md ops Q (fuel + 1) listed a w :=
  wpAny_all hr (by simp) (fun k hk => by
    simp at hk
    rcases hk with rfl | rfl
    · exact wpOp_someX hi hw h
    · exact wpOp_someX hj hw' h')
theorem wpAny_oneK {ops : Array Oper} {Q : Exit → Act → World → Prop} {md : Region.Mode} {fuel : Nat} {listed : Array Bool} {a : Act} {w : World} (i : Nat) (o : Oper) (hr : Region.ready md ops listed = [i]) (hi : ops[i]? = some o) (hw : Region.wanted o (yielded ops a.tmps) = true)
    (h : ∀ K : Act → World → Prop, (∀ a w, wpAny P md ops Q fuel (listed.setIfInBounds i true) a w → K a w) → o.wp P a w K Q) : wpAny P md ops Q (fuel + 1) listed a w :=
  wpAny_oneX i o hr hi hw (h _ (fun _ _ h => h))
theorem wp_load_cell {o : Oper} {a : Act} {w : World} {K : Act → World → Prop} {Q : Exit → Act → World → Prop} (ty : TypeId) (x : Operand) (ho : o.op = .load ty x) (ad : Addr) (hx : a.eval x = .pointer (some ad)) (v : Value) (hc : w.cell? ad = some v)
    (hagg : (isAgg ty).run P w = .ok false w) (h : K (a.put o.dst v) w) : o.wp P a w K Q := by
  have hl : (load ad).run P w = .ok v w := by simp [hc]
  unfold Oper.wp execOp
  simp only [ho, hx, Instr.loadAt, Instr.sureAddr, loadVar, Sem.run_bind, Sem.run_pure, Result.andThen_ok, hagg, Bool.false_eq_true, if_false, hl]
  exact h
end
/-- '[]byte(s)'. -/
theorem wp_str_bytes {o : Oper} {a : Act} {w : World} {K : Act → World → Prop} {Q : Exit → Act → World → Prop} (x : Operand) (ho : o.op = .convert 9 29 x) (l : List UInt8) (hx : a.eval x = .string (strOf l)) (h0 : 0 < l.length) (hl : l.length ≤ 1000000)
    (h : ∀ v' w', IsBytes w' v' l → Up w w' → (∀ b, v'.ownBlock = some b → w.heap.size ≤ b) → K (a.put o.dst v') w') : o.wp Try.prog a w K Q := by
  have hr := run_bytes_of_string (P := Try.prog) w 9 29 5 (strOf l) Try.underlying9 Try.underlying29 Try.underlying5
  have hge := grownCap_ge w (strOf l).size 0 5
  have hle := grownCap_le_maxLen w (strOf l).size 0 5 (by rw [strOf_size]; unfold maxLen; omega)
  unfold Oper.wp
  simp [execOp, ho, hx, hr, Result.andThen]
  generalize grownCap w (strOf l).size 0 5 = cap at *
  rw [strOf_size] at *
  refine h _ _ (.inr ⟨w.heap.size, 0, cap, rfl, h0, hge, hle, fun i hi => ?_⟩) (((Up.refl w).drew).trans (up_alloc _ _)) (fun b hb => ?_)
  · have := World.cell?_alloc_mark w.drew (bytesRow (strOf l) cap) 5 ((bytesRow (strOf l) cap).size, (bytesRow (strOf l) cap).size + 1) i
    rw [Nat.zero_add]
    refine this.trans ?_
    unfold bytesRow
    rw [Array.getElem?_append_left (by simp [strOf]; exact hi), Array.getElem?_map]
    show Option.map _ (l.toArray[i]?) = _
    rw [List.getElem?_toArray, List.getElem?_eq_getElem hi]
    rfl
  · obtain rfl : w.heap.size = b := by simpa [Value.ownBlock] using hb
    exact Nat.le_refl _
/-- Three texts, side by side. -/
theorem three_texts (w : World) (a1 a2 a3 : Option Addr) (n1 n2 n3 c1 c2 c3 : Nat) (x y z : List UInt8) (h1 : IsBytes w (.slice a1 n1 c1) x) (h2 : IsBytes w (.slice a2 n2 c2) y) (h3 : IsBytes w (.slice a3 n3 c3) z) :
    IsTexts (w.alloc (.cells #[.slice a1 n1 c1, .slice a2 n2 c2, .slice a3 n3 c3] 29)) (.slice (some ⟨w.heap.size, 0, none⟩) 3 3) [x, y, z] := by
  refine ⟨[⟨a1, n1, c1⟩, ⟨a2, n2, c2⟩, ⟨a3, n3, c3⟩], rfl, IsOnes.lit w _ 29 (0, 0) _ 3 rfl (by unfold maxLen; omega) rfl, fun i hi _ => ?_⟩
  have U := up_alloc w (.cells #[.slice a1 n1 c1, .slice a2 n2 c2, .slice a3 n3 c3] 29)
  match i, hi with
  | 0, _ => exact h1.up U
  | 1, _ => exact h2.up U
  | 2, _ => exact h3.up U
  | (k + 3), hi => simp at hi; omega
-- THE WALK
set_option maxRecDepth 100000 in
set_option maxHeartbeats 8000000 in
theorem record_any (w : World) (x : SetD) (hwf : x.wf) (vd : Value) (hd : IsPtrs w vd x.dead) :
    Calls Try.prog 27 #[.agg (setC x vd)] w fun e w' => RecPost (recO x) w e w' := by
  obtain ⟨da, dc, rfl⟩ := hd.slice
  have HSI := Lib.hid (info_setV x (.slice da x.dead.length dc))
  have B1 := Lib.hid (Blk.new w 44 (setC x (.slice da x.dead.length dc)))
  have U1 := Lib.hid (up_alloc w (.cells (setC x (.slice da x.dead.length dc)) 44))
  have HR := Lib.hid (fun W U => sright_any W x (.slice da x.dead.length dc) (IsRow.up hd U))
  have PB := Lib.hid (fun W => bytes_any W x.root hwf.2.2.2.2.2.1)
  have LB := Lib.hid (fun W U => lbytes_any W (.slice da x.dead.length dc) x.dead (IsRow.up hd U) hwf.2.2.2.2.2.2)
  clear hd
  cases hrs : rightS x
  · have HF := Lib.hid (show recO x = none by unfold recO; rw [hrs]; rfl)
    rw [hrs] at HR
    clear hrs
    go_enter Try.func27, Try.ntmps27
    go_wp2_with (first
      | ((with_reducible refine wg_load 44 (.tmp 1) ?_); refine wpList_load_blkG rfl 44 (.tmp 1) rfl w.heap.size rfl 44 _ B1.out _ Try.underlying44 rfl HSI.out ?_))
    refine (HR.out _ U1.out).mono ?_
    rintro e w2 ⟨rfl, U2⟩
    go_wp2_with fail
    go_ret2
    exact .inl ⟨HF.out, rfl, U1.out.trans U2⟩
  have HT := Lib.hid (show recO x = some (recBytes x) by unfold recO; rw [hrs]; rfl)
  rw [hrs] at HR
  have OKP := Lib.hid (okPut_set hrs)
  have OKJ := Lib.hid (okJoin_set hrs)
  have HL := Lib.hid (setHead_length x)
  obtain ⟨⟨_, g1⟩, ⟨_, g2⟩, g3, ⟨g4, g5⟩, hnm, hgr, hdl, hrd, _⟩ := (rightS_iff x).1 hrs
  have g6 := right_stamp hrs
  have PBO := Lib.hid (show goodB x.root ≠ false by rw [hgr]; simp)
  have DBO := Lib.hid (show bytesO x.dead = some (bytesL x.dead) by unfold bytesO; rw [if_pos ⟨hdl, hrd⟩])
  have NM1 := Lib.hid (show 0 < x.name.length by have := (nameB_iff _).1 hnm; omega)
  have NM2 := Lib.hid (show x.name.length ≤ 1000000 by have := (nameB_iff _).1 hnm; omega)
  have DLL := Lib.hid (show (bytesL x.dead).length ≤ 64000 by rw [bytesL_length]; omega)
  clear hrs hnm hgr hrd
  have HE := Lib.hid (show setHead x = putBytes setWs [x.id, snapN x.snap, x.owner, x.prev, x.stamp, x.blocks.toNat] ++ ptrBytes x.root from rfl)
  have RB := Lib.hid (show recBytes x = joinBytes [setHead x, x.name, bytesL x.dead] from rfl)
  have PO := Lib.hid (show okPut setWs [x.id, snapN x.snap, x.owner, x.prev, x.stamp, x.blocks.toNat] from OKP.out)
  have PL := Lib.hid (show (putBytes setWs [x.id, snapN x.snap, x.owner, x.prev, x.stamp, x.blocks.toNat]).length = 34 by simp [setWs, putBytes, numBytes_length])
  have RL := Lib.hid (show (ptrBytes x.root).length = 16 by unfold ptrBytes; simp [ptrWs, ptrNs, putBytes, numBytes_length])
  generalize hpre : recBytes x = out at *
  generalize hhd : setHead x = hdr at *
  clear hpre hhd OKP
  obtain ⟨id, name, snap, owner, prev, stamp, blocks, root, dead⟩ := x
  dsimp only at *
  obtain ⟨nb, rfl⟩ : ∃ n : Nat, blocks = n := ⟨blocks.toNat, by omega⟩
  simp only [Int.toNat_natCast] at *
  have HIN := Lib.hid (info_pcA root)
  obtain ⟨c0, c1, c2, c3, c4, c5, c6, R7, c10⟩ := B1.out.setAt.rfl'
  go_enter Try.func27, Try.ntmps27
  go_wp2_with (first
    | ((with_reducible refine wg_load 44 (.tmp 1) ?_); refine wpList_load_blkG rfl 44 (.tmp 1) rfl w.heap.size rfl 44 _ B1.out _ Try.underlying44 rfl HSI.out ?_))
  refine (HR.out _ U1.out).mono ?_
  rintro e w2 ⟨rfl, U2⟩
  have B2 := Lib.hid (B1.out.up U2)
  have U3 := Lib.hid (U1.out.trans U2)
  have U3s := Lib.hid U3.out.size
  clear c0 c1 c2 c3 c4 c5 c6 R7 c10
  obtain ⟨c0, c1, c2, c3, c4, c5, c6, R7, c10⟩ := B2.out.setAt.rfl'
  clear U2 HR B1 U1
  have UA := up_alloc w2 (.cells #[.int .i64 8, .int .i64 1, .int .i64 8, .int .i64 8, .int .i64 8, .int .i64 1] 3)
  have sza := sz_alloc w2 (.cells #[.int .i64 8, .int .i64 1, .int .i64 8, .int .i64 8, .int .i64 8, .int .i64 1] 3)
  have e0 := UA.cell c0
  have e3 := UA.cell c3
  have e4 := UA.cell c4
  have e5 := UA.cell c5
  have e6 := UA.cell c6
  have wn := wrap_u64_nat nb (by omega)
  have PUTC : ∀ m : Nat, m = snapN snap → Hid (Calls Try.prog 26 #[.slice (some ⟨w2.heap.size, 0, none⟩) 6 6, .slice (some ⟨w2.heap.size + 1, 0, none⟩) 6 6] ((w2.alloc (.cells #[.int .i64 8, .int .i64 1, .int .i64 8, .int .i64 8, .int .i64 8, .int .i64 1] 3)).alloc (.cells #[.int .u64 (id : Int), .int .u64 (m : Int), .int .u64 (owner : Int), .int .u64 (prev : Int), .int .u64 (stamp : Int), .int .u64 (nb : Int)] 22)) fun e w' => ∃ v, e = .returned (.tuple #[v, .int .i64 0]) ∧ Own byteCell 5 w' (w2.heap.size + 2) v (putBytes setWs [id, snapN snap, owner, prev, stamp, nb]) ∧ Up w2 w' ∧ w2.heap.size + 2 ≤ w'.heap.size) := fun m hm => by
    subst hm
    have UB := up_alloc (w2.alloc (.cells #[.int .i64 8, .int .i64 1, .int .i64 8, .int .i64 8, .int .i64 8, .int .i64 1] 3)) (.cells #[.int .u64 (id : Int), .int .u64 (snapN snap : Int), .int .u64 (owner : Int), .int .u64 (prev : Int), .int .u64 (stamp : Int), .int .u64 (nb : Int)] 22)
    have i1 : IsOnes intCell _ (.slice (some ⟨w2.heap.size, 0, none⟩) 6 6) setWs := (IsOnes.litAt (f := intCell) w2 w2.heap.size rfl #[.int .i64 8, .int .i64 1, .int .i64 8, .int .i64 8, .int .i64 8, .int .i64 1] 3 (0, 0) setWs 6 rfl (by unfold maxLen; omega) rfl).up UB
    have i2 : IsOnes u64Cell _ (.slice (some ⟨w2.heap.size + 1, 0, none⟩) 6 6) [id, snapN snap, owner, prev, stamp, nb] := IsOnes.litAt (f := u64Cell) (w2.alloc (.cells #[.int .i64 8, .int .i64 1, .int .i64 8, .int .i64 8, .int .i64 8, .int .i64 1] 3)) (w2.heap.size + 1) (by rw [sza]) #[.int .u64 (id : Int), .int .u64 (snapN snap : Int), .int .u64 (owner : Int), .int .u64 (prev : Int), .int .u64 (stamp : Int), .int .u64 (nb : Int)] 22 (0, 0) [id, snapN snap, owner, prev, stamp, nb] 6 rfl (by unfold maxLen; omega) rfl
    have hs1 : snapN snap ≤ 1 := by unfold snapN; split <;> omega
    refine Lib.hid ((put_any _ _ setWs i1 (by simp [setWs]) _ _ i2 (by intro n hn; simp at hn; omega)).mono fun e w' h => ?_)
    rcases h with ⟨_, v, rfl, ho, hu⟩ | ⟨hno, _⟩
    · refine ⟨v, rfl, ?_, (UA.trans UB).trans hu, ?_⟩
      · rw [sz_alloc, sza] at ho
        exact ho
      · have := hu.size
        rw [sz_alloc, sza] at this
        exact this
    · exact absurd PO.out hno
  have PUT0 : ∀ m : Int, m = (snapN snap : Int) → Hid (Calls Try.prog 26 #[.slice (some ⟨w2.heap.size, 0, none⟩) 6 6, .slice (some ⟨w2.heap.size + 1, 0, none⟩) 6 6] ((w2.alloc (.cells #[.int .i64 8, .int .i64 1, .int .i64 8, .int .i64 8, .int .i64 8, .int .i64 1] 3)).alloc (.cells #[.int .u64 (id : Int), .int .u64 m, .int .u64 (owner : Int), .int .u64 (prev : Int), .int .u64 (stamp : Int), .int .u64 (nb : Int)] 22)) fun e w' => ∃ v, e = .returned (.tuple #[v, .int .i64 0]) ∧ Own byteCell 5 w' (w2.heap.size + 2) v (putBytes setWs [id, snapN snap, owner, prev, stamp, nb]) ∧ Up w2 w' ∧ w2.heap.size + 2 ≤ w'.heap.size) := fun m hm => by
    subst hm
    exact PUTC _ rfl
  have PUTH := Lib.hid (show ∀ m : Int, m = (snapN snap : Int) → _ from fun m hm => (PUT0 m hm).out)
  clear PUTC PUT0 PO
  have hsv : ∃ m : Int, m = (snapN snap : Int) ∧ ((snap = true ∧ m = 1) ∨ (snap = false ∧ m = 0)) := by
    cases snap
    · exact ⟨0, rfl, .inr ⟨rfl, rfl⟩⟩
    · exact ⟨1, rfl, .inl ⟨rfl, rfl⟩⟩
  obtain ⟨mv, hmv, hcase⟩ := hsv
  have PUT := Lib.hid (PUTH.out mv hmv)
  clear PUTH
  rcases hcase with ⟨rfl, rfl⟩ | ⟨rfl, rfl⟩
  all_goals
    clear hmv
    go_wp2_with fail
    refine PUT.out.mono ?_
    rintro e w4 ⟨v5, rfl, O5, U5, s4⟩
    have O5 := Lib.hid O5
    have B4 := Lib.hid (B2.out.up U5)
    have U6 := Lib.hid (U3.out.trans U5)
    have S4 := Lib.hid s4
    clear s4 c0 c1 c2 c3 c4 c5 c6 R7 c10 e0 e3 e4 e5 e6 UA sza wn PUT B2 U3 U5
    obtain ⟨c0, c1, c2, c3, c4, c5, c6, R7, c10⟩ := B4.out.setAt.rfl'
    go_wp2_with (first
      | ((with_reducible refine wg_load 41 (.tmp 36) ?_); refine wl_part rfl 41 (.tmp 36) rfl w.heap.size 7 rfl (pcA root) R7.out _ Try.underlying41 rfl HIN.out ?_))
    refine (PB.out w4).mono ?_
    rintro e w5 hpb
    rcases hpb with ⟨_, v7, rfl, O7, U7⟩ | ⟨hbad, _⟩
    rotate_left
    · exact absurd hbad PBO.out
    have O7 := Lib.hid O7
    have S45 := Lib.hid U7.size
    have OO := Lib.hid O5.out
    have O5' := Lib.hid (O5.out.up U7)
    have B5 := Lib.hid (B4.out.up U7)
    have U8 := Lib.hid (U6.out.trans U7)
    clear c0 c1 c2 c3 c4 c5 c6 R7 c10
    obtain ⟨c0, c1, c2, c3, c4, c5, c6, R7, c10⟩ := B5.out.setAt.rfl'
    clear O5 B4 U6 U7
    go_wp2_with fail
    refine (LB.out w5 U8.out).mono ?_
    rintro e w6 hlb
    rcases hlb with ⟨hbad, _⟩ | ⟨lbs, v8, hsome, rfl, O8, U9⟩
    · rw [DBO.out] at hbad; cases hbad
    rw [DBO.out] at hsome
    obtain rfl := Option.some.inj hsome
    have O8 := Lib.hid O8
    have O6 := Lib.hid (O5'.out.up U9)
    have P6 := Lib.hid (O7.out.up U9)
    have B6 := Lib.hid (B5.out.up U9)
    have U10 := Lib.hid (U8.out.trans U9)
    have S5 := Lib.hid (show w5.heap.size ≤ w6.heap.size from U9.size)
    clear c0 c1 c2 c3 c4 c5 c6 R7 c10
    obtain ⟨c0, c1, c2, c3, c4, c5, c6, R7, c10⟩ := B6.out.setAt.rfl'
    clear O5' O7 B5 U8 U9 hsome
    go_wp2_with fail
    have upd : Up w6 w6.drew := (Up.refl w6).drew
    have Od := Lib.hid (O6.out.up upd)
    have Pd := Lib.hid (P6.out.up upd).ones
    have O8d := Lib.hid (O8.out.up upd)
    have Ud := Lib.hid (U10.out.trans upd)
    have c1d := upd.cell c1
    have sd := upd.size
    have SB := Lib.hid (show w2.heap.size + 2 ≤ w6.drew.heap.size by have := S4.out; have := S45.out; have := S5.out; omega)
    have SW := Lib.hid (show w.heap.size < w2.heap.size + 2 by have := U3s.out; omega)
    clear c0 c1 c2 c3 c4 c5 c6 R7 c10
    refine wp_region_any (by kernel_rfl) ?_
    change wpAny _ _ _ _ 14 _ _ w6.drew
    generalize w6.drew = w7 at *
    refine wpAny_take (i := 0) (v := v5) rfl (by kernel_rfl) (by kernel_rfl) (by kernel_rfl) (fun _ _ _ h => h) (.inl ⟨rfl, fun _ => rfl⟩) ?_
    refine wpAny_take (i := 1) (v := v7) rfl (by kernel_rfl) (by kernel_rfl) (by kernel_rfl) (fun _ _ _ h => h) (.inl ⟨rfl, fun _ => rfl⟩) ?_
    refine wpAny_take (i := 3) (v := .pointer (some ⟨w.heap.size, 1, none⟩)) rfl (by kernel_rfl) (by kernel_rfl) (by kernel_rfl) (fun _ _ _ h => h) (.inl ⟨rfl, fun _ => rfl⟩) ?_
    refine wpAny_take (i := 6) (v := v8) rfl (by kernel_rfl) (by kernel_rfl) (by kernel_rfl) (fun _ _ _ h => h) (.inl ⟨rfl, fun _ => rfl⟩) ?_
    simp only [Act.put, List.getElem_toArray, List.getElem_cons_succ, List.getElem_cons_zero, List.setIfInBounds_toArray, List.set_cons_zero, List.set_cons_succ]
    have hb1 := Lib.hid (show ((putBytes setWs [id, snapN _, owner, prev, stamp, nb]).length + (ptrBytes root).length) * 1 ≤ 140737488355328 by rw [PL.out, RL.out]; omega)
    have hb2 := Lib.hid (show (putBytes setWs [id, snapN _, owner, prev, stamp, nb]).length + (ptrBytes root).length ≤ 9223372036854775807 by rw [PL.out, RL.out]; omega)
    refine wpAny_twoX 2 4 _ _ (by kernel_rfl) rfl rfl rfl rfl ?_ ?_
    · refine wp_append_ones byteCell byteCell_one (.tmp 52) (.tmp 53) 29 rfl (w2.heap.size + 2) 5 (.int .u8 0) 1 Try.underlying29 info_u8 rfl v5 _ rfl Od.out v7 _ rfl Pd.out hb1.out hb2.out SB.out ?_
      intro va w8 hoa hga hba
      have c1e := (World.cell?_of_block (Below.block hba w.heap.size SW.out)).trans c1d
      refine wpAny_oneX 4 _ (by kernel_rfl) rfl rfl ?_
      refine wp_load_cell 9 (.tmp 55) rfl ⟨w.heap.size, 1, none⟩ rfl _ c1e (by kernel_rfl) ?_
      refine wpAny_oneX 5 _ (by kernel_rfl) rfl rfl ?_
      refine wp_str_bytes (.tmp 56) rfl name rfl NM1.out NM2.out ?_
      intro vn w9 hn hu hnb
      rw [← HE.out] at hoa
      have HO := Lib.hid (hoa.up hu)
      have HN := Lib.hid (hn)
      have H8 := Lib.hid ((O8d.out.kept_late OO.out S45.out hga).up hu)
      have HU := Lib.hid ((Ud.out.below_trans hba (Nat.le_of_lt SW.out)).trans hu)
      have HZ := Lib.hid (show w.heap.size ≤ w9.heap.size from HU.out.size)
      clear hoa hga hba hn hu hnb Od Pd O8d Ud
      obtain ⟨aa, ac, rfl⟩ := HO.out.ones.slice
      obtain ⟨na, nc, rfl⟩ := HN.out.slice
      obtain ⟨la, lc, rfl⟩ := H8.out.ones.slice
      have JN := Lib.hid (join_any _ _ _ (three_texts w9 aa na la _ _ _ ac nc lc _ _ _ HO.out.ones HN.out H8.out.ones))
      have sz9 := sz_alloc w9 (.cells #[.slice aa hdr.length ac, .slice na name.length nc, .slice la (bytesL dead).length lc] 29)
      have UA9 := Lib.hid (up_alloc w9 (.cells #[.slice aa hdr.length ac, .slice na name.length nc, .slice la (bytesL dead).length lc] 29))
      generalize bytesL dead = lbs at *
      refine wpAny_oneK 7 _ (by kernel_rfl) rfl rfl ?_
      intro K hK
      go_simp
      refine hK _ _ ?_
      refine wpAny_oneK 8 _ (by kernel_rfl) rfl rfl ?_
      intro K2 hK2
      go_simp
      refine JN.out.mono ?_
      rintro e w10 hj
      rcases hj with ⟨_, vj, rfl, OJ, UJ⟩ | ⟨hbad, _⟩
      rotate_left
      · exact absurd OKJ.out hbad
      have OJ := Lib.hid OJ
      have UJ := Lib.hid UJ
      refine hK2 _ _ ?_
      refine wpAny_take (i := 9) (v := .tuple #[vj, .int .i64 0]) rfl (by kernel_rfl) (by kernel_rfl) (by kernel_rfl) (fun _ _ _ h => h) (.inl ⟨rfl, fun _ => rfl⟩) ?_
      simp only [Act.put, List.getElem_toArray, List.getElem_cons_succ, List.getElem_cons_zero, List.setIfInBounds_toArray, List.set_cons_zero, List.set_cons_succ]
      refine wpAny_take (i := 10) (v := vj) rfl (by kernel_rfl) (by kernel_rfl) (by kernel_rfl) (fun _ _ _ h => h) (.inl ⟨rfl, fun _ => rfl⟩) ?_
      simp only [Act.put, List.getElem_toArray, List.getElem_cons_succ, List.getElem_cons_zero, List.setIfInBounds_toArray, List.set_cons_zero, List.set_cons_succ]
      refine wpAny_take (i := 11) (v := .int .i64 0) rfl (by kernel_rfl) (by kernel_rfl) (by kernel_rfl) (fun _ _ _ h => h) (.inl ⟨rfl, fun _ => rfl⟩) ?_
      simp only [Act.put, List.getElem_toArray, List.getElem_cons_succ, List.getElem_cons_zero, List.setIfInBounds_toArray, List.set_cons_zero, List.set_cons_succ]
      refine wpAny_take (i := 12) (v := vj) rfl (by kernel_rfl) (by kernel_rfl) (by kernel_rfl) (fun _ _ _ h => h) (.inl ⟨rfl, fun _ => rfl⟩) ?_
      simp only [Act.put, List.getElem_toArray, List.getElem_cons_succ, List.getElem_cons_zero, List.setIfInBounds_toArray, List.set_cons_zero, List.set_cons_succ]
      refine wpAny_take (i := 13) (v := .int .i64 0) rfl (by kernel_rfl) (by kernel_rfl) (by kernel_rfl) (fun _ _ _ h => h) (.inl ⟨rfl, fun _ => rfl⟩) ?_
      simp only [Act.put, List.getElem_toArray, List.getElem_cons_succ, List.getElem_cons_zero, List.setIfInBounds_toArray, List.set_cons_zero, List.set_cons_succ]
      refine ⟨by kernel_rfl, ?_⟩
      (try simp only [Act.put])
      go_wp2_with fail
      go_ret2
      refine .inr ⟨_, _, HT.out, rfl, ?_, HU.out.trans (UA9.out.trans UJ.out)⟩
      rw [RB.out]
      exact OJ.out.mono (by rw [sz9]; have := HZ.out; omega)
    · refine wp_load_cell 9 (.tmp 55) rfl ⟨w.heap.size, 1, none⟩ rfl _ c1d (by kernel_rfl) ?_
      refine wpAny_twoX 2 5 _ _ (by kernel_rfl) rfl rfl rfl rfl ?_ ?_
      · refine wp_append_ones byteCell byteCell_one (.tmp 52) (.tmp 53) 29 rfl (w2.heap.size + 2) 5 (.int .u8 0) 1 Try.underlying29 info_u8 rfl v5 _ rfl Od.out v7 _ rfl Pd.out hb1.out hb2.out SB.out ?_
        intro va w8 hoa hga hba
        refine wpAny_oneX 5 _ (by kernel_rfl) rfl rfl ?_
        refine wp_str_bytes (.tmp 56) rfl name rfl NM1.out NM2.out ?_
        intro vn w9 hn hu hnb
        rw [← HE.out] at hoa
        have HO := Lib.hid (hoa.up hu)
        have HN := Lib.hid (hn)
        have H8 := Lib.hid ((O8d.out.kept_late OO.out S45.out hga).up hu)
        have HU := Lib.hid ((Ud.out.below_trans hba (Nat.le_of_lt SW.out)).trans hu)
        have HZ := Lib.hid (show w.heap.size ≤ w9.heap.size from HU.out.size)
        clear hoa hga hba hn hu hnb Od Pd O8d Ud
        obtain ⟨aa, ac, rfl⟩ := HO.out.ones.slice
        obtain ⟨na, nc, rfl⟩ := HN.out.slice
        obtain ⟨la, lc, rfl⟩ := H8.out.ones.slice
        have JN := Lib.hid (join_any _ _ _ (three_texts w9 aa na la _ _ _ ac nc lc _ _ _ HO.out.ones HN.out H8.out.ones))
        have sz9 := sz_alloc w9 (.cells #[.slice aa hdr.length ac, .slice na name.length nc, .slice la (bytesL dead).length lc] 29)
        have UA9 := Lib.hid (up_alloc w9 (.cells #[.slice aa hdr.length ac, .slice na name.length nc, .slice la (bytesL dead).length lc] 29))
        generalize bytesL dead = lbs at *
        refine wpAny_oneK 7 _ (by kernel_rfl) rfl rfl ?_
        intro K hK
        go_simp
        refine hK _ _ ?_
        refine wpAny_oneK 8 _ (by kernel_rfl) rfl rfl ?_
        intro K2 hK2
        go_simp
        refine JN.out.mono ?_
        rintro e w10 hj
        rcases hj with ⟨_, vj, rfl, OJ, UJ⟩ | ⟨hbad, _⟩
        rotate_left
        · exact absurd OKJ.out hbad
        have OJ := Lib.hid OJ
        have UJ := Lib.hid UJ
        refine hK2 _ _ ?_
        refine wpAny_take (i := 9) (v := .tuple #[vj, .int .i64 0]) rfl (by kernel_rfl) (by kernel_rfl) (by kernel_rfl) (fun _ _ _ h => h) (.inl ⟨rfl, fun _ => rfl⟩) ?_
        simp only [Act.put, List.getElem_toArray, List.getElem_cons_succ, List.getElem_cons_zero, List.setIfInBounds_toArray, List.set_cons_zero, List.set_cons_succ]
        refine wpAny_take (i := 10) (v := vj) rfl (by kernel_rfl) (by kernel_rfl) (by kernel_rfl) (fun _ _ _ h => h) (.inl ⟨rfl, fun _ => rfl⟩) ?_
        simp only [Act.put, List.getElem_toArray, List.getElem_cons_succ, List.getElem_cons_zero, List.setIfInBounds_toArray, List.set_cons_zero, List.set_cons_succ]
        refine wpAny_take (i := 11) (v := .int .i64 0) rfl (by kernel_rfl) (by kernel_rfl) (by kernel_rfl) (fun _ _ _ h => h) (.inl ⟨rfl, fun _ => rfl⟩) ?_
        simp only [Act.put, List.getElem_toArray, List.getElem_cons_succ, List.getElem_cons_zero, List.setIfInBounds_toArray, List.set_cons_zero, List.set_cons_succ]
        refine wpAny_take (i := 12) (v := vj) rfl (by kernel_rfl) (by kernel_rfl) (by kernel_rfl) (fun _ _ _ h => h) (.inl ⟨rfl, fun _ => rfl⟩) ?_
        simp only [Act.put, List.getElem_toArray, List.getElem_cons_succ, List.getElem_cons_zero, List.setIfInBounds_toArray, List.set_cons_zero, List.set_cons_succ]
        refine wpAny_take (i := 13) (v := .int .i64 0) rfl (by kernel_rfl) (by kernel_rfl) (by kernel_rfl) (fun _ _ _ h => h) (.inl ⟨rfl, fun _ => rfl⟩) ?_
        simp only [Act.put, List.getElem_toArray, List.getElem_cons_succ, List.getElem_cons_zero, List.setIfInBounds_toArray, List.set_cons_zero, List.set_cons_succ]
        refine ⟨by kernel_rfl, ?_⟩
        (try simp only [Act.put])
        go_wp2_with fail
        go_ret2
        refine .inr ⟨_, _, HT.out, rfl, ?_, HU.out.trans (UA9.out.trans UJ.out)⟩
        rw [RB.out]
        exact OJ.out.mono (by rw [sz9]; have := HZ.out; omega)
      · refine wp_str_bytes (.tmp 56) rfl name rfl NM1.out NM2.out ?_
        intro vn w8 hn hu hnb
        refine wpAny_oneX 2 _ (by kernel_rfl) rfl rfl ?_
        refine wp_append_ones byteCell byteCell_one (.tmp 52) (.tmp 53) 29 rfl (w2.heap.size + 2) 5 (.int .u8 0) 1 Try.underlying29 info_u8 rfl v5 _ rfl (Od.out.up hu) v7 _ rfl (IsOnes.up Pd.out hu) hb1.out hb2.out (Nat.le_trans SB.out hu.size) ?_
        intro va w9 hoa hga hba
        rw [← HE.out] at hoa
        have HO := Lib.hid (hoa)
        have HN := Lib.hid (hn.grown hga (fun b hb e => by have h1 := hnb b hb; have h2 := (OO.out.block_lt b e).2; have h3 := S45.out; have h4 := S5.out; omega))
        have H8 := Lib.hid ((O8d.out.up hu).kept_late OO.out S45.out hga)
        have HU := Lib.hid ((Ud.out.trans hu).below_trans hba (Nat.le_of_lt SW.out))
        have HZ := Lib.hid (show w.heap.size ≤ w9.heap.size from HU.out.size)
        clear hoa hga hba hn hu hnb Od Pd O8d Ud
        obtain ⟨aa, ac, rfl⟩ := HO.out.ones.slice
        obtain ⟨na, nc, rfl⟩ := HN.out.slice
        obtain ⟨la, lc, rfl⟩ := H8.out.ones.slice
        have JN := Lib.hid (join_any _ _ _ (three_texts w9 aa na la _ _ _ ac nc lc _ _ _ HO.out.ones HN.out H8.out.ones))
        have sz9 := sz_alloc w9 (.cells #[.slice aa hdr.length ac, .slice na name.length nc, .slice la (bytesL dead).length lc] 29)
        have UA9 := Lib.hid (up_alloc w9 (.cells #[.slice aa hdr.length ac, .slice na name.length nc, .slice la (bytesL dead).length lc] 29))
        generalize bytesL dead = lbs at *
        refine wpAny_oneK 7 _ (by kernel_rfl) rfl rfl ?_
        intro K hK
        go_simp
        refine hK _ _ ?_
        refine wpAny_oneK 8 _ (by kernel_rfl) rfl rfl ?_
        intro K2 hK2
        go_simp
        refine JN.out.mono ?_
        rintro e w10 hj
        rcases hj with ⟨_, vj, rfl, OJ, UJ⟩ | ⟨hbad, _⟩
        rotate_left
        · exact absurd OKJ.out hbad
        have OJ := Lib.hid OJ
        have UJ := Lib.hid UJ
        refine hK2 _ _ ?_
        refine wpAny_take (i := 9) (v := .tuple #[vj, .int .i64 0]) rfl (by kernel_rfl) (by kernel_rfl) (by kernel_rfl) (fun _ _ _ h => h) (.inl ⟨rfl, fun _ => rfl⟩) ?_
        simp only [Act.put, List.getElem_toArray, List.getElem_cons_succ, List.getElem_cons_zero, List.setIfInBounds_toArray, List.set_cons_zero, List.set_cons_succ]
        refine wpAny_take (i := 10) (v := vj) rfl (by kernel_rfl) (by kernel_rfl) (by kernel_rfl) (fun _ _ _ h => h) (.inl ⟨rfl, fun _ => rfl⟩) ?_
        simp only [Act.put, List.getElem_toArray, List.getElem_cons_succ, List.getElem_cons_zero, List.setIfInBounds_toArray, List.set_cons_zero, List.set_cons_succ]
        refine wpAny_take (i := 11) (v := .int .i64 0) rfl (by kernel_rfl) (by kernel_rfl) (by kernel_rfl) (fun _ _ _ h => h) (.inl ⟨rfl, fun _ => rfl⟩) ?_
        simp only [Act.put, List.getElem_toArray, List.getElem_cons_succ, List.getElem_cons_zero, List.setIfInBounds_toArray, List.set_cons_zero, List.set_cons_succ]
        refine wpAny_take (i := 12) (v := vj) rfl (by kernel_rfl) (by kernel_rfl) (by kernel_rfl) (fun _ _ _ h => h) (.inl ⟨rfl, fun _ => rfl⟩) ?_
        simp only [Act.put, List.getElem_toArray, List.getElem_cons_succ, List.getElem_cons_zero, List.setIfInBounds_toArray, List.set_cons_zero, List.set_cons_succ]
        refine wpAny_take (i := 13) (v := .int .i64 0) rfl (by kernel_rfl) (by kernel_rfl) (by kernel_rfl) (fun _ _ _ h => h) (.inl ⟨rfl, fun _ => rfl⟩) ?_
        simp only [Act.put, List.getElem_toArray, List.getElem_cons_succ, List.getElem_cons_zero, List.setIfInBounds_toArray, List.set_cons_zero, List.set_cons_succ]
        refine ⟨by kernel_rfl, ?_⟩
        (try simp only [Act.put])
        go_wp2_with fail
        go_ret2
        refine .inr ⟨_, _, HT.out, rfl, ?_, HU.out.trans (UA9.out.trans UJ.out)⟩
        rw [RB.out]
        exact OJ.out.mono (by rw [sz9]; have := HZ.out; omega)

end Go.Proofs.Ythbfhlphclgnaaa
