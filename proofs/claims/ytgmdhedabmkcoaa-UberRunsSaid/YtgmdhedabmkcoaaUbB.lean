/- Ubers as sectors: plain functions; uber.Bytes: the walk. -/
import Derived.Test.YtgmdhedabmkcoaaUb
import Derived.Test.YtgmdhedabmkcoaaDev
import Derived.Test.YtgmdhedabmkcoaaSumW2
import Derived.Lib.BufferWrite
set_option linter.unusedSimpArgs false
set_option linter.unusedVariables false
namespace Go.Proofs.Ytgmdhedabmkcoaa
open Go.RowKit Go.Sort

def magicB : List UInt8 := [65, 81, 70, 82]
def ubPre (u : UbD) : List UInt8 := magicB ++ (putBytes [8, 8] [u.txg, u.stamp] ++ (ptrBytes u.tab ++ putBytes [4, 4] [u.len.toNat, u.sec.toNat]))
def ubHead (u : UbD) : List UInt8 := ubPre u ++ List.replicate 80 0
def ubSum (u : UbD) : Nat := crcMore 0 (ubHead u)
def ubBytes (u : UbD) : List UInt8 := ubHead u ++ putBytes [4] [ubSum u]
theorem put88_length (a b : Nat) : (putBytes [8, 8] [a, b]).length = 16 := by simp [putBytes, numBytes_length]
theorem put44_length (a b : Nat) : (putBytes [4, 4] [a, b]).length = 8 := by simp [putBytes, numBytes_length]
theorem put4_length (a : Nat) : (putBytes [4] [a]).length = 4 := by simp [putBytes, numBytes_length]
theorem ptrB_length (p : PtrD) : (ptrBytes p).length = 16 := by unfold ptrBytes; simp [ptrWs, ptrNs, putBytes, numBytes_length]
theorem ubPre_length (u : UbD) : (ubPre u).length = 44 := by unfold ubPre magicB; rw [List.length_append, List.length_append, List.length_append, put88_length, ptrB_length, put44_length]; rfl
theorem ubHead_length (u : UbD) : (ubHead u).length = 124 := by unfold ubHead; rw [List.length_append, ubPre_length, List.length_replicate]
theorem ubBytes_length (u : UbD) : (ubBytes u).length = 128 := by unfold ubBytes; rw [List.length_append, ubHead_length, put4_length]
theorem ubSum_lt (u : UbD) : ubSum u < 4294967296 := by unfold ubSum crcMore; omega
theorem sz_alloc (w : World) (o : Obj) : (w.alloc o).heap.size = w.heap.size + 1 := by unfold World.alloc; simp
/-- The sector of an uber, and the error's number. -/
def ubV (u : UbD) : Sec := if rightU u = true then ⟨ubBytes u, ubBytes_length u⟩ else zSec
def ubE (u : UbD) : Int := if rightU u = true then 0 else 61

/-- A sector that begins with 'pre', zeros behind. -/
def padTo (pre : List UInt8) : List UInt8 := pre ++ List.replicate (128 - pre.length) 0
theorem padTo_length {pre : List UInt8} (h : pre.length ≤ 128) : (padTo pre).length = 128 := by unfold padTo; rw [List.length_append, List.length_replicate]; omega
theorem padTo_nil : padTo [] = zeroS := rfl
theorem pad_splice {pre ys : List UInt8} (h : pre.length + ys.length ≤ 128) : (splice (secC (padTo pre)).toList pre.length (ys.map byteCell)).toArray = secC (padTo (pre ++ ys)) := by
  apply Array.toList_inj.1
  unfold splice
  rw [secC_list, secC_list, List.length_map, ← List.map_take, ← List.map_drop, ← List.map_append, ← List.map_append]
  congr 1
  unfold padTo
  rw [List.take_left' rfl, List.drop_append, List.drop_of_length_le (by omega), List.nil_append, List.drop_replicate, List.length_append, List.append_assoc, Nat.add_sub_cancel_left, Nat.sub_sub]
theorem padTo_ub (u : UbD) : padTo (ubHead u) = padTo (ubPre u) := by
  unfold padTo
  rw [ubHead_length, ubPre_length]
  unfold ubHead
  rw [List.append_assoc, List.replicate_append_replicate]
theorem padTo_all (u : UbD) : padTo (ubBytes u) = ubBytes u := by unfold padTo; rw [ubBytes_length]; simp
theorem blk_bytes {w : World} {g : Nat} {t : TypeId} {l : List UInt8} (h : Blk w g t (secC l)) (lo n cap : Nat) (hn : lo + n ≤ l.length) (h0 : 0 < n) (hc : n ≤ cap) (hm : cap ≤ 128) : IsBytes w (.slice (some ⟨g, lo, none⟩) n cap) ((l.drop lo).take n) := by
  have hl : ((l.drop lo).take n).length = n := by rw [List.length_take, List.length_drop]; omega
  refine .inr ⟨g, lo, cap, by rw [hl], by omega, by omega, by unfold maxLen; omega, fun i hi => ?_⟩
  have h1 : ((lo : Int) + (i : Int)) = ((lo + i : Nat) : Int) := by omega
  rw [sec_cell h (lo + i) (by omega)]
  simp
theorem slice_secF (g lo : Nat) (h1 : lo < 128) (W : World) : (Instr.sliceAt 34 (.pointer (some ⟨g, 0, none⟩)) (some (.int .i64 (lo : Int))) none none).run Try.prog W = .ok (.slice (some ⟨g, lo, none⟩) (128 - lo) (128 - lo)) W := by
  have hal : Try.prog.arrayLen 34 = 128 := by kernel_rfl
  have hs : (sizeOf (Try.prog.elem 34)).run Try.prog W = .ok 1 W := by kernel_rfl
  rw [run_sliceAt_array_l W 34 ⟨g, 0, none⟩ (by kernel_rfl) .i64 (lo : Int) (by omega) (by rw [hal]; omega), hs, hal]
  simp only [Result.andThen_ok, slicedAt, Int.toNat_natCast]
  rw [if_neg (by omega), add_plain]
  simp
theorem slice_secT (g hi : Nat) (h1 : hi ≤ 128) (W : World) : (Instr.sliceAt 34 (.pointer (some ⟨g, 0, none⟩)) none (some (.int .i64 (hi : Int))) none).run Try.prog W = .ok (.slice (some ⟨g, 0, none⟩) hi 128) W := by
  have hal : Try.prog.arrayLen 34 = 128 := by kernel_rfl
  have hs : (sizeOf (Try.prog.elem 34)).run Try.prog W = .ok 1 W := by kernel_rfl
  rw [run_sliceAt_array_h W 34 ⟨g, 0, none⟩ (by kernel_rfl) .i64 (hi : Int) (by omega) (by rw [hal]; omega), hs, hal]
  simp [Result.andThen_ok, slicedAt, add_plain]
theorem slice_secA (g : Nat) (W : World) : (Instr.sliceAt 34 (.pointer (some ⟨g, 0, none⟩)) none none none).run Try.prog W = .ok (.slice (some ⟨g, 0, none⟩) 128 128) W := by
  have hal : Try.prog.arrayLen 34 = 128 := by kernel_rfl
  have hs : (sizeOf (Try.prog.elem 34)).run Try.prog W = .ok 1 W := by kernel_rfl
  rw [run_sliceAt_array_all W 34 ⟨g, 0, none⟩ (by kernel_rfl), hs, hal]
  simp [Result.andThen_ok, slicedAt, add_plain]
section
variable {P : Program}
theorem wpList_copy_pad {ops : Array Oper} {rest : List Oper} {op : Oper} {a : Act} {w : World} {Q : Exit → Act → World → Prop} (hgd : op.guard = none) (d s : Operand) (dT sT : TypeId)
    (ho : op.op = .call { callee := .builtin .copy, args := #[d, s], argTypes := #[dT, sT] }) (elem : TypeId) (hu : P.underlying dT = some (.slice elem)) (hsz : (P.info? elem).map (·.size) = some 1)
    (g off n cap : Nat) (hd : a.eval d = .slice (some ⟨g, off, none⟩) n cap) (vs : Value) (ys : List UInt8) (hs : a.eval s = vs) (hsrc : IsBytes w vs ys) (hn : ys.length ≤ n)
    (t : TypeId) (pre : List UInt8) (hoff : off = pre.length) (hb : Blk w g t (secC (padTo pre))) (hfit : pre.length + ys.length ≤ 128)
    (h : ∀ w', Blk w' g t (secC (padTo (pre ++ ys))) → Below g w w' → w.grownBy w' (some g) → wpList P ops Q rest (a.put op.dst (goInt ys.length)) w') : wpList P ops Q (op :: rest) a w :=
  wpList_copy_blk hgd d s dT sT ho elem hu hsz byteCell byteCell_one g off n cap hd vs ys hs hsrc hn t _ hb (by rw [secC_size, padTo_length (by omega)]; omega) (fun w' h1 h2 h3 => h w' (by rw [hoff, pad_splice hfit] at h1; exact h1) h2 h3)
theorem wpList_copy_str {ops : Array Oper} {rest : List Oper} {op : Oper} {a : Act} {w : World} {Q : Exit → Act → World → Prop} (hgd : op.guard = none) (d s : Operand) (dT sT : TypeId)
    (ho : op.op = .call { callee := .builtin .copy, args := #[d, s], argTypes := #[dT, sT] }) (elem : TypeId) (hu : P.underlying dT = some (.slice elem)) (hsz : (P.info? elem).map (·.size) = some 1)
    (g off n cap : Nat) (hd : a.eval d = .slice (some ⟨g, off, none⟩) n cap) (b : ByteArray) (hs : a.eval s = .string b) (ys : List UInt8) (hys : b.data.toList = ys) (hn : ys.length ≤ n)
    (t : TypeId) (pre : List UInt8) (hoff : off = pre.length) (hb : Blk w g t (secC (padTo pre))) (hfit : pre.length + ys.length ≤ 128)
    (h : ∀ w', Blk w' g t (secC (padTo (pre ++ ys))) → Below g w w' → w.grownBy w' (some g) → wpList P ops Q rest (a.put op.dst (goInt ys.length)) w') : wpList P ops Q (op :: rest) a w := by
  have hsize : b.size = ys.length := by rw [← hys]; exact Lib.size_eq b
  refine wpList_plain hgd fun K hK => ?_
  have hr := Lib.run_copy_row_string (P := P) w dT sT op.type elem g off n cap b _ t hu hsz hb (by omega) (by rw [secC_size, padTo_length (by omega)]; omega)
  have hs2 : ((secC (padTo pre)).toList.take off ++ Lib.byteCells b.data.toList ++ (secC (padTo pre)).toList.drop (off + b.size)).toArray = secC (padTo (pre ++ ys)) := by
    rw [← pad_splice hfit, hoff, hys, hsize]
    unfold splice
    rw [List.length_map, List.append_assoc]
    rfl
  rw [hs2, hsize] at hr
  unfold Oper.wp
  simp [execOp, ho, resolve, invoke, builtin, hd, hs, hr, Result.andThen]
  exact hK _ _ (h _ (hb.set _) (below_setRow (Below.refl _ _) (Nat.le_refl _) _) (grown_setRow w g _))
end
theorem okPut_88 {a b : Nat} (ha : a < 18446744073709551616) (hb : b < 18446744073709551616) : okPut [8, 8] [a, b] := by
  refine ⟨rfl, by unfold okWs; intro w hw; simp at hw; omega, ?_⟩
  simp only [fits, and_true]
  exact ⟨by show a < 256 ^ 8; omega, by show b < 256 ^ 8; omega⟩
theorem okPut_44 {a b : Nat} (ha : a < 4294967296) (hb : b < 4294967296) : okPut [4, 4] [a, b] := by
  refine ⟨rfl, by unfold okWs; intro w hw; simp at hw; omega, ?_⟩
  simp only [fits, and_true]
  exact ⟨by show a < 256 ^ 4; omega, by show b < 256 ^ 4; omega⟩
theorem okPut_4 {a : Nat} (ha : a < 4294967296) : okPut [4] [a] := by
  refine ⟨rfl, by unfold okWs; intro w hw; simp at hw; omega, ?_⟩
  simp only [fits, and_true]
  show a < 256 ^ 4
  omega

set_option maxRecDepth 100000 in
set_option maxHeartbeats 8000000 in
theorem ubytes_any (w : World) (u : UbD) (hwf : u.wf) :
    Calls Try.prog 12 #[.agg (uC u)] w fun e w' => e = .returned (.tuple #[.agg (secC (ubV u).val), .int .i64 (ubE u)]) ∧ Up w w' := by
  have HI := Lib.hid (info_uV u)
  have UA1 := up_alloc w (.cells (uC u) 27)
  have UA2 := up_alloc (w.alloc (.cells (uC u) 27)) (.cells (secC zeroS) 34)
  have sz1 := sz_alloc w (.cells (uC u) 27)
  have B1 := Lib.hid ((Blk.new w 27 (uC u)).up UA2)
  have z1 := Blk.new (w.alloc (.cells (uC u) 27)) 34 (secC zeroS)
  rw [sz1] at z1
  have Z1 := Lib.hid z1
  have U1 := Lib.hid (UA1.trans UA2)
  have RR := Lib.hid (fun W => uright_any W u)
  have BS := Lib.hid built_sec
  have HIS := Lib.hid info_sec
  have HS1 := Lib.hid (secC_one zeroS)
  clear UA1 UA2 sz1 z1
  cases hr : rightU u
  · have HV := Lib.hid (show ubV u = zSec by unfold ubV; rw [hr]; rfl)
    have HE := Lib.hid (show ubE u = 61 by unfold ubE; rw [hr]; rfl)
    rw [hr] at RR
    clear hr
    go_enter Try.func12, Try.ntmps12
    go_wp2_with (first
      | ((with_reducible refine wg_alloc 34 ?_); refine wpList_alloc_blk rfl 34 rfl (secC zeroS) zero_sec ?_)
      | ((with_reducible refine wg_load 27 (.tmp 1) ?_); refine wpList_load_blkG rfl 27 (.tmp 1) rfl w.heap.size rfl 27 _ B1.out _ Try.underlying27 rfl HI.out ?_))
    generalize hw2 : (w.alloc (.cells (uC u) 27)).alloc (.cells (secC zeroS) 34) = w2 at *
    refine (RR.out _).mono ?_
    rintro e w3 ⟨rfl, U3⟩
    have Z3 := Z1.out.up U3
    have U4 := U1.out.trans U3
    clear U3 hw2
    go_wp2_with (first
      | ((with_reducible refine wg_build 34 #[] ?_); refine wpList_build0 rfl 34 rfl (secC zeroS) BS.out ?_)
      | ((with_reducible refine wg_store 34 (.tmp 2) (.tmp 13) ?_); refine wpList_store_blk rfl 34 (.tmp 2) (.tmp 13) rfl (w.heap.size + 1) (secC zeroS) rfl rfl 34 (secC zeroS) Z3 HIS.out rfl HS1.out ?_))
    intro w9 b9 g9
    have U9 := U4.below_trans (below_grown g9 (Nat.le_of_lt Z3.lt) (fun j hj => by cases hj; exact Nat.le_refl _)) (Nat.le_succ _)
    go_wp2_with fail
    (try simp only [Exit.inBlock, Exit.then])
    exact bodyPost_ret (v := .tuple #[.agg (secC zeroS), .int .i64 61]) (results_blk rfl _ _ _ (w.heap.size + 1) 34 _ _ rfl rfl b9 _ Try.underlying34 rfl HIS.out) rfl ⟨by rw [HV.out, HE.out]; rfl, U9⟩
  have HV := Lib.hid (show (ubV u).val = ubBytes u by unfold ubV; rw [if_pos hr])
  have HE := Lib.hid (show ubE u = 0 by unfold ubE; rw [if_pos hr])
  have HPR := Lib.hid (show ubPre u = magicB ++ (putBytes [8, 8] [u.txg, u.stamp] ++ (ptrBytes u.tab ++ putBytes [4, 4] [u.len.toNat, u.sec.toNat])) from rfl)
  have HPL := Lib.hid (ubPre_length u)
  have HHD := Lib.hid (show ubHead u = ubPre u ++ List.replicate 80 0 from rfl)
  have HHL := Lib.hid (ubHead_length u)
  have HUS := Lib.hid (show ubSum u = crcMore 0 (ubHead u) from rfl)
  have HSL := Lib.hid (ubSum_lt u)
  have HPU := Lib.hid (padTo_ub u)
  have HPA := Lib.hid (padTo_all u)
  have HBY := Lib.hid (show ubBytes u = ubHead u ++ putBytes [4] [ubSum u] from rfl)
  have HBL := Lib.hid (ubBytes_length u)
  obtain ⟨⟨g1, g2⟩, ⟨g3, g4⟩, ⟨hg, _⟩, ⟨g5, g6⟩, ⟨g7, g8⟩⟩ := (rightU_iff u).1 hr
  have PB := Lib.hid (fun W => bytes_any W u.tab hwf.2.2.1)
  have PBG := Lib.hid (show goodB u.tab ≠ false by rw [hg]; simp)
  rw [hr] at RR
  clear hr hg hwf
  generalize (ubV u).val = uv at *
  generalize ubE u = ue at *
  generalize ubPre u = pre at *
  generalize ubHead u = hdr at *
  generalize ubSum u = sm at *
  generalize ubBytes u = byt at *
  obtain ⟨txg, stamp, tab, len, sec⟩ := u
  dsimp only at *
  obtain ⟨nl, rfl⟩ : ∃ n : Nat, len = n := ⟨len.toNat, by omega⟩
  obtain ⟨ns, rfl⟩ : ∃ n : Nat, sec = n := ⟨sec.toNat, by omega⟩
  simp only [Int.toNat_natCast] at *
  have HIN := Lib.hid (info_pcU tab)
  go_enter Try.func12, Try.ntmps12
  go_wp2_with (first
    | ((with_reducible refine wg_alloc 34 ?_); refine wpList_alloc_blk rfl 34 rfl (secC zeroS) zero_sec ?_)
    | ((with_reducible refine wg_load 27 (.tmp 1) ?_); refine wpList_load_blkG rfl 27 (.tmp 1) rfl w.heap.size rfl 27 _ B1.out _ Try.underlying27 rfl HI.out ?_))
  generalize hw2 : (w.alloc (.cells (uC ⟨txg, stamp, tab, (nl : Int), (ns : Int)⟩) 27)).alloc (.cells (secC zeroS) 34) = w2 at *
  refine (RR.out _).mono ?_
  rintro e w3 ⟨rfl, U3⟩
  have B3 := Lib.hid (B1.out.up U3)
  have Z3 := Lib.hid (Z1.out.up U3)
  have U4 := Lib.hid (U1.out.trans U3)
  clear U3 hw2 RR B1 Z1 U1
  obtain ⟨c0, c1, c2, c5, c6, R2⟩ := uC_at B3.out
  have UA := up_alloc w3 (.cells #[.int .i64 8, .int .i64 8] 3)
  have sza := sz_alloc w3 (.cells #[.int .i64 8, .int .i64 8] 3)
  have PUT := Lib.hid (show Calls Try.prog 34 #[.slice (some ⟨w3.heap.size, 0, none⟩) 2 2, .slice (some ⟨w3.heap.size + 1, 0, none⟩) 2 2] ((w3.alloc (.cells #[.int .i64 8, .int .i64 8] 3)).alloc (.cells #[.int .u64 (txg : Int), .int .u64 (stamp : Int)] 22)) (fun e w' => ∃ v, e = .returned (.tuple #[v, .int .i64 0]) ∧ Own byteCell 5 w' w3.heap.size v (putBytes [8, 8] [txg, stamp]) ∧ Up w3 w') from by
    have UB := up_alloc (w3.alloc (.cells #[.int .i64 8, .int .i64 8] 3)) (.cells #[.int .u64 (txg : Int), .int .u64 (stamp : Int)] 22)
    have i1 : IsOnes intCell _ (.slice (some ⟨w3.heap.size, 0, none⟩) 2 2) [8, 8] := (IsOnes.litAt (f := intCell) w3 w3.heap.size rfl #[.int .i64 8, .int .i64 8] 3 (0, 0) [8, 8] 2 rfl (by unfold maxLen; omega) rfl).up UB
    have i2 : IsOnes u64Cell _ (.slice (some ⟨w3.heap.size + 1, 0, none⟩) 2 2) [txg, stamp] := IsOnes.litAt (f := u64Cell) (w3.alloc (.cells #[.int .i64 8, .int .i64 8] 3)) (w3.heap.size + 1) (by rw [sza]) #[.int .u64 (txg : Int), .int .u64 (stamp : Int)] 22 (0, 0) [txg, stamp] 2 rfl (by unfold maxLen; omega) rfl
    refine (put_any _ _ [8, 8] i1 (by simp) _ _ i2 (by intro n hn; simp at hn; omega)).mono fun e w' h => ?_
    rcases h with ⟨_, v, rfl, ho, hu⟩ | ⟨hno, _⟩
    · exact ⟨v, rfl, ho.mono (UA.trans UB).size, (UA.trans UB).trans hu⟩
    · exact absurd (okPut_88 (by omega) (by omega)) hno)
  have e0 := UA.cell c0
  have e1 := UA.cell c1
  clear UA sza
  go_wp2_with fail
  refine PUT.out.mono ?_
  rintro e w4 ⟨v5, rfl, O5, U5⟩
  have S5 := Lib.hid O5.ones
  have B4 := Lib.hid (B3.out.up U5)
  have Z4 := Lib.hid (Z3.out.up U5)
  have U6 := Lib.hid (U4.out.trans U5)
  obtain ⟨a5, k5, rfl⟩ := S5.out.slice
  clear O5 U5 PUT e0 e1 B3 Z3 U4
  clear c0 c1 c2 c5 c6 R2
  obtain ⟨c0, c1, c2, c5, c6, R2⟩ := uC_at B4.out
  go_wp2_with (first
    | ((with_reducible refine wg_load 25 (.tmp 28) ?_); refine wl_part rfl 25 (.tmp 28) rfl w.heap.size 2 rfl (pcA tab) R2.out _ Try.underlying25 rfl HIN.out ?_))
  refine (PB.out w4).mono ?_
  rintro e w5 hpb
  rcases hpb with ⟨_, v7, rfl, O7, U7⟩ | ⟨hbad, _⟩
  rotate_left
  · exact absurd hbad PBG.out
  have S7 := Lib.hid O7.ones
  have S5b := Lib.hid (S5.out.up U7)
  have B5 := Lib.hid (B4.out.up U7)
  have Z5 := Lib.hid (Z4.out.up U7)
  have U8 := Lib.hid (U6.out.trans U7)
  obtain ⟨a7, k7, rfl⟩ := S7.out.slice
  clear O7 U7 B4 Z4 U6 S5 PB
  clear c0 c1 c2 c5 c6 R2
  obtain ⟨c0, c1, c2, c5, c6, R2⟩ := uC_at B5.out
  have wn := wrap_u64_nat nl (by omega)
  have wn2 := wrap_u64_nat ns (by omega)
  have UA := up_alloc w5 (.cells #[.int .i64 4, .int .i64 4] 3)
  have sza := sz_alloc w5 (.cells #[.int .i64 4, .int .i64 4] 3)
  have PUT := Lib.hid (show Calls Try.prog 34 #[.slice (some ⟨w5.heap.size, 0, none⟩) 2 2, .slice (some ⟨w5.heap.size + 1, 0, none⟩) 2 2] ((w5.alloc (.cells #[.int .i64 4, .int .i64 4] 3)).alloc (.cells #[.int .u64 (nl : Int), .int .u64 (ns : Int)] 22)) (fun e w' => ∃ v, e = .returned (.tuple #[v, .int .i64 0]) ∧ Own byteCell 5 w' w5.heap.size v (putBytes [4, 4] [nl, ns]) ∧ Up w5 w') from by
    have UB := up_alloc (w5.alloc (.cells #[.int .i64 4, .int .i64 4] 3)) (.cells #[.int .u64 (nl : Int), .int .u64 (ns : Int)] 22)
    have i1 : IsOnes intCell _ (.slice (some ⟨w5.heap.size, 0, none⟩) 2 2) [4, 4] := (IsOnes.litAt (f := intCell) w5 w5.heap.size rfl #[.int .i64 4, .int .i64 4] 3 (0, 0) [4, 4] 2 rfl (by unfold maxLen; omega) rfl).up UB
    have i2 : IsOnes u64Cell _ (.slice (some ⟨w5.heap.size + 1, 0, none⟩) 2 2) [nl, ns] := IsOnes.litAt (f := u64Cell) (w5.alloc (.cells #[.int .i64 4, .int .i64 4] 3)) (w5.heap.size + 1) (by rw [sza]) #[.int .u64 (nl : Int), .int .u64 (ns : Int)] 22 (0, 0) [nl, ns] 2 rfl (by unfold maxLen; omega) rfl
    refine (put_any _ _ [4, 4] i1 (by simp) _ _ i2 (by intro n hn; simp at hn; omega)).mono fun e w' h => ?_
    rcases h with ⟨_, v, rfl, ho, hu⟩ | ⟨hno, _⟩
    · exact ⟨v, rfl, ho.mono (UA.trans UB).size, (UA.trans UB).trans hu⟩
    · exact absurd (okPut_44 (by omega) (by omega)) hno)
  have e5 := UA.cell c5
  have e6 := UA.cell c6
  clear UA sza
  go_wp2_with fail
  refine PUT.out.mono ?_
  rintro e w6 ⟨v9, rfl, O9, U9⟩
  have S9 := Lib.hid O9.ones
  have S7b := Lib.hid (S7.out.up U9)
  have S5c := Lib.hid (S5b.out.up U9)
  have Z6 := Lib.hid (Z5.out.up U9)
  have U10 := Lib.hid (U8.out.trans U9)
  obtain ⟨a9, k9, rfl⟩ := S9.out.slice
  clear O9 U9 B5 Z5 U8 S7 S5b PUT e5 e6 wn wn2
  clear c0 c1 c2 c5 c6 R2
  have P0 := Lib.hid (show Blk (w6.alloc (.cells (secC zeroS) 34)) w6.heap.size 34 (secC (padTo [])) by rw [padTo_nil]; exact Blk.new w6 34 (secC zeroS))
  have V7 := Lib.hid (up_alloc w6 (.cells (secC zeroS) 34))
  have SA : ∀ W, (Instr.sliceAt 34 (.pointer (some ⟨w6.heap.size, 0, none⟩)) none none none).run Try.prog W = .ok (.slice (some ⟨w6.heap.size, 0, none⟩) 128 128) W := slice_secA w6.heap.size
  have SF4 : ∀ W, (Instr.sliceAt 34 (.pointer (some ⟨w6.heap.size, 0, none⟩)) (some (.int .i64 4)) none none).run Try.prog W = .ok (.slice (some ⟨w6.heap.size, 4, none⟩) 124 124) W := slice_secF w6.heap.size 4 (by omega)
  have SF20 : ∀ W, (Instr.sliceAt 34 (.pointer (some ⟨w6.heap.size, 0, none⟩)) (some (.int .i64 20)) none none).run Try.prog W = .ok (.slice (some ⟨w6.heap.size, 20, none⟩) 108 108) W := slice_secF w6.heap.size 20 (by omega)
  have SF36 : ∀ W, (Instr.sliceAt 34 (.pointer (some ⟨w6.heap.size, 0, none⟩)) (some (.int .i64 36)) none none).run Try.prog W = .ok (.slice (some ⟨w6.heap.size, 36, none⟩) 92 92) W := slice_secF w6.heap.size 36 (by omega)
  have SF124 : ∀ W, (Instr.sliceAt 34 (.pointer (some ⟨w6.heap.size, 0, none⟩)) (some (.int .i64 124)) none none).run Try.prog W = .ok (.slice (some ⟨w6.heap.size, 124, none⟩) 4 4) W := slice_secF w6.heap.size 124 (by omega)
  have ST124 : ∀ W, (Instr.sliceAt 34 (.pointer (some ⟨w6.heap.size, 0, none⟩)) none (some (.int .i64 124)) none).run Try.prog W = .ok (.slice (some ⟨w6.heap.size, 0, none⟩) 124 128) W := slice_secT w6.heap.size 124 (by omega)
  go_wp2_with (first
    | ((with_reducible refine wg_alloc 34 ?_); refine wpList_alloc_blk rfl 34 rfl (secC zeroS) zero_sec ?_)
    | (refine wpList_copy_str rfl (.tmp 51) (.const (.string ⟨#[65, 81, 70, 82]⟩)) 76 9 rfl 5 Try.underlying76 (by kernel_rfl) w6.heap.size 0 128 128 rfl _ rfl magicB rfl (by unfold magicB; simp) 34 [] rfl P0.out (by unfold magicB; simp) ?_))
  intro w8 P1 bl1 _
  have P1 := Lib.hid (show Blk w8 w6.heap.size 34 (secC (padTo magicB)) from P1)
  have V8 := Lib.hid (V7.out.below_trans bl1 (Nat.le_refl _))
  have T5 := Lib.hid (S5c.out.up V8.out)
  have L5 := Lib.hid (put88_length txg stamp)
  clear bl1 P0 V7
  go_wp2_with (first
    | (refine wpList_copy_pad rfl (.tmp 53) (.tmp 54) 76 76 rfl 5 Try.underlying76 (by kernel_rfl) w6.heap.size 4 124 124 rfl _ _ rfl T5.out (by rw [L5.out]; omega) 34 magicB rfl P1.out (by rw [L5.out]; unfold magicB; simp) ?_))
  intro w9 P2 bl2 _
  have P2 := Lib.hid (show Blk w9 w6.heap.size 34 (secC (padTo (magicB ++ putBytes [8, 8] [txg, stamp]))) from P2)
  have Q2 : (20 : Nat) = (magicB ++ putBytes [8, 8] [txg, stamp]).length := by rw [List.length_append, put88_length]; rfl
  have V9 := Lib.hid (V8.out.below_trans bl2 (Nat.le_refl _))
  have T7 := Lib.hid (S7b.out.up V9.out)
  have L7 := Lib.hid (ptrB_length tab)
  clear bl2 P1 V8 T5
  obtain ⟨pre2, hp2⟩ : ∃ x, x = magicB ++ putBytes [8, 8] [txg, stamp] := ⟨_, rfl⟩
  rw [← hp2] at P2 Q2
  replace Q2 := Lib.hid Q2
  have HP2 := Lib.hid hp2
  clear hp2
  have N7 : (ptrBytes tab).length ≤ 108 := by rw [L7.out]; omega
  have M7 : pre2.length + (ptrBytes tab).length ≤ 128 := by rw [L7.out, ← Q2.out]; omega
  go_wp2_with (first
    | (refine wpList_copy_pad rfl (.tmp 56) (.tmp 57) 76 76 rfl 5 Try.underlying76 (by kernel_rfl) w6.heap.size 20 108 108 rfl _ _ rfl T7.out N7 34 pre2 Q2.out P2.out M7 ?_))
  intro w10 P3 bl3 _
  have Q3 : (36 : Nat) = (pre2 ++ ptrBytes tab).length := by rw [List.length_append, ptrB_length, ← Q2.out]
  have V10 := Lib.hid (V9.out.below_trans bl3 (Nat.le_refl _))
  have T9 := Lib.hid (S9.out.up V10.out)
  have L9 := Lib.hid (put44_length nl ns)
  obtain ⟨pre3, hp3⟩ : ∃ x, x = pre2 ++ ptrBytes tab := ⟨_, rfl⟩
  rw [← hp3] at P3 Q3
  replace Q3 := Lib.hid Q3
  have P3 := Lib.hid P3
  have HP3 := Lib.hid hp3
  clear hp3 bl3 P2 V9 T7 Q2
  have N9 : (putBytes [4, 4] [nl, ns]).length ≤ 92 := by rw [L9.out]; omega
  have M9 : pre3.length + (putBytes [4, 4] [nl, ns]).length ≤ 128 := by rw [L9.out, ← Q3.out]; omega
  go_wp2_with (first
    | (refine wpList_copy_pad rfl (.tmp 59) (.tmp 60) 76 76 rfl 5 Try.underlying76 (by kernel_rfl) w6.heap.size 36 92 92 rfl _ _ rfl T9.out N9 34 pre3 Q3.out P3.out M9 ?_))
  intro w11 P4 bl4 _
  have hp4 : pre3 ++ putBytes [4, 4] [nl, ns] = pre := by
    rw [HP3.out, HP2.out, HPR.out, List.append_assoc, List.append_assoc]
  rw [hp4] at P4
  have V11 := Lib.hid (V10.out.below_trans bl4 (Nat.le_refl _))
  have hb4 := blk_bytes P4 0 124 128 (by rw [padTo_length (by rw [HPL.out]; omega)]; omega) (by omega) (by omega) (by omega)
  have hh4 : ((padTo pre).drop 0).take 124 = hdr := by
    rw [List.drop_zero, ← HPU.out]
    unfold padTo
    rw [List.take_left' HHL.out]
  rw [hh4] at hb4
  have SM := Lib.hid (of_any _ hdr w11 hb4)
  rw [← HUS.out] at SM
  rw [← HPU.out] at P4
  have P4 := Lib.hid P4
  have SM4 := HSL.out
  have ws := wrap_u64_nat sm (by omega)
  clear hp4 bl4 P3 V10 T9 Q3 hb4 hh4
  have UI := Lib.hid (up_alloc w11 (.cells #[.int .i64 4] 3))
  have SM2 := Lib.hid (show Calls Try.prog 36 #[.slice (some ⟨w6.heap.size, 0, none⟩) 124 128] (w11.alloc (.cells #[.int .i64 4] 3)) (fun e w' => e = .returned (.int .u32 (sm : Int)) ∧ (w11.alloc (.cells #[.int .i64 4] 3)) = w') from by
    have P5 := P4.out.up UI.out
    have hb5 := blk_bytes P5 0 124 128 (by rw [padTo_length (by rw [HHL.out]; omega)]; omega) (by omega) (by omega) (by omega)
    have hh5 : ((padTo hdr).drop 0).take 124 = hdr := by
      rw [List.drop_zero]
      unfold padTo
      rw [List.take_left' HHL.out]
    rw [hh5] at hb5
    have := of_any _ hdr _ hb5
    rw [← HUS.out] at this
    exact this)
  have UA := up_alloc w11 (.cells #[.int .i64 4] 3)
  have sza := sz_alloc w11 (.cells #[.int .i64 4] 3)
  have PUT := Lib.hid (show Calls Try.prog 34 #[.slice (some ⟨w11.heap.size, 0, none⟩) 1 1, .slice (some ⟨w11.heap.size + 1, 0, none⟩) 1 1] ((w11.alloc (.cells #[.int .i64 4] 3)).alloc (.cells #[.int .u64 (sm : Int)] 22)) (fun e w' => ∃ v, e = .returned (.tuple #[v, .int .i64 0]) ∧ Own byteCell 5 w' w11.heap.size v (putBytes [4] [sm]) ∧ Up w11 w') from by
    have UB := up_alloc (w11.alloc (.cells #[.int .i64 4] 3)) (.cells #[.int .u64 (sm : Int)] 22)
    have i1 : IsOnes intCell _ (.slice (some ⟨w11.heap.size, 0, none⟩) 1 1) [4] := (IsOnes.litAt (f := intCell) w11 w11.heap.size rfl #[.int .i64 4] 3 (0, 0) [4] 1 rfl (by unfold maxLen; omega) rfl).up UB
    have i2 : IsOnes u64Cell _ (.slice (some ⟨w11.heap.size + 1, 0, none⟩) 1 1) [sm] := IsOnes.litAt (f := u64Cell) (w11.alloc (.cells #[.int .i64 4] 3)) (w11.heap.size + 1) (by rw [sza]) #[.int .u64 (sm : Int)] 22 (0, 0) [sm] 1 rfl (by unfold maxLen; omega) rfl
    refine (put_any _ _ [4] i1 (by simp) _ _ i2 (by intro n hn; simp at hn; omega)).mono fun e w' h => ?_
    rcases h with ⟨_, v, rfl, ho, hu⟩ | ⟨hno, _⟩
    · exact ⟨v, rfl, ho.mono (UA.trans UB).size, (UA.trans UB).trans hu⟩
    · exact absurd (okPut_4 (by omega)) hno)
  clear UA sza SM
  go_wp2_with fail
  refine SM2.out.mono ?_
  rintro e wx ⟨rfl, rfl⟩
  go_wp2_with fail
  refine PUT.out.mono ?_
  rintro e w12 ⟨v15, rfl, O15, U12⟩
  have S15 := Lib.hid O15.ones
  have L15 := Lib.hid (put4_length sm)
  obtain ⟨a15, k15, rfl⟩ := S15.out.slice
  have P5 := Lib.hid (P4.out.up U12)
  have V12 := Lib.hid (V11.out.trans U12)
  have QH := Lib.hid (show (124 : Nat) = hdr.length from HHL.out.symm)
  clear O15 U12 PUT SM2 P4 V11 UI ws SM4
  have N15 : (putBytes [4] [sm]).length ≤ 4 := by rw [L15.out]; omega
  have M15 : hdr.length + (putBytes [4] [sm]).length ≤ 128 := by rw [L15.out, ← QH.out]; omega
  go_wp2_with (first
    | (refine wpList_copy_pad rfl (.tmp 74) (.tmp 75) 76 76 rfl 5 Try.underlying76 (by kernel_rfl) w6.heap.size 124 4 4 rfl _ _ rfl S15.out N15 34 hdr QH.out P5.out M15 ?_))
  intro w13 P6 bl6 _
  rw [← HBY.out, HPA.out] at P6
  have V13 := Lib.hid (V12.out.below_trans bl6 (Nat.le_refl _))
  have Z13 := Lib.hid (Z6.out.up V13.out)
  have U13 := Lib.hid (U10.out.trans V13.out)
  have SB := Lib.hid (show (secC byt).size = 128 by rw [secC_size]; exact HBL.out)
  have SZ8 := Lib.hid (show (Try.prog.info? 34).map (·.size) = some (secC byt).size by rw [SB.out]; exact info_sec)
  have SS8 := Lib.hid (show (secC zeroS).size = (secC byt).size by rw [SB.out]; rfl)
  have SO8 := Lib.hid (secC_one byt)
  have P6 := Lib.hid P6
  clear bl6 P5 V12 V13 S15 QH
  go_wp2_with (first
    | ((with_reducible refine wg_load 34 (.tmp 8) ?_); refine wpList_load_blkG rfl 34 (.tmp 8) rfl w6.heap.size rfl 34 _ P6.out _ Try.underlying34 rfl SZ8.out ?_)
    | ((with_reducible refine wg_store 34 (.tmp 2) (.tmp 77) ?_); refine wpList_store_blk rfl 34 (.tmp 2) (.tmp 77) rfl (w.heap.size + 1) (secC byt) rfl rfl 34 (secC zeroS) Z13.out SZ8.out SS8.out SO8.out ?_))
  intro w14 b14 g14
  have U14 := U13.out.below_trans (below_grown g14 (Nat.le_of_lt Z13.out.lt) (fun j hj => by cases hj; exact Nat.le_refl _)) (Nat.le_succ _)
  go_wp2_with fail
  (try simp only [Exit.inBlock, Exit.then])
  exact bodyPost_ret (v := .tuple #[.agg (secC byt), .int .i64 0]) (results_blk rfl _ _ _ (w.heap.size + 1) 34 _ _ rfl rfl b14 _ Try.underlying34 rfl SZ8.out) rfl ⟨by rw [HV.out, HE.out], U14⟩

end Go.Proofs.Ytgmdhedabmkcoaa
