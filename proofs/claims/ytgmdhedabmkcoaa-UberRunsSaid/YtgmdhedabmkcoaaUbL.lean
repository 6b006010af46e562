/- Ubers as sectors: the document's walk. -/
import Derived.Test.YtgmdhedabmkcoaaUbD
import Derived.Lib.SlBytesConst
set_option linter.unusedSimpArgs false
set_option linter.unusedVariables false
namespace Go.Proofs.Ytgmdhedabmkcoaa
open Go.RowKit Go.Sort

theorem Own.litc {α : Type} (f : α → Value) (e : TypeId) (w : World) (base : Nat) (cs : Array Value) (l : List α) (hb : base ≤ w.heap.size) (hl : cs.toList = l.map f) (hm : l.length ≤ maxLen) (n : Nat) (hn : n = l.length) :
    Own f e (w.alloc (.cells cs e)) base (.slice (some ⟨w.heap.size, 0, none⟩) n n) l := by
  subst hn
  unfold Own
  have hs : cs.size = l.length * 1 := by rw [← Array.length_toList, hl, List.length_map, Nat.mul_one]
  have := World.ownsRow_lit (base := base) (e := e) (size := 1) w cs l.length hb hm hs
  rw [hl] at this
  exact this
def sliceLen : Value → Nat
  | .slice _ n _ => n
  | _ => 0
def twoN (a b k : Nat) : Nat := if k = 0 then a else b
def accN (base : List UInt8) (a b wd k : Nat) : List UInt8 := base ++ (if k = 0 then [] else if k = 1 then numBytes a wd else numBytes a wd ++ numBytes b wd)
theorem accN_step (base : List UInt8) (a b wd k : Nat) (hk : k < 2) : accN base a b wd (k + 1) = accN base a b wd k ++ numBytes (twoN a b k) wd := by
  match k, hk with
  | 0, _ => simp [accN, twoN]
  | 1, _ => simp [accN, twoN]
theorem accN_length (base : List UInt8) (a b wd k : Nat) (hk : k ≤ 2) : (accN base a b wd k).length = base.length + wd * k := by
  match k, hk with
  | 0, _ => simp [accN]
  | 1, _ => simp [accN, numBytes_length]
  | 2, _ => simp [accN, numBytes_length]; omega
theorem index_2u (a b k : Nat) (hk : k < 2) (W : World) : (Instr.index 82 (.agg #[.int .u64 (a : Int), .int .u64 (b : Int)]) (.int .i64 (k : Int))).run Try.prog W = .ok (.int .u64 (twoN a b k : Int)) W := by
  have hs : (sizeOf 22).run Try.prog W = .ok 1 W := by kernel_rfl
  have hg : (isAgg 22).run Try.prog W = .ok false W := by kernel_rfl
  have h : k = 0 ∨ k = 1 := by omega
  rcases h with rfl | rfl <;> simp [Instr.index, asIntOf, run_underlying (P := Try.prog) Try.underlying82, hs, hg, part, twoN]
theorem index_2i (a b k : Nat) (hk : k < 2) (W : World) : (Instr.index 87 (.agg #[.int .i64 (a : Int), .int .i64 (b : Int)]) (.int .i64 (k : Int))).run Try.prog W = .ok (.int .i64 (twoN a b k : Int)) W := by
  have hs : (sizeOf 3).run Try.prog W = .ok 1 W := by kernel_rfl
  have hg : (isAgg 3).run Try.prog W = .ok false W := by kernel_rfl
  have h : k = 0 ∨ k = 1 := by omega
  rcases h with rfl | rfl <;> simp [Instr.index, asIntOf, run_underlying (P := Try.prog) Try.underlying87, hs, hg, part, twoN]
theorem conv_const (w : World) (C : Array Value) (n c : Nat) : (convert 76 76 (.slice (some ⟨w.heap.size, 0, none⟩) n c)).run Try.prog (w.alloc (.cells C 5)) = .ok (.slice (some ⟨w.heap.size, 0, none⟩) n c) (w.alloc (.cells C 5 (C.size, C.size + 1))) :=
  Lib.run_convert_bytes_const w 76 5 C n c Try.underlying76 Try.underlying5
section
variable {α : Type} {P : Program}
/-- Something is appended to a full row, of which nothing but its cells is known. -/
theorem wpList_append_full (f : α → Value) {w : World} {ops : Array Oper} {rest : List Oper} {o : Oper} {a : Act} {Q : Exit → Act → World → Prop} (hgd : o.guard = none) (s x : Operand) (t : TypeId)
    (ho : o.op = .call { callee := .builtin .append, args := #[s, x], argTypes := #[t, t] })
    (base : Nat) (e : TypeId) (z : Value) (bytes : Nat) (ht : P.underlying t = some (.slice e)) (hinfo : (P.info? e).map (fun i => (i.zero, i.size, i.bytes)) = some (some z, 1, bytes)) (hzs : z.cells.size = 1)
    (v : Value) (xs : List α) (hs : a.eval s = v) (g n : Nat) (hv : v = .slice (some ⟨g, 0, none⟩) n n) (hn : n = xs.length) (h0 : 0 < n) (hown : IsOnes f w v xs) (vx : Value) (ys : List α) (hx : a.eval x = vx) (hsrc : IsOnes f w vx ys) (hy : 0 < ys.length)
    (hbytes : (xs.length + ys.length) * bytes ≤ 140737488355328) (hmax : xs.length + ys.length ≤ 9223372036854775807) (hbase : base ≤ w.heap.size)
    (h : ∀ v' w', Own f e w' base v' (xs ++ ys) → Up w w' → wpList P ops Q rest (a.put o.dst v') w') : wpList P ops Q (o :: rest) a w := by
  subst hn
  obtain ⟨i, hi, hz0, hz1, hz2⟩ := info_parts hinfo
  obtain ⟨b, off, hb, hlt, hc⟩ := get_of_ones (hv ▸ hown) rfl h0
  obtain ⟨ax, cx, hvx⟩ := hsrc.slice
  obtain ⟨b2, off2, hb2, hlt2, hc2⟩ := get_of_ones (hvx ▸ hsrc) rfl hy
  simp only [Option.some.injEq, Addr.mk.injEq, and_true] at hb
  obtain ⟨rfl, rfl⟩ := hb
  subst hb2
  have holds : ∀ j u, (xs.map f)[j]? = some u → w.cell? ((⟨g, 0, none⟩ : Addr).add j) = some u := fun j u hj => by
    simp only [List.getElem?_map, Option.map_eq_some_iff] at hj
    obtain ⟨y, hy, rfl⟩ := hj
    obtain ⟨hjl, rfl⟩ := getElem_of_some hy
    rw [add_plain]
    exact hc j hjl
  have hnews : ∀ j u, (ys.map f)[j]? = some u → w.cell? ((⟨b2, off2, none⟩ : Addr).add j) = some u := fun j u hj => by
    simp only [List.getElem?_map, Option.map_eq_some_iff] at hj
    obtain ⟨y, hy, rfl⟩ := hj
    obtain ⟨hjl, rfl⟩ := getElem_of_some hy
    rw [add_plain]
    exact hc2 j hjl
  have hr := run_append_grow (P := P) w t o.type e i z ht hi hz0 ⟨g, 0, none⟩ xs.length xs.length (xs.map f) (by rw [hz1]; simp) holds ⟨b2, off2, none⟩ ys.length cx (ys.map f) (by rw [hz1]; simp) hnews (by omega) (by omega) (by rw [hz2]; exact growslice_fits (by omega) hbytes)
  have hge := grownCap_ge w (xs.length + ys.length) xs.length e
  have hcm : grownCap w (xs.length + ys.length) xs.length e ≤ maxLen := grownCap_le_maxLen w _ _ e (by unfold maxLen; omega)
  refine wpList_plain hgd fun K hK => ?_
  unfold Oper.wp execOp
  simp only [ho, resolve, invoke, builtin, Sem.run_bind, Sem.run_pure, Result.andThen_ok, List.map_toArray, List.map_cons, List.map_nil, hs, hx, hv, hvx, hr]
  refine hK _ _ (h _ _ ?_ ?_)
  · unfold Own
    rw [List.length_append, List.map_append]
    refine ⟨by simp, .inr ⟨w.heap.size, _, _, rfl, hbase, heap_alloc_new w.drew _, hge, hcm, ?_, ?_⟩⟩
    · simp only [Array.size_append, List.size_toArray, size_zeroCells, hzs, List.length_map, Nat.mul_one]
      omega
    · simp only [Array.toList_append, List.append_assoc]
      rw [← List.append_assoc, List.take_left' (by simp)]
  · exact (Up.refl w).drew.alloc _
end
theorem ubPre_acc (u : UbD) (l s : Nat) (hl : u.len = (l : Int)) (hs : u.sec = (s : Int)) : ubPre u = accN (accN magicB u.txg u.stamp 8 2 ++ ptrBytes u.tab) l s 4 2 := by
  unfold ubPre accN
  rw [hl, hs]
  simp [putBytes]
theorem pad_snoc (p : List UInt8) (k : Nat) : p ++ List.replicate (k + 1) (0 : UInt8) = (p ++ List.replicate k 0) ++ [0] := by
  rw [List.append_assoc, ← List.replicate_succ']
set_option maxRecDepth 100000 in
set_option maxHeartbeats 8000000 in
theorem urefBytes_any (w : World) (u : UbD) (hwf : u.wf) :
    Calls Try.prog 13 #[.agg (uC u)] w fun e w' => e = .returned (.tuple #[.agg (secC (ubV u).val), .int .i64 (ubE u)]) ∧ Up w w' := by
  have HI := Lib.hid (info_uV u)
  have UA1 := up_alloc w (.cells (uC u) 27)
  have UA2 := up_alloc (w.alloc (.cells (uC u) 27)) (.cells (secC zeroS) 34)
  have sz1 := sz_alloc w (.cells (uC u) 27)
  have B1 := Lib.hid ((Blk.new w 27 (uC u)).up UA2)
  have z1 := Blk.new (w.alloc (.cells (uC u) 27)) 34 (secC zeroS)
  rw [sz1] at z1
  have Z1 := Lib.hid z1
  have U1 := Lib.hid (UA1.trans UA2)
  have RR := Lib.hid (fun W => urefRight_any W u)
  clear UA1 UA2 sz1 z1
  cases hr : rightU u
  · have HV := Lib.hid (show ubV u = zSec by unfold ubV; rw [hr]; rfl)
    have HE := Lib.hid (show ubE u = 61 by unfold ubE; rw [hr]; rfl)
    rw [hr] at RR
    clear hr
    go_enter Try.func13, Try.ntmps13
    go_wp2_with (first
      | ((with_reducible refine wg_load 27 (.tmp 1) ?_); refine wpList_load_blkG rfl 27 (.tmp 1) rfl w.heap.size rfl 27 _ B1.out _ Try.underlying27 rfl HI.out ?_))
    refine (RR.out _).mono ?_
    rintro e w2 ⟨rfl, U2⟩
    have Z2 := Lib.hid (Z1.out.up U2)
    have U2 := Lib.hid (U1.out.trans U2)
    clear B1 Z1 U1 RR
    go_wp2_with (first
      | ((with_reducible refine wg_build 34 #[] ?_); refine wpList_build0 rfl 34 rfl (secC zeroS) built_sec ?_)
      | ((with_reducible refine wg_store 34 (.tmp 2) (.tmp 22) ?_); refine wpList_store_blk rfl 34 (.tmp 2) (.tmp 22) rfl (w.heap.size + 1) (secC zeroS) rfl rfl 34 (secC zeroS) Z2.out info_sec rfl (secC_one _) ?_))
    intro w6 hz6 hg6
    have up6 : Up w w6 := U2.out.below_trans (below_grown hg6 (Nat.le_of_lt Z2.out.lt) (fun j hj => by cases hj; exact Nat.le_refl _)) (Nat.le_succ _)
    go_wp2_with fail
    (try simp only [Exit.inBlock, Exit.then])
    refine bodyPost_ret (v := .tuple #[.agg (secC zeroS), .int .i64 61]) (results_blk rfl _ _ _ (w.heap.size + 1) 34 _ _ rfl rfl hz6 _ Try.underlying34 rfl info_sec) rfl ⟨by rw [HV.out, HE.out]; rfl, up6⟩
  have HV := Lib.hid (show (ubV u).val = ubBytes u by unfold ubV; rw [if_pos hr])
  have HE := Lib.hid (show ubE u = 0 by unfold ubE; rw [hr]; rfl)
  obtain ⟨h1, h2, ⟨h3, _⟩, h4, h5⟩ := (rightU_iff u).1 hr
  obtain ⟨ln, hln⟩ : ∃ n : Nat, u.len = (n : Int) := ⟨u.len.toNat, by omega⟩
  obtain ⟨sc, hsc⟩ : ∃ n : Nat, u.sec = (n : Int) := ⟨u.sec.toNat, by omega⟩
  have HP := Lib.hid (ubPre_acc u ln sc hln hsc)
  have PL := Lib.hid (ubPre_length u)
  have BLN := Lib.hid (show ln ≤ 65535 by omega)
  have BSC := Lib.hid (show sc ≤ 1024 by omega)
  have PB := Lib.hid (show ∀ W, Calls Try.prog 38 #[.agg (pcA u.tab)] W fun e w' => ∃ v, e = .returned (.tuple #[v, .int .i64 0]) ∧ Own byteCell 5 w' W.heap.size v (ptrBytes u.tab) ∧ Up W w' from fun W => (refBytes_any W u.tab hwf.2.2.1).mono fun e w' h => by
    rcases h with ⟨_, h⟩ | ⟨hno, _⟩
    · exact h
    · rw [h3] at hno; cases hno)
  have TBL := Lib.hid (ptrB_length u.tab)
  have HHD := Lib.hid (show ubHead u = ubPre u ++ List.replicate 80 0 from rfl)
  have HDL := Lib.hid (ubHead_length u)
  have HSM := Lib.hid (show ubSum u = crcMore 0 (ubHead u) from rfl)
  have HSL := Lib.hid (ubSum_lt u)
  have HBB := Lib.hid (show ubBytes u = ubHead u ++ numBytes (ubSum u) 4 by unfold ubBytes; simp [putBytes])
  have HBL := Lib.hid (ubBytes_length u)
  rw [hr] at RR
  obtain ⟨txg, stamp, tab, len, sec⟩ := u
  simp only at hln hsc h1 h2
  subst hln hsc
  dsimp only at HP PB TBL
  have WX := Lib.hid hwf
  have HIN := Lib.hid (info_pcU tab)
  have BT := Lib.hid (show txg < 18446744073709551616 by omega)
  have BS := Lib.hid (show stamp < 18446744073709551616 by omega)
  clear hr h1 h2 h3 h4 h5 hwf
  go_enter Try.func13, Try.ntmps13
  go_wp2_with (first
    | ((with_reducible refine wg_load 27 (.tmp 1) ?_); refine wpList_load_blkG rfl 27 (.tmp 1) rfl w.heap.size rfl 27 _ B1.out _ Try.underlying27 rfl HI.out ?_))
  refine (RR.out _).mono ?_
  rintro e w2 ⟨rfl, U2⟩
  have Z2 := Lib.hid (Z1.out.up U2)
  have B2 := Lib.hid (B1.out.up U2)
  have UU2 := Lib.hid (U1.out.trans U2)
  have UA := up_alloc w2 (.cells #[.int .u8 65, .int .u8 81, .int .u8 70, .int .u8 82] 5 (4, 5))
  obtain ⟨c0, c1, _, _, _, _⟩ := uC_at (B2.out.up UA)
  have OW := Lib.hid (IsOnes.litAt (f := byteCell) w2 w2.heap.size rfl #[.int .u8 65, .int .u8 81, .int .u8 70, .int .u8 82] 5 (4, 5) magicB 4 rfl (by unfold maxLen; omega) rfl)
  have UA := Lib.hid UA
  clear B1 Z1 U1 RR U2
  have CV := conv_const w2 #[.int .u8 65, .int .u8 81, .int .u8 70, .int .u8 82] 4 4
  go_wp2_with fail
  clear c0 c1 CV
  go_loopw [4, 30] (fun v i wr => ∃ k : Nat, k ≤ 2 ∧ i = .int .i64 k ∧ ((k = 0 ∧ v = .slice (some ⟨w2.heap.size, 0, none⟩) 4 4 ∧ IsOnes byteCell wr v magicB) ∨ (k ≠ 0 ∧ Own byteCell 5 wr w2.heap.size v (accN magicB txg stamp 8 k))) ∧ Up w2 wr) (fun _ i _ => 2 - (intOf i).toNat)
  case atStart => exact ⟨0, by omega, rfl, .inl ⟨rfl, rfl, OW.out⟩, UA.out⟩
  case round =>
    obtain ⟨k, hk, rfl, hown, upr⟩ := hrel
    have HO := Lib.hid hown
    have UPR := Lib.hid upr
    clear hown upr OW UA
    by_cases hlt : k < 2
    · have b2 : ((k : Int) < 2) = True := by simp; omega
      have IX := fun W => index_2u txg stamp k hlt W
      have ST := Lib.hid (accN_step magicB txg stamp 8 k hlt)
      have LE := Lib.hid (accN_length magicB txg stamp 8 k hk)
      have A0 := Lib.hid (show accN magicB txg stamp 8 0 = magicB by simp [accN])
      have XB : twoN txg stamp k < 18446744073709551616 := by unfold twoN; split; exact BT.out; exact BS.out
      have NL := Lib.hid (numBytes_length 8 (twoN txg stamp k))
      have NB := Lib.hid (fun W => number_any W (twoN txg stamp k) XB 8 (by omega))
      clear XB
      rcases HO.out with ⟨h0, hv, hon⟩ | ⟨h0, hown⟩
      · subst hv
        rw [show accN magicB txg stamp 8 k = magicB by rw [h0]; exact A0.out] at ST
        have V0 := Lib.hid hon
        have H0 := Lib.hid h0
        generalize twoN txg stamp k = x at *
        clear hon LE A0 HO h0
        go_wp2_with fail
        refine (NB.out _).mono ?_
        rintro e w5 ⟨v5, rfl, ho5, up5⟩
        have V0 := Lib.hid (V0.out.up up5)
        have V5 := Lib.hid ho5.ones
        have U5 := Lib.hid (UPR.out.trans up5)
        have SZ := Lib.hid U5.out.size
        clear ho5 up5 UPR NB
        go_wp2_with (first
          | (at_builtin; refine wpList_append_full byteCell rfl (.tmp 38) (.tmp 39) 76 rfl (w2.heap.size) 5 (.int .u8 0) 1 Try.underlying76 info_u8 rfl _ magicB rfl w2.heap.size 4 rfl rfl (by omega) V0.out v5 (numBytes x 8) rfl V5.out (by rw [NL.out]; omega) (by rw [NL.out]; simp only [magicB, List.length_cons, List.length_nil]; omega) (by rw [NL.out]; simp only [magicB, List.length_cons, List.length_nil]; omega) (SZ.out) ?_))
        intro v' w6 hown6 hb6
        go_wp2_with fail
        go_roundw
        case rel => exact ⟨k + 1, by omega, by go_num, .inr ⟨by omega, by rw [ST.out]; exact hown6⟩, U5.out.trans hb6⟩
        case measure => simp [intOf]; omega
      · have HO := Lib.hid hown
        clear h0
        generalize twoN txg stamp k = x at *
        generalize accN magicB txg stamp 8 k = acc at *
        clear hown
        go_wp2_with fail
        refine (NB.out _).mono ?_
        rintro e w5 ⟨v5, rfl, ho5, up5⟩
        have O5 := Lib.hid (HO.out.up up5)
        have V5 := Lib.hid ho5.ones
        have U5 := Lib.hid (UPR.out.trans up5)
        have SZ := Lib.hid U5.out.size
        clear ho5 up5 HO UPR NB
        go_wp2_with (first
          | (at_builtin; refine wpList_append_ones byteCell byteCell_one rfl (.tmp 38) (.tmp 39) 76 rfl (w2.heap.size) 5 (.int .u8 0) 1 Try.underlying76 info_u8 rfl _ (acc) rfl O5.out v5 (numBytes x 8) rfl V5.out (by rw [LE.out, NL.out]; simp only [magicB, List.length_cons, List.length_nil]; omega) (by rw [LE.out, NL.out]; simp only [magicB, List.length_cons, List.length_nil]; omega) (SZ.out) ?_))
        intro v' w6 hown6 _ hb6
        go_wp2_with fail
        go_roundw
        case rel => exact ⟨k + 1, by omega, by go_num, .inr ⟨by omega, by rw [ST.out]; exact hown6⟩, U5.out.below_trans hb6 (Nat.le_refl _)⟩
        case measure => simp [intOf]; omega
    · obtain rfl : k = 2 := by omega
      have b2 : ((2 : Nat) : Int) = 2 := rfl
      have LE := Lib.hid (show (accN magicB txg stamp 8 2).length = 20 by rw [accN_length _ _ _ _ _ (Nat.le_refl _)]; rfl)
      obtain ⟨_, _, _, _, _, R2⟩ := uC_at (B2.out.up UPR.out)
      have HO := Lib.hid (show Own byteCell 5 wr w2.heap.size _ (accN magicB txg stamp 8 2) from by
        rcases HO.out with ⟨h0, _⟩ | ⟨_, h⟩
        · omega
        · exact h)
      generalize accN magicB txg stamp 8 2 = acc at *
      clear hlt hk
      go_wp2_with (first
        | ((with_reducible refine wg_load 25 (.tmp 43) ?_); refine wl_part rfl 25 (.tmp 43) rfl w.heap.size 2 rfl (pcA tab) R2.out _ Try.underlying25 rfl HIN.out ?_))
      refine (PB.out _).mono ?_
      rintro e w5 ⟨v5, rfl, ho5, up5⟩
      have O5 := Lib.hid (HO.out.up up5)
      have V5 := Lib.hid ho5.ones
      have U5 := Lib.hid (UPR.out.trans up5)
      have SZ := Lib.hid U5.out.size
      have LP := Lib.hid (show (acc ++ ptrBytes tab).length = 36 by rw [List.length_append, LE.out, TBL.out])
      clear ho5 up5 HO UPR PB R2
      go_wp2_with (first
        | (at_builtin; refine wpList_append_ones byteCell byteCell_one rfl (.tmp 48) (.tmp 49) 76 rfl (w2.heap.size) 5 (.int .u8 0) 1 Try.underlying76 info_u8 rfl _ (acc) rfl O5.out v5 (ptrBytes tab) rfl V5.out (by rw [LE.out, TBL.out]; omega) (by rw [LE.out, TBL.out]; omega) (SZ.out) ?_))
      intro v6 w6 hown6 _ hb6
      have U6 := Lib.hid (U5.out.below_trans hb6 (Nat.le_refl _))
      have O6 := Lib.hid hown6
      clear hown6 hb6 O5 V5 U5 SZ
      obtain ⟨_, _, _, c5, c6, _⟩ := uC_at (B2.out.up U6.out)
      generalize acc ++ ptrBytes tab = acc2 at *
      go_wp2_with fail
      clear c5 c6
      go_loopw [4, 56] (fun v i wr => ∃ k : Nat, k ≤ 2 ∧ i = .int .i64 k ∧ Own byteCell 5 wr w2.heap.size v (accN acc2 ln sc 4 k) ∧ Up w2 wr) (fun _ i _ => 2 - (intOf i).toNat)
      case atStart => exact ⟨0, by omega, rfl, by unfold accN; simpa using O6.out, U6.out⟩
      case round =>
        obtain ⟨k, hk, rfl, hown, upr⟩ := hrel
        have HO := Lib.hid hown
        have UPR := Lib.hid upr
        clear hown upr O6 U6
        by_cases hlt : k < 2
        · have b2 : ((k : Int) < 2) = True := by simp; omega
          have IX := fun W => index_2i ln sc k hlt W
          have ST := Lib.hid (accN_step acc2 ln sc 4 k hlt)
          have LE2 := Lib.hid (accN_length acc2 ln sc 4 k hk)
          have XB : twoN ln sc k < 65536 := by have := BLN.out; have := BSC.out; unfold twoN; split <;> omega
          have wx := wrap_u64_nat (twoN ln sc k) (by omega)
          have NL := Lib.hid (numBytes_length 4 (twoN ln sc k))
          have NB := Lib.hid (fun W => number_any W (twoN ln sc k) (by omega) 4 (by omega))
          clear XB
          generalize twoN ln sc k = x at *
          generalize accN acc2 ln sc 4 k = acc3 at *
          go_wp2_with fail
          refine (NB.out _).mono ?_
          rintro e w5 ⟨v5, rfl, ho5, up5⟩
          have O5 := Lib.hid (HO.out.up up5)
          have V5 := Lib.hid ho5.ones
          have U5 := Lib.hid (UPR.out.trans up5)
          have SZ := Lib.hid U5.out.size
          clear ho5 up5 HO UPR NB
          go_wp2_with (first
            | (at_builtin; refine wpList_append_ones byteCell byteCell_one rfl (.tmp 65) (.tmp 66) 76 rfl (w2.heap.size) 5 (.int .u8 0) 1 Try.underlying76 info_u8 rfl _ (acc3) rfl O5.out v5 (numBytes x 4) rfl V5.out (by rw [LE2.out, NL.out, LP.out]; omega) (by rw [LE2.out, NL.out, LP.out]; omega) (SZ.out) ?_))
          intro v' w6 hown6 _ hb6
          go_wp2_with fail
          go_roundw
          case rel => exact ⟨k + 1, by omega, by go_num, by rw [ST.out]; exact hown6, U5.out.below_trans hb6 (Nat.le_refl _)⟩
          case measure => simp [intOf]; omega
        · obtain rfl : k = 2 := by omega
          have b2 : ((2 : Nat) : Int) = 2 := rfl
          rw [← HP.out] at HO
          clear HP hlt hk LP LE
          generalize ubPre ⟨txg, stamp, tab, (ln : Int), (sc : Int)⟩ = pre at *
          go_wp2_with fail
          go_loopw [4] (fun v wr => ∃ k : Nat, k ≤ 80 ∧ Own byteCell 5 wr w2.heap.size v (pre ++ List.replicate k 0) ∧ Up w2 wr) (fun v _ => 124 - sliceLen v)
          case atStart => exact ⟨0, by omega, by simpa using HO.out, UPR.out⟩
          case round =>
            obtain ⟨k, hk, hown, upr⟩ := hrel
            have LE := Lib.hid (show (pre ++ List.replicate k (0 : UInt8)).length = 44 + k by rw [List.length_append, PL.out, List.length_replicate])
            have ST := Lib.hid (pad_snoc pre k)
            have HO := Lib.hid hown
            have UPR := Lib.hid upr
            obtain ⟨va, vc, rfl⟩ := hown.ones.slice
            clear hown upr
            by_cases hlt : k < 80
            · have b3 : (((44 + k : Nat) : Int) < 124) = True := by simp; omega
              generalize pre ++ List.replicate k (0 : UInt8) = acc4 at *
              rw [LE.out] at HO ⊢
              have UA := up_alloc wr (.cells #[.int .u8 0] 5)
              have O5 := Lib.hid (HO.out.up UA)
              have U5 := Lib.hid (UPR.out.trans UA)
              have SZ := Lib.hid U5.out.size
              have V5 := Lib.hid (IsOnes.lit (f := byteCell) wr #[.int .u8 0] 5 (0, 0) [(0 : UInt8)] 1 rfl (by unfold maxLen; omega) rfl)
              clear UA HO UPR
              go_wp2_with (first
                | (at_builtin; refine wpList_append_ones byteCell byteCell_one rfl (.tmp 72) (.tmp 73) 76 rfl (w2.heap.size) 5 (.int .u8 0) 1 Try.underlying76 info_u8 rfl _ (acc4) rfl O5.out (.slice (some ⟨wr.heap.size, 0, none⟩) 1 1) ([(0 : UInt8)]) rfl V5.out (by rw [LE.out]; simp only [List.length_cons, List.length_nil]; omega) (by rw [LE.out]; simp only [List.length_cons, List.length_nil]; omega) (SZ.out) ?_))
              intro v' w6 hown6 _ hb6
              go_wp2_with fail
              obtain ⟨vb, vd, rfl⟩ := hown6.ones.slice
              have LV := Lib.hid (show (acc4 ++ [(0 : UInt8)]).length = 44 + (k + 1) by rw [List.length_append, LE.out]; rfl)
              refine ⟨⟨_, _, _, _, _, _, _, ⟨k + 1, by omega, by rw [ST.out]; exact hown6, U5.out.below_trans hb6 (Nat.le_refl _)⟩, rfl⟩, ?_⟩
              show 124 - (acc4 ++ [(0 : UInt8)]).length < 124 - (44 + k)
              rw [LV.out]
              omega
            · obtain rfl : k = 80 := by omega
              rw [← HHD.out] at HO LE ⊢
              have b3 : (((124 : Nat) : Int) < 124) = False := by simp
              have MR := Lib.hid (fun W => refMore_any 0 (by omega) (.slice va (ubHead ⟨txg, stamp, tab, (ln : Int), (sc : Int)⟩).length vc) (ubHead ⟨txg, stamp, tab, (ln : Int), (sc : Int)⟩) W)
              rw [← HSM.out] at MR
              clear HSM HHD ST hlt hk
              generalize ubSum ⟨txg, stamp, tab, (ln : Int), (sc : Int)⟩ = sm at *
              generalize ubBytes ⟨txg, stamp, tab, (ln : Int), (sc : Int)⟩ = bs at *
              generalize ubHead ⟨txg, stamp, tab, (ln : Int), (sc : Int)⟩ = hd at *
              rw [HDL.out] at HO MR ⊢
              have wx := wrap_u64_nat sm (by have := HSL.out; omega)
              have MR0 := (MR.out _ HO.out.ones)
              have MR0 := Lib.hid (show Calls Try.prog 39 #[.int .u32 0, .slice va 124 vc] wr (fun e w' => e = .returned (.int .u32 (sm : Nat)) ∧ wr = w') from MR0)
              have NL := Lib.hid (numBytes_length 4 sm)
              have NB := Lib.hid (fun W => number_any W sm (by have := HSL.out; omega) 4 (by omega))
              clear MR LE
              go_wp2_with fail
              refine MR0.out.mono ?_
              rintro e w4 ⟨rfl, rfl⟩
              go_wp2_with fail
              refine (NB.out _).mono ?_
              rintro e w5 ⟨v5, rfl, ho5, up5⟩
              have O5 := Lib.hid (HO.out.up up5)
              have V5 := Lib.hid ho5.ones
              have U5 := Lib.hid (UPR.out.trans up5)
              have SZ := Lib.hid U5.out.size
              clear ho5 up5 HO UPR NB MR0
              go_wp2_with (first
                | (at_builtin; refine wpList_append_ones byteCell byteCell_one rfl (.tmp 82) (.tmp 83) 76 rfl (w2.heap.size) 5 (.int .u8 0) 1 Try.underlying76 info_u8 rfl _ (hd) rfl O5.out v5 (numBytes sm 4) rfl V5.out (by rw [HDL.out, NL.out]; omega) (by rw [HDL.out, NL.out]; omega) (SZ.out) ?_))
              intro v6 w6 hown6 _ hb6
              rw [← HBB.out] at hown6
              have U6 := Lib.hid (U5.out.below_trans hb6 (Nat.le_refl _))
              have USL := Lib.hid (secTo_length _ HBL.out)
              have US := Lib.hid (secTo_step _ HBL.out)
              have UE := Lib.hid (secTo_end _ HBL.out)
              have OO := Lib.hid hown6
              clear hown6 hb6 O5 V5 U5 SZ
              obtain ⟨bg, bc, rfl, hg1, hg2, hcell, _, _⟩ := OO.out.row (by have := HBL.out; omega)
              have HC := Lib.hid hcell
              rw [HBL.out] at OO ⊢
              clear hcell
              go_wp2_with (first
                | ((with_reducible refine wg_build 34 #[] ?_); refine wpList_build0 rfl 34 rfl (secC zeroS) built_sec ?_)
                | ((with_reducible refine wg_alloc 34 ?_); refine wpList_alloc_blk rfl 34 rfl (secC zeroS) zero_sec ?_)
                | ((with_reducible refine wg_store 34 (.tmp 17) (.tmp 85) ?_); refine ws_new w6 rfl 34 (.tmp 17) (.tmp 85) rfl (secC zeroS) 34 (secC zeroS) rfl rfl rfl info_sec rfl (secC_one _) ?_))
              have B8 := Lib.hid (Blk.new w6 34 (secC zeroS))
              go_loopw [18] (fun i wr => ∃ k : Nat, k ≤ 128 ∧ i = .int .i64 k ∧ Blk wr w6.heap.size 34 (secC (secTo bs k)) ∧ Up w6 wr) (fun i _ => 128 - (intOf i).toNat)
              case atStart => exact ⟨0, Nat.zero_le _, rfl, B8.out, up_alloc _ _⟩
              case round =>
                obtain ⟨k, hk, rfl, hb, up8⟩ := hrel
                have HB := Lib.hid hb
                clear hb
                by_cases hlt : k < 128
                · have hkl : k < bs.length := by rw [HBL.out]; exact hlt
                  have b2 : ((k : Int) < 128) = True := by simp; omega
                  have d0 := up8.cell (HC.out k hkl)
                  have d1 := sec_cell HB.out k (by rw [USL.out k hk]; exact hlt)
                  have d2 := HB.out.free k
                  have ST := Lib.hid (US.out k hkl)
                  generalize bs[k] = c at *
                  generalize (secTo bs k)[k]'_ = c0 at *
                  unfold byteCell at d0 d1
                  go_wp2_with fail
                  go_roundw
                  case rel => exact ⟨k + 1, by omega, by go_num, by rw [← ST.out]; exact HB.out.setCell k (byteCell c), up8.below_trans (below_grown (grown_setCell HB.out k (byteCell c)) (Nat.le_of_lt HB.out.lt) (fun j hj => by cases hj; exact Nat.le_refl _)) (Nat.le_refl _)⟩
                  case measure => simp [intOf]; omega
                · obtain rfl : k = 128 := by omega
                  have b2 : ((128 : Nat) : Int) = 128 := rfl
                  have hb := HB.out
                  rw [UE.out] at hb
                  have HB8 := Lib.hid hb
                  have bss : (secC bs).size = 128 := by rw [secC_size, HBL.out]
                  have SZ8 := Lib.hid (show (Try.prog.info? 34).map (·.size) = some (secC bs).size by rw [bss]; exact info_sec)
                  have SS8 := Lib.hid (show (secC zeroS).size = (secC bs).size by rw [bss]; rfl)
                  have HZ := Lib.hid (Z2.out.up (U6.out.trans up8))
                  have UZ := Lib.hid (UU2.out.trans (U6.out.trans up8))
                  clear hb bss
                  go_wp2_with (first
                    | ((with_reducible refine wg_load 34 (.tmp 17) ?_); refine wpList_load_blkG rfl 34 (.tmp 17) rfl w6.heap.size rfl 34 _ HB8.out _ Try.underlying34 rfl SZ8.out ?_)
                    | ((with_reducible refine wg_store 34 (.tmp 2) (.tmp 96) ?_); refine wpList_store_blk rfl 34 (.tmp 2) (.tmp 96) rfl (w.heap.size + 1) (secC bs) rfl rfl 34 (secC zeroS) HZ.out SZ8.out SS8.out (secC_one _) ?_))
                  intro w9 hz9 hg9
                  have up9 : Up w w9 := UZ.out.below_trans (below_grown hg9 (Nat.le_of_lt HZ.out.lt) (fun j hj => by cases hj; exact Nat.le_refl _)) (Nat.le_succ _)
                  go_wp2_with fail
                  (try simp only [Exit.inBlock, Exit.then])
                  refine bodyPost_ret (v := .tuple #[.agg (secC bs), .int .i64 0]) (results_blk rfl _ _ _ (w.heap.size + 1) 34 _ _ rfl rfl hz9 _ Try.underlying34 rfl SZ8.out) rfl ⟨by rw [HV.out, HE.out], up9⟩

end Go.Proofs.Ytgmdhedabmkcoaa
