/- Best; small; there and back; the example of layer 6; UberNames. -/
import Derived.Test.YtgmdhedabmkcoaaUbG
import Derived.Test.YtgmdhedabmkcoaaDevN
set_option linter.unusedSimpArgs false
set_option linter.unusedVariables false
namespace Go.Proofs.Ytgmdhedabmkcoaa
open Go.RowKit Go.Sort

def DevD.bestU (v : DevD) : Option UbD := v.ringU.getLast?
def BestPost (v : DevD) (h : Hnd) (w : World) (e : Ending) (w' : World) : Prop :=
  e = .returned (.tuple #[.agg (uC (v.bestU.getD zUb)), .bool v.bestU.isSome]) ∧ Dv w' h (v.counts 4) ∧ Touch (Foot h) w w'
theorem wl_build2 {P : Program} {ops : Array Oper} {rest : List Oper} {o : Oper} {a : Act} {w : World} {Q : Exit → Act → World → Prop} (hw : Region.wanted o (yielded ops a.tmps) = true) (t : TypeId) (i0 i1 : Nat) (x0 x1 : Operand) (ho : o.op = .build t #[(i0, x0), (i1, x1)])
    (v0 v1 : Value) (C : Array Value) (hb : P.built t [(i0, v0), (i1, v1)] = some C) (h0 : a.eval x0 = v0) (h1 : a.eval x1 = v1) (h : wpList P ops Q rest (a.put o.dst (.agg C)) w) : wpList P ops Q (o :: rest) a w :=
  BigFrame.wpList_want hw fun _ hK => wp_build t #[(i0, x0), (i1, x1)] ho (by simp [h0, h1, hb]) (hK _ _ (by simpa [h0, h1, hb] using h))
theorem wl_build5 {P : Program} {ops : Array Oper} {rest : List Oper} {o : Oper} {a : Act} {w : World} {Q : Exit → Act → World → Prop} (hw : Region.wanted o (yielded ops a.tmps) = true) (t : TypeId) (i0 i1 i2 i3 i4 : Nat) (x0 x1 x2 x3 x4 : Operand) (ho : o.op = .build t #[(i0, x0), (i1, x1), (i2, x2), (i3, x3), (i4, x4)])
    (v0 v1 v2 v3 v4 : Value) (C : Array Value) (hb : P.built t [(i0, v0), (i1, v1), (i2, v2), (i3, v3), (i4, v4)] = some C) (h0 : a.eval x0 = v0) (h1 : a.eval x1 = v1) (h2 : a.eval x2 = v2) (h3 : a.eval x3 = v3) (h4 : a.eval x4 = v4) (h : wpList P ops Q rest (a.put o.dst (.agg C)) w) : wpList P ops Q (o :: rest) a w :=
  BigFrame.wpList_want hw fun _ hK => wp_build t #[(i0, x0), (i1, x1), (i2, x2), (i3, x3), (i4, x4)] ho (by simp [h0, h1, h2, h3, h4, hb]) (hK _ _ (by simpa [h0, h1, h2, h3, h4, hb] using h))

set_option maxRecDepth 100000 in
set_option maxHeartbeats 4000000 in
theorem best_any (w : World) (h : Hnd) (v : DevD) (D : Dv w h v) : Calls Try.prog 9 #[.pointer (some ⟨h.d, 0, none⟩)] w fun e w' => BestPost v h w e w' := by
  have FLT := Lib.hid D.foot_lt
  have U1 := Lib.hid (up_alloc w (.cells (uC zUb) 27))
  have Z1 := Lib.hid (Blk.new w 27 (uC zUb))
  have LS := Lib.hid (list_any _ h v (D.up U1.out))
  have BZ := Lib.hid built_ub0
  have HZI := Lib.hid (info_uV zUb)
  have HZ1 := Lib.hid (uC_one zUb)
  have BB := Lib.hid (show v.bestU = v.ringU.getLast? from rfl)
  clear D
  go_enter Try.func9, Try.ntmps9
  go_wp2_with (first
    | ((with_reducible refine wg_alloc 27 ?_); refine wpList_alloc_blk rfl 27 rfl (uC zUb) zero_ub ?_))
  refine LS.out.mono ?_
  rintro e w3 ⟨a, n, c, rfl, IR, FR, D3, T3⟩
  have T3' := Lib.hid ((Touch.of_up (F := Foot h) U1.out).trans T3 (fun n hn _ => hn))
  have Z3 := Lib.hid (Z1.out.touch T3 (fun hf => by have := FLT.out _ hf; omega))
  have D3 := Lib.hid D3
  have IR := Lib.hid IR
  obtain ⟨l, hl⟩ : ∃ l, l = v.ringU := ⟨_, rfl⟩
  rw [← hl] at IR BB
  clear T3 U1 Z1 LS hl FR
  obtain rfl : n = l.length := by obtain ⟨_, _, h⟩ := IR.out.slice; simp at h; exact h.2.1
  have NF := Lib.hid (show ¬ Foot h w.heap.size from fun hf => by have := FLT.out _ hf; omega)
  by_cases h0 : l.length = 0
  · have HB := Lib.hid (show v.bestU = none by rw [BB.out, List.length_eq_zero_iff.1 h0]; rfl)
    rw [h0]
    clear h0 IR BB
    go_wp2_with (first
      | ((with_reducible refine wg_build 27 #[] ?_); refine wpList_build0 rfl 27 rfl (uC zUb) BZ.out ?_)
      | ((with_reducible refine wg_store 27 (.tmp 2) (.tmp 10) ?_); refine wpList_store_blk rfl 27 (.tmp 2) (.tmp 10) rfl w.heap.size (uC zUb) rfl rfl 27 (uC zUb) Z3.out HZI.out rfl HZ1.out ?_))
    intro w9 b9 g9
    have GT := Touch.of_grown (F := fun b => b = w.heap.size) g9 (fun b hb => by cases hb; rfl)
    have D9 := Lib.hid (D3.out.touch GT (fun b hb e => NF.out (e ▸ hb)))
    have T9 := Lib.hid (T3'.out.trans GT (fun n hn hl => by omega))
    clear GT g9
    go_wp2_with fail
    (try simp only [Exit.inBlock, Exit.then])
    exact bodyPost_ret (v := .tuple #[.agg (uC zUb), .bool false]) (results_blk rfl _ _ _ w.heap.size 27 _ _ rfl rfl b9 _ Try.underlying27 rfl HZI.out) rfl ⟨by rw [HB.out]; rfl, D9.out, T9.out⟩
  obtain ⟨m, hm⟩ : ∃ m, l.length = m + 1 := ⟨l.length - 1, by omega⟩
  have hml : m < l.length := by omega
  obtain ⟨b, off, rfl, _, _, hc⟩ := IsRow.get IR.out uw (by omega)
  have RG := Lib.hid (show w3.rangeAt b (off + m * 7) (uC l[m]).toList from fun j u hj => by
    have := hc m hml j u hj
    rwa [show off + (m * 7 + j) = off + m * 7 + j by omega] at this)
  have HB := Lib.hid (show v.bestU = some l[m] by
    rw [BB.out, List.getLast?_eq_getElem?, hm, Nat.add_sub_cancel, List.getElem?_eq_getElem hml])
  have hlen := IR.out.length_le
  generalize l[m] = u at *
  have HIU := Lib.hid (info_uV u)
  have HU1 := Lib.hid (uC_one u)
  rw [hm] at hlen ⊢
  have b1 : (((m + 1 : Nat) : Int) == 0) = false := by simp; omega
  have wm : ((m + 1 : Nat) : Int) - 1 = (m : Int) := by omega
  have mlt : m < m + 1 := by omega
  obtain ⟨n, hn⟩ : ∃ n, n = m + 1 := ⟨_, rfl⟩
  rw [← hn] at b1 wm hlen mlt ⊢
  have wmm := wrap_i64_nat m (by omega)
  clear hm hml hc h0 IR BB hn
  go_wp2_with (first
    | ((with_reducible refine wg_load 27 (.tmp 15) ?_); refine wl_part rfl 27 (.tmp 15) rfl b (off + m * 7) rfl (uC u) RG.out _ Try.underlying27 rfl HIU.out ?_)
    | ((with_reducible refine wg_store 27 (.tmp 2) (.tmp 16) ?_); refine wpList_store_blk rfl 27 (.tmp 2) (.tmp 16) rfl w.heap.size (uC u) rfl rfl 27 (uC zUb) Z3.out HIU.out rfl HU1.out ?_))
  intro w9 b9 g9
  have GT := Touch.of_grown (F := fun b => b = w.heap.size) g9 (fun b hb => by cases hb; rfl)
  have D9 := Lib.hid (D3.out.touch GT (fun b hb e => NF.out (e ▸ hb)))
  have T9 := Lib.hid (T3'.out.trans GT (fun n hn hl => by omega))
  clear GT g9
  go_wp2_with fail
  (try simp only [Exit.inBlock, Exit.then])
  exact bodyPost_ret (v := .tuple #[.agg (uC u), .bool true]) (results_blk rfl _ _ _ w.heap.size 27 _ _ rfl rfl b9 _ Try.underlying27 rfl HIU.out) rfl ⟨by rw [HB.out]; rfl, D9.out, T9.out⟩

def smallU (n : Nat) : UbD := ⟨n, 1, ⟨9, 1, 0⟩, 1, 64⟩
theorem built_sp : Try.prog.built 25 [(0, .int .i64 9), (1, .int .u64 1)] = some #[.int .i64 9, .int .u64 1, .int .u32 0] := by kernel_rfl
theorem built_sm (n : Nat) : Try.prog.built 27 [(0, .int .u64 (n : Int)), (1, .int .u64 1), (2, .agg #[.int .i64 9, .int .u64 1, .int .u32 0]), (3, .int .i64 1), (4, .int .i64 64)] = some (uC (smallU n)) := by kernel_rfl
set_option maxHeartbeats 1000000 in
theorem small_any (w : World) (n : Nat) : Calls Try.prog 18 #[.int .u64 (n : Int)] w fun e w' => e = .returned (.agg (uC (smallU n))) ∧ Up w w' := by
  have UB2 := Lib.hid (up_alloc w (.cells (uC (smallU n)) 27))
  have BN := Lib.hid (Blk.new w 27 (uC (smallU n)))
  have HI := Lib.hid (info_uV (smallU n))
  have HO := Lib.hid (uC_one (smallU n))
  have HZ := Lib.hid (show (uC zUb).size = (uC (smallU n)).size from rfl)
  have B1 := Lib.hid built_sp
  have B2 := Lib.hid (built_sm n)
  generalize uC (smallU n) = C at *
  go_enter Try.func18, Try.ntmps18
  go_wp2_with (first
    | ((with_reducible refine wg_alloc 27 ?_); refine wpList_alloc_blk rfl 27 rfl (uC zUb) zero_ub ?_)
    | ((with_reducible refine wg_build 25 _ ?_); refine wl_build2 rfl 25 0 1 _ _ rfl _ _ _ B1.out rfl rfl ?_)
    | ((with_reducible refine wg_build 27 _ ?_); refine wl_build5 rfl 27 0 1 2 3 4 _ _ _ _ _ rfl _ _ _ _ _ C B2.out rfl rfl rfl rfl rfl ?_)
    | ((with_reducible refine wg_store 27 (.tmp 2) (.tmp 5) ?_); refine ws_new w rfl 27 (.tmp 2) (.tmp 5) rfl C 27 (uC zUb) rfl rfl rfl HI.out HZ.out HO.out ?_))
  (try simp only [Exit.inBlock, Exit.then])
  exact bodyPost_ret (v := .agg C) (results_one rfl _ _ _ w.heap.size 27 _ rfl BN.out _ Try.underlying27 rfl HI.out) rfl ⟨rfl, UB2.out⟩

/-- There and back. -/
theorem ubOf_bytes {u : UbD} (hr : rightU u = true) (hw : u.wf) : ubOf (ubBytes u) = u := by
  obtain ⟨⟨g1, g2⟩, ⟨g3, g4⟩, ⟨hg, _⟩, ⟨g5, g6⟩, ⟨g7, g8⟩⟩ := (rightU_iff u).1 hr
  obtain ⟨rest, hs⟩ : ∃ rest, ubBytes u = magicB ++ (numBytes u.txg 8 ++ (numBytes u.stamp 8 ++ (ptrBytes u.tab ++ (numBytes u.len.toNat 4 ++ (numBytes u.sec.toNat 4 ++ rest))))) := by
    refine ⟨List.replicate 80 0 ++ putBytes [4] [ubSum u], ?_⟩
    unfold ubBytes ubHead ubPre
    have h1 : putBytes [8, 8] [u.txg, u.stamp] = numBytes u.txg 8 ++ numBytes u.stamp 8 := by
      show numBytes u.txg 8 ++ (numBytes u.stamp 8 ++ []) = _
      rw [List.append_nil]
    have h2 : putBytes [4, 4] [u.len.toNat, u.sec.toNat] = numBytes u.len.toNat 4 ++ numBytes u.sec.toNat 4 := by
      show numBytes u.len.toNat 4 ++ (numBytes u.sec.toNat 4 ++ []) = _
      rw [List.append_nil]
    rw [h1, h2]
    simp only [List.append_assoc]
  have d4 : (ubBytes u).drop 4 = numBytes u.txg 8 ++ (numBytes u.stamp 8 ++ (ptrBytes u.tab ++ (numBytes u.len.toNat 4 ++ (numBytes u.sec.toNat 4 ++ rest)))) := by rw [hs]; exact List.drop_left' rfl
  have d12 : (ubBytes u).drop 12 = numBytes u.stamp 8 ++ (ptrBytes u.tab ++ (numBytes u.len.toNat 4 ++ (numBytes u.sec.toNat 4 ++ rest))) := by
    rw [show (12 : Nat) = 4 + 8 from rfl, ← List.drop_drop, d4]; exact List.drop_left' (numBytes_length _ _)
  have d20 : (ubBytes u).drop 20 = ptrBytes u.tab ++ (numBytes u.len.toNat 4 ++ (numBytes u.sec.toNat 4 ++ rest)) := by
    rw [show (20 : Nat) = 12 + 8 from rfl, ← List.drop_drop, d12]; exact List.drop_left' (numBytes_length _ _)
  have d36 : (ubBytes u).drop 36 = numBytes u.len.toNat 4 ++ (numBytes u.sec.toNat 4 ++ rest) := by
    rw [show (36 : Nat) = 20 + 16 from rfl, ← List.drop_drop, d20]; exact List.drop_left' (ptrB_length _)
  have d40 : (ubBytes u).drop 40 = numBytes u.sec.toNat 4 ++ rest := by
    rw [show (40 : Nat) = 36 + 4 from rfl, ← List.drop_drop, d36]; exact List.drop_left' (numBytes_length _ _)
  have hp : ptrOf (ptrBytes u.tab) = u.tab := by
    have := ptrOf_bytes u.tab hw.2.2.1 hg
    unfold readB at this
    split at this
    · exact Option.some.inj this
    · cases this
  unfold ubOf
  rw [d4, d12, d20, d36, d40, List.take_left' (numBytes_length _ _), List.take_left' (numBytes_length _ _), List.take_left' (ptrB_length _), List.take_left' (numBytes_length _ _), List.take_left' (numBytes_length _ _),
    numVal_bytes 8 u.txg (by omega), numVal_bytes 8 u.stamp (by omega), numVal_bytes 4 u.len.toNat (by omega), numVal_bytes 4 u.sec.toNat (by omega), hp]
  obtain ⟨t, s, p, l, m⟩ := u
  simp only at g5 g7 ⊢
  rw [Int.toNat_of_nonneg (by omega), Int.toNat_of_nonneg (by omega)]
theorem uread_back {u : UbD} (hr : rightU u = true) (hw : u.wf) : uread (ubBytes u) = some u := by
  unfold uread
  rw [ubOf_bytes hr hw, if_pos ⟨hr, rfl⟩]
theorem uread_some {s : List UInt8} {u : UbD} (h : uread s = some u) : rightU u = true ∧ ubBytes u = s ∧ u.wf := by
  unfold uread at h
  split at h
  · rename_i hh
    have := Option.some.inj h
    subst this
    exact ⟨hh.1, hh.2, ubOf_wf s⟩
  · cases h

end Go.Proofs.Ytgmdhedabmkcoaa
