/- Laws of a drawn region in which no block past a mark is written. The records of bytes: the document's Read: the walk. -/
import Derived.Test.YthbfhlphclgnaaaSetPT
import Derived.OrdersHeld
import Derived.Test.YthbfhlphclgnaaaSetF
import Derived.Test.YthbfhlphclgnaaaFieldRG
set_option linter.unusedSimpArgs false
set_option linter.unusedVariables false
namespace Go.Proofs.Ythbfhlphclgnaaa
open Go.RowKit Go.Sort

/-- The blocks from n on are as they were. -/
def Mid (n : Nat) (w w' : World) : Prop := ∀ b, n ≤ b → b < w.heap.size → w'.heap[b]? = w.heap[b]?
theorem Mid.refl (n : Nat) (w : World) : Mid n w w := fun _ _ _ => rfl
theorem Mid.up {n : Nat} {w w' w'' : World} (h : Mid n w w') (hs : w.heap.size ≤ w'.heap.size) (hu : Up w' w'') : Mid n w w'' := fun b h1 h2 => (Below.block hu b (Nat.lt_of_lt_of_le h2 hs)).trans (h b h1 h2)
theorem Mid.grown {n : Nat} {w w' w'' : World} {row : Option Nat} (h : Mid n w w') (hs : w.heap.size ≤ w'.heap.size) (hg : w'.grownBy w'' row) (hr : ∀ k, row = some k → k < n) : Mid n w w'' := fun b h1 h2 =>
  (hg.block b (Nat.lt_of_lt_of_le h2 hs) (fun e => by have := hr b e.symm; omega)).trans (h b h1 h2)
theorem Mid.cell {n : Nat} {w w' : World} (h : Mid n w w') {b : Nat} {o : Int} {off : Nat} {v : Value} (hb : n ≤ b) (hc : w.cell? ⟨b, off, none⟩ = some v) : w'.cell? ⟨b, off, none⟩ = some v :=
  (World.cell?_of_block (h b hb (World.block_lt_of_cell? w _ hc))).trans hc
theorem Mid.range {n : Nat} {w w' : World} (h : Mid n w w') {b off : Nat} {l : List Value} (hb : n ≤ b) (hc : w.rangeAt b off l) : w'.rangeAt b off l := fun j v hj =>
  (World.cell?_of_block (h b hb (World.block_lt_of_cell? w _ (hc j v hj)))).trans (hc j v hj)
theorem Mid.own {α : Type} {f : α → Value} {e : TypeId} {n : Nat} {w w' : World} {v : Value} {xs : List α} (h : Mid n w w') (ho : Own f e w n v xs) : IsOnes f w' v xs := by
  rcases ho.ones with h1 | ⟨b, off, cap, hv, h0, h2, h3, h4⟩
  · exact .inl h1
  · refine .inr ⟨b, off, cap, hv, h0, h2, h3, fun i hi => ?_⟩
    have hb : n ≤ b := (ho.block_lt b (by rw [hv]; rfl)).1
    exact Mid.cell h (o := 0) hb (h4 i hi)

section
variable {P : Program} {ops : Array Oper} {S : World → Prop} {o : Oper} {a : Act} {v : Value}
theorem yi_any (hw : Region.wanted o (yielded ops a.tmps) = true) (h : ∀ w, (execOp a.eval o).run P w = .ok (.value v) w) : YieldsIf P ops S o v a := .inl ⟨hw, fun w _ => h w⟩
theorem yi_cell (hw : Region.wanted o (yielded ops a.tmps) = true) (ty : TypeId) (x : Operand) (ho : o.op = .load ty x) (ad : Addr) (hx : a.eval x = .pointer (some ad)) (hc : ∀ w, S w → w.cell? ad = some v)
    (hagg : ∀ w : World, (isAgg ty).run P w = .ok false w) : YieldsIf P ops S o v a :=
  .inl ⟨hw, fun w hS => by
    have hl : (load ad).run P w = .ok v w := by simp [hc w hS]
    unfold execOp
    simp only [ho, hx, Instr.loadAt, Instr.sureAddr, loadVar, Sem.run_bind, Sem.run_pure, Result.andThen_ok, hagg, Bool.false_eq_true, if_false, hl]⟩
theorem yi_part (hw : Region.wanted o (yielded ops a.tmps) = true) (ty : TypeId) (x : Operand) (ho : o.op = .load ty x) (g off : Nat) (hx : a.eval x = .pointer (some ⟨g, off, none⟩)) (C : Array Value) (hc : ∀ w, S w → w.rangeAt g off C.toList)
    (d : TypeDesc) (hu : P.underlying ty = some d) (hd : d.isRow = true) (hi : (P.info? ty).map (·.size) = some C.size) : YieldsIf P ops S o (.agg C) a :=
  .inl ⟨hw, fun w hS => by
    have := run_loadVar_mid (P := P) w g off ty C.toList d (hc w hS) hu hd (by simpa using hi)
    unfold execOp
    simp only [ho, hx, Instr.loadAt, Instr.sureAddr, Sem.run_bind, Sem.run_pure, Result.andThen_ok, this]⟩
theorem yi_convert (hw : Region.wanted o (yielded ops a.tmps) = true) (t u : TypeId) (x : Operand) (ho : o.op = .convert t u x) (y : Value) (hx : a.eval x = y) (hr : ∀ w, S w → (convert t u y).run P w = .ok v w) : YieldsIf P ops S o v a :=
  .inl ⟨hw, fun w hS => by
    unfold execOp
    simp only [ho, hx, Sem.run_bind, hr w hS, Result.andThen_ok, Sem.run_pure]⟩
theorem yi_build9 (hw : Region.wanted o (yielded ops a.tmps) = true) (t : TypeId) (i0 i1 i2 i3 i4 i5 i6 i7 i8 : Nat) (x0 x1 x2 x3 x4 x5 x6 x7 x8 : Operand) (ho : o.op = .build t #[(i0, x0), (i1, x1), (i2, x2), (i3, x3), (i4, x4), (i5, x5), (i6, x6), (i7, x7), (i8, x8)]) (v0 v1 v2 v3 v4 v5 v6 v7 v8 : Value) (C : Array Value) (hb : P.built t [(i0, v0), (i1, v1), (i2, v2), (i3, v3), (i4, v4), (i5, v5), (i6, v6), (i7, v7), (i8, v8)] = some C) (h0 : a.eval x0 = v0) (h1 : a.eval x1 = v1) (h2 : a.eval x2 = v2) (h3 : a.eval x3 = v3) (h4 : a.eval x4 = v4) (h5 : a.eval x5 = v5) (h6 : a.eval x6 = v6) (h7 : a.eval x7 = v7) (h8 : a.eval x8 = v8) : YieldsIf P ops S o (.agg C) a :=
  .inl ⟨hw, fun w _ => by
    unfold execOp
    simp only [ho, List.map_toArray, List.map_cons, List.map_nil, h0, h1, h2, h3, h4, h5, h6, h7, h8, Sem.run_bind, run_build w t _ C hb, Result.andThen_ok, Sem.run_pure]⟩
theorem wpAnyH_oneK {Q : Exit → Act → World → Prop} {md : Region.Mode} {fuel : Nat} {listed : Array Bool} {w : World} (i : Nat) (hr : Region.ready md ops listed = [i]) (hi : ops[i]? = some o) (hw : Region.wanted o (yielded ops a.tmps) = true)
    (h : ∀ K : Act → World → Prop, (∀ a w, S w → wpAnyH P md ops Q S fuel (listed.setIfInBounds i true) a w → K a w) → o.wp P a w K Q) : wpAnyH P md ops Q S (fuel + 1) listed a w :=
  wpAnyH_all hr (by simp) (fun j hj => by
    simp at hj
    subst hj
    exact wpOp_someX hi hw (h _ fun _ _ h1 h2 => ⟨h1, h2⟩))
theorem wp_buildSlice1X {w : World} {K : Act → World → Prop} {Q : Exit → Act → World → Prop} (t e : TypeId) (x : Operand) (ho : o.op = .buildSlice t 1 #[(0, x)]) (z : Value) (k bytes : Nat) (C : Array Value) (hx : a.eval x = .agg C)
    (ht : P.underlying t = some (.slice e)) (hinfo : (P.info? e).map (fun i => (i.zero, i.size, i.bytes)) = some (some z, k, bytes)) (h0 : 0 < k) (hk : k ≤ 16777216) (hC : C.size = k)
    (h : K (a.put o.dst (.slice (some ⟨w.heap.size, 0, none⟩) 1 1)) (w.alloc (.cells C e))) : o.wp P a w K Q := by
  have hr := run_buildSlice1X (P := P) w t e z k bytes C ht hinfo h0 hk hC
  unfold Oper.wp execOp
  simp [ho, hx, hr, Result.andThen]
  exact h
end
theorem built_setR (a b c d e f : Nat) (q : List UInt8) (r : PtrD) (g : List PtrD) (da : Option Addr) (dn dc : Nat) : Try.prog.built 44 [(0, .int .u64 (a : Int)), (2, .bool ((b : Int) == 1)), (3, .int .u64 (c : Int)), (4, .int .u64 (d : Int)), (5, .int .u64 (e : Int)), (6, .int .i64 (f : Int)), (7, .agg (pcA r)), (1, .string (strOf q)), (8, .slice da dn dc)] = some (setC (setOf [a, b, c, d, e, f] q r g) (.slice da dn dc)) := by
  have h : Try.prog.built 44 [(0, .int .u64 (a : Int)), (2, .bool (decide (b = 1))), (3, .int .u64 (c : Int)), (4, .int .u64 (d : Int)), (5, .int .u64 (e : Int)), (6, .int .i64 (f : Int)), (7, .agg (pcA r)), (1, .string (strOf q)), (8, .slice da dn dc)] = some (setC (setOf [a, b, c, d, e, f] q r g) (.slice da dn dc)) := by kernel_rfl
  have hb : ((b : Int) == 1) = decide (b = 1) := by rw [Bool.eq_iff_iff]; simp; omega
  rw [hb]
  exact h
theorem parse_size {b p q r : List UInt8} (h : splitB b = some [p, q, r]) (hp : p.length ≠ 50) : parseO b = none := by rw [parse_three h, if_neg hp]
end Go.Proofs.Ythbfhlphclgnaaa

set_option linter.unusedSimpArgs false
set_option linter.unusedVariables false
namespace Go.Proofs.Ythbfhlphclgnaaa
open Go.RowKit Go.Sort

set_option maxRecDepth 100000 in
set_option maxHeartbeats 16000000 in
theorem rreadS_any (w : World) (v : Value) (b : List UInt8) (hv : IsBytes w v b) (hreach : b.length ≤ 140737488351232) :
    Calls Try.prog 15 #[v] w fun e w' => ReadsPost (readS b) w e w' := by
  have SP := Lib.hid (refSplit_any w v b hv hreach)
  have HV := Lib.hid hv
  obtain ⟨va, vc, rfl⟩ := hv.slice
  clear hv
  go_enter Try.func15, Try.ntmps15
  go_wp2_with fail
  refine SP.out.mono ?_
  rintro e w2 (⟨ts, hts, v2, rfl, OT, U2⟩ | ⟨hnone, rfl, U2⟩)
  rotate_left
  · have HF := Lib.hid (show readS b = none by unfold readS; rw [hnone])
    have UZ := Lib.hid U2
    clear hnone SP HV
    go_wp2_with fail
    go_ret3
    exact .inl ⟨HF.out, rfl, UZ.out⟩
  have HTS := Lib.hid hts
  have OKJ := Lib.hid (split_back hts).1
  have U2 := Lib.hid U2
  obtain ⟨vs, hvl, hvo, hve⟩ := OT
  obtain ⟨ta, tc, rfl⟩ := (Own.ones hvo).slice
  have htl := (Own.ones hvo).length_le
  clear SP hts
  match ts, HTS, OKJ, hvl, hve with
  | [], HTS, OKJ, hvl, hve =>
    have HF := Lib.hid (readS_empty HTS.out)
    have UZ := Lib.hid U2.out
    obtain rfl := List.eq_nil_of_length_eq_zero hvl
    clear hve hvo hvl HTS HV
    simp only [List.length_nil]
    go_wp2_with fail
    go_ret3
    exact .inl ⟨HF.out, rfl, UZ.out⟩
  | hd :: tl, HTS, OKJ, hvl, hve =>
  match vs, hvo, hvl, hve, htl with
  | x :: xs, hvo, hvl, hve, htl =>
  have hxl : xs.length = tl.length := by simpa using hvl
  obtain ⟨m, hm⟩ : ∃ m, m = tl.length := ⟨_, rfl⟩
  have hlen : (x :: xs).length = m + 1 := by rw [List.length_cons, hxl, hm]
  have hm32 : m ≤ 65535 := by have := OKJ.out.1; rw [List.length_cons] at this; omega
  have hx : IsBytes w2 (slCell x) hd := (hve 0 (by simp) (by simp)).ones
  have HXS := Lib.hid (show ∀ k (h1 : k < xs.length) (h2 : k < tl.length), IsBytes w2 (slCell xs[k]) tl[k] from fun k h1 h2 => by
    have := (hve (k + 1) (by simp; omega) (by simp; omega)).ones
    simpa using this)
  obtain ⟨g, cap, hgv, hge, hgl, hcells, _, _⟩ := Own.row hvo (by simp)
  rw [hlen] at hgv hvo ⊢
  simp only [Value.slice.injEq] at hgv
  obtain ⟨rfl, _, rfl⟩ := hgv
  have c0 : w2.cell? ⟨g, 0, none⟩ = some (slCell x) := hcells 0 (by simp)
  have HCK := Lib.hid (show ∀ k (h1 : k < xs.length), w2.cell? ⟨g, k + 1, none⟩ = some (slCell xs[k]) from fun k h1 => by
    have := hcells (k + 1) (by simp; omega)
    simpa using this)
  obtain ⟨xa, xn, xc⟩ := x
  unfold slCell at c0 hx
  simp only at c0 hx
  obtain rfl : xn = hd.length := by obtain ⟨_, _, h⟩ := hx.slice; simp at h; exact h.2.1
  have HX := Lib.hid hx
  have HM := Lib.hid hm
  have HXL := Lib.hid (show xs.length = m by rw [hxl, hm])
  obtain ⟨tn, htn⟩ : ∃ n, n = m + 1 := ⟨_, rfl⟩
  rw [← htn]
  have HTN := Lib.hid htn
  have h1n : 1 ≤ tn := by omega
  have htb : tn ≤ 65536 := by omega
  have b4 : ((tn : Int) < 1) = False := by simp; omega
  by_cases h8 : hd.length = 8
  rotate_left
  · have HF := Lib.hid (readS_head HTS.out h8)
    have UZ := Lib.hid U2.out
    have b5 : ((hd.length : Int) != 8) = true := by simp; omega
    generalize hd.length = hl at *
    clear hve hvo hcells hx htl hvl hlen hxl hm htn HV HXS HCK
    go_wp2_with fail
    go_ret3
    exact .inl ⟨HF.out, rfl, UZ.out⟩
  have H8 := Lib.hid h8
  have VL := Lib.hid (value_any w2 _ hd HX.out (by omega))
  rw [h8] at c0 VL
  have b5 : ((8 : Int) != 8) = false := rfl
  have HNL := Lib.hid (numVal_lt8 hd (by rw [h8]; omega))
  obtain ⟨nv, hnv⟩ : ∃ n, n = numVal hd := ⟨_, rfl⟩
  rw [← hnv] at VL
  have HNV := Lib.hid hnv
  have UM := Lib.hid (up_alloc w2 (.cells #[] 44))
  have O0 := Lib.hid (show OwnSets (w2.alloc (.cells #[] 44)) w2.heap.size (.slice (some ⟨w2.heap.size, 0, none⟩) 0 0) [] from ⟨[], rfl, OwnRow.made setcells 11 44 w2 w2.heap.size (Nat.le_refl _), fun _ h => by cases h⟩)
  clear hve hvo hcells hx htl hvl hlen hxl hm htn h8 hnv
  go_wp2_with fail
  refine VL.out.mono ?_
  rintro e w3 ⟨rfl, rfl⟩
  clear VL
  go_wp2_with fail
  go_loopw [8, 9] (fun lv i wr => ∃ j : Nat, 1 ≤ j ∧ j ≤ tn ∧ i = .int .i64 j ∧ ∃ out, parseAll (tl.take (j - 1)) = some out ∧ OwnSets wr w2.heap.size lv out ∧ Up w2 wr) (fun _ i _ => tn - (intOf i).toNat)
  case atStart => exact ⟨1, Nat.le_refl _, h1n, rfl, [], rfl, O0.out, UM.out⟩
  case round =>
    obtain ⟨j, hj1, hj, rfl, out, hpo, os, ur⟩ := hrel
    have UR := Lib.hid ur
    have OS := Lib.hid os
    have HPO := Lib.hid hpo
    clear ur os O0 UM hpo b4 b5 c0
    by_cases hlt : j < tn
    · have bk : ((j : Int) < (tn : Int)) = True := by simp; omega
      obtain ⟨k, hk⟩ : ∃ k, j = k + 1 := ⟨j - 1, by omega⟩
      have hkx : k < xs.length := by rw [HXL.out]; have := HTN.out; omega
      have hkt : k < tl.length := by rw [← HM.out]; have := HTN.out; omega
      have ck := UR.out.cell (HCK.out k hkx)
      rw [← hk] at ck
      have hb := (HXS.out k hkx hkt).up UR.out
      have TK := Lib.hid (show tl.take (k + 1) = tl.take k ++ [tl[k]] from List.take_succ_eq_append_getElem hkt)
      have HMEM := Lib.hid (show tl[k] ∈ tl from List.getElem_mem hkt)
      have HTL := Lib.hid (show tl[k].length ≤ 65535 from OKJ.out.2 _ (List.mem_cons_of_mem _ (List.getElem_mem hkt)))
      have HJ := Lib.hid hk
      have hpo := HPO.out
      rw [hk, Nat.add_sub_cancel] at hpo
      have HPO := Lib.hid hpo
      have HLO := Lib.hid (show out.length ≤ 65535 by
        have := parseAll_length _ _ hpo
        have := HM.out
        rw [List.length_take] at *
        omega)
      generalize tl[k] = t at *
      generalize xs[k] = x at *
      obtain ⟨ya, yn, yc⟩ := x
      unfold slCell at ck hb
      simp only at ck hb
      have SP := Lib.hid (refSplit_any wr _ t hb (by have := HTL.out; omega))
      clear hb hkx hkt hpo hk
      go_wp2_with fail
      refine SP.out.mono ?_
      rintro e w4 (⟨ts2, hts, v2, rfl, OT, U4⟩ | ⟨hnone, rfl, U4⟩)
      rotate_left
      · have HF := Lib.hid (readS_parse HTS.out (parseAll_none _ _ HMEM.out (parse_split hnone)))
        have UZ := Lib.hid ((U2.out.trans UR.out).trans U4)
        clear hnone SP
        go_wp2_with fail
        go_ret3
        exact .inl ⟨HF.out, rfl, UZ.out⟩
      have HT2 := Lib.hid hts
      have U4 := Lib.hid U4
      have IT := OT.texts
      by_cases h3 : ts2.length = 3
      rotate_left
      · have HF := Lib.hid (readS_parse HTS.out (parseAll_none _ _ HMEM.out (parse_many HT2.out h3)))
        have UZ := Lib.hid ((U2.out.trans UR.out).trans U4.out)
        have hlt2 : ts2.length ≤ 9223372036854775807 := by
          obtain ⟨vs, hvl, hvo, _⟩ := IT
          have := hvo.length_le
          omega
        obtain ⟨vs, hvl, hvo, hve⟩ := OT
        obtain ⟨ta, tc2, rfl⟩ := (Own.ones hvo).slice
        rw [hvl] at *
        have b6 : ((ts2.length : Int) != 3) = true := by simp; omega
        clear hts IT hve hvo hvl HT2 SP
        generalize ts2.length = tn2 at *
        clear h3
        go_wp2_with fail
        go_ret3
        exact .inl ⟨HF.out, rfl, UZ.out⟩
      obtain ⟨p, q, r, rfl⟩ : ∃ p q r, ts2 = [p, q, r] := by
        match ts2, h3 with
        | [p, q, r], _ => exact ⟨p, q, r, rfl⟩
      obtain ⟨vs2, hvl, hvo, hve⟩ := OT
      obtain ⟨x, y, z, rfl⟩ : ∃ x y z, vs2 = [x, y, z] := by
        match vs2, hvl with
        | [x, y, z], _ => exact ⟨x, y, z, rfl⟩
      have hx := (hve 0 (by simp) (by simp)).ones
      have hy := hve 1 (by simp) (by simp)
      have hz := (hve 2 (by simp) (by simp)).ones
      obtain ⟨gt, cap, rfl, hgg, _, hcells, _, _⟩ := Own.row hvo (by simp)
      have e0 : w4.cell? ⟨gt, 0, none⟩ = some (slCell x) := hcells 0 (by simp)
      have e1 : w4.cell? ⟨gt, 1, none⟩ = some (slCell y) := hcells 1 (by simp)
      have e2 : w4.cell? ⟨gt, 2, none⟩ = some (slCell z) := hcells 2 (by simp)
      have GG := Lib.hid hgg
      obtain ⟨za, zn, zc⟩ := x
      obtain ⟨qa, qn, qc⟩ := y
      obtain ⟨ra, rn, rc⟩ := z
      simp only [List.getElem_cons_zero, List.getElem_cons_succ] at hx hy hz
      unfold slCell at e0 e1 e2 hx hy hz
      simp only at e0 e1 e2 hx hy hz
      obtain rfl : zn = p.length := by obtain ⟨_, _, h⟩ := hx.slice; simp at h; exact h.2.1
      have HX := Lib.hid hx
      have HY := Lib.hid hy
      have HZ := Lib.hid hz
      have hpl := hx.length_le
      have hpc : p.length ≤ zc := by
        rcases HX.out with ⟨h, _, _, hxx, _, _⟩ | ⟨_, _, _, hxx, _, h1, _⟩
        · simp [h]
        · simp at hxx; omega
      clear hts SP IT hve hvo hcells hx hy hz hvl h3 ck hgg
      (try simp only [List.length_cons, List.length_nil, Nat.zero_add, Nat.reduceAdd])
      by_cases h50 : p.length = 50
      rotate_left
      · have HF := Lib.hid (readS_parse HTS.out (parseAll_none _ _ HMEM.out (parse_size HT2.out h50)))
        have UZ := Lib.hid ((U2.out.trans UR.out).trans U4.out)
        have b7 : ((p.length : Int) != 50) = true := by simp; omega
        generalize p.length = pn at *
        clear HT2 HX HY HZ h50
        go_wp2_with fail
        go_ret3
        exact .inl ⟨HF.out, rfl, UZ.out⟩
      have b7 : ((50 : Int) != 50) = false := rfl
      obtain ⟨v1, hv1⟩ : ∃ x, x = pieceOf za 0 34 zc := ⟨_, rfl⟩
      obtain ⟨v3, hv3⟩ : ∃ x, x = pieceOf za 34 50 zc := ⟨_, rfl⟩
      have PT : ∀ W, (Instr.slice 29 (.slice za 50 zc) none (some (.int .i64 34)) none).run Try.prog W = .ok v1 W := fun W => by
        rw [hv1]; exact run_piece_to (P := Try.prog) 29 bytes_elem bytes_size za 50 zc 34 (by omega) W
      have PF : ∀ W, (Instr.slice 29 (.slice za 50 zc) (some (.int .i64 34)) none none).run Try.prog W = .ok v3 W := fun W => by
        rw [hv3]; exact run_piece_from (P := Try.prog) 29 bytes_elem bytes_size za 50 zc 34 (by omega) W
      have V1 := Lib.hid (show IsBytes w4 v1 (p.take 34) by
        have := IsOnes.piece HX.out (lo := 0) (hi := 34) (by omega) (by omega)
        rw [hv1]
        simpa using this)
      have V3 := Lib.hid (show IsBytes w4 v3 (p.drop 34) by
        have := IsOnes.piece HX.out (lo := 34) (hi := p.length) (by omega) (by omega)
        rw [hv3, ← h50]
        simpa using this)
      have H50 := Lib.hid h50
      have UA := up_alloc w4 (.cells #[.int .i64 8, .int .i64 1, .int .i64 8, .int .i64 8, .int .i64 8, .int .i64 1] 3)
      have GT := Lib.hid (show Calls Try.prog 36 #[.slice (some ⟨w4.heap.size, 0, none⟩) 6 6, v1] (w4.alloc (.cells #[.int .i64 8, .int .i64 1, .int .i64 8, .int .i64 8, .int .i64 8, .int .i64 1] 3)) (fun e w' => ∃ v, e = .returned (.tuple #[v, .int .i64 0]) ∧ Own u64Cell 22 w' wr.heap.size v (getNums setWs (p.take 34)) ∧ Up w4 w') from by
        have i1 : IsOnes intCell _ (.slice (some ⟨w4.heap.size, 0, none⟩) 6 6) setWs := IsOnes.litAt (f := intCell) w4 w4.heap.size rfl #[.int .i64 8, .int .i64 1, .int .i64 8, .int .i64 8, .int .i64 8, .int .i64 1] 3 (0, 0) setWs 6 rfl (by unfold maxLen; omega) rfl
        refine (refGet_any _ _ setWs i1 (by simp [setWs]) v1 (p.take 34) (V1.out.up UA)).mono fun e w' h => ?_
        rcases h with ⟨_, v, rfl, ho, hu⟩ | ⟨hno, _⟩
        · exact ⟨v, rfl, ho.mono (Nat.le_trans U4.out.size UA.size), UA.trans hu⟩
        · refine absurd ⟨setWs_ok, ?_⟩ hno
          rw [setWs_total, List.length_take]
          have := H50.out
          omega)
      rw [h50] at e0
      (try simp only [h50])
      have e0' := UA.cell e0
      clear hv1 hv3 h50 hpc HX hpl
      go_wp2_with fail
      refine GT.out.mono ?_
      rintro e w5 ⟨v7, rfl, O7, U5⟩
      obtain ⟨a, b', c, d, e', f, hnums⟩ := getNums_six (p.take 34)
      have hf : f < 256 := six_lt hnums
      rw [hnums] at O7
      have HN6 := Lib.hid hnums
      obtain ⟨g7, cap7, rfl, hg7, _, hc7, _, _⟩ := Own.row O7 (by simp)
      have n0 : w5.cell? ⟨g7, 0, none⟩ = some (.int .u64 (a : Int)) := hc7 0 (by simp)
      have n1 : w5.cell? ⟨g7, 1, none⟩ = some (.int .u64 (b' : Int)) := hc7 1 (by simp)
      have n2 : w5.cell? ⟨g7, 2, none⟩ = some (.int .u64 (c : Int)) := hc7 2 (by simp)
      have n3 : w5.cell? ⟨g7, 3, none⟩ = some (.int .u64 (d : Int)) := hc7 3 (by simp)
      have n4 : w5.cell? ⟨g7, 4, none⟩ = some (.int .u64 (e' : Int)) := hc7 4 (by simp)
      have n5 : w5.cell? ⟨g7, 5, none⟩ = some (.int .u64 (f : Int)) := hc7 5 (by simp)
      have G7 := Lib.hid hg7
      have k0 := U5.cell e0
      have k1 := U5.cell e1
      have k2 := U5.cell e2
      have U6 := Lib.hid (U4.out.trans U5)
      have RD := Lib.hid (refRead_any w5 v3 (p.drop 34) (V3.out.up U5))
      unfold PRead at RD
      have HY5 := Lib.hid (HY.out.up U5)
      have HZ5 := Lib.hid (HZ.out.up U5)
      have wf := wrap_i64_nat f (by omega)
      clear e0 e1 e2 e0' UA GT U5 HY HZ hc7 O7 hnums V1 V3 PT hf hg7
      (try simp only [List.length_cons, List.length_nil, Nat.zero_add, Nat.reduceAdd])
      go_wp2_with fail
      refine RD.out.mono ?_
      rintro e w6 hroot
      obtain ⟨root, cd, hval, U7, hcase⟩ : ∃ root cd, e = .returned (.tuple #[ptrV root, .int .i64 cd]) ∧ Up w5 w6 ∧ ((cd = 0 ∧ readB (p.drop 34) = some root) ∨ (cd = 51 ∧ readB (p.drop 34) = none)) := by
        rcases hroot with ⟨p1, h1, h2, h3⟩ | ⟨h1, h2, h3⟩
        · exact ⟨p1, 0, h2, h3, .inl ⟨rfl, h1⟩⟩
        · exact ⟨hole, 51, h2, h3, .inr ⟨rfl, h1⟩⟩
      subst hval
      have HC := Lib.hid hcase
      have HS6 := Lib.hid (Nat.le_trans U6.out.size U7.size)
      clear hroot hcase RD
      have UB := up_alloc w6 (.cells (pcA root) 41)
      have U7' := U7.trans UB
      have BR := Lib.hid (Blk.new w6 41 (pcA root))
      have U8 := Lib.hid (U6.out.trans U7')
      have DR := Lib.hid (rreadO_any (w6.alloc (.cells (pcA root) 41)) (.slice ra rn rc) r (HZ5.out.up U7'))
      unfold ReadPostO at DR
      have HY6 := Lib.hid (HY5.out.up U7')
      have SZ6 := Lib.hid (sz_alloc w6 (.cells (pcA root) 41))
      have m0 := U7'.cell n0
      have m1 := U7'.cell n1
      have m2 := U7'.cell n2
      have m3 := U7'.cell n3
      have m4 := U7'.cell n4
      have m5 := U7'.cell n5
      have l0 := U7'.cell k0
      have l1 := U7'.cell k1
      have l2 := U7'.cell k2
      clear U7 U7' UB U6 n0 n1 n2 n3 n4 n5 k0 k1 k2 HY5 HZ5 PF
      obtain ⟨pl, pb, ps⟩ := root
      unfold ptrV
      unfold pcA at *
      simp only at *
      go_wp2_with fail
      refine DR.out.mono ?_
      rintro e w7 hgone
      rcases HC.out with ⟨rfl, hroot⟩ | ⟨rfl, hbad⟩
      rotate_left
      · have HF := Lib.hid (readS_parse HTS.out (parseAll_none _ _ HMEM.out (parse_root HT2.out hbad)))
        rcases hgone with ⟨_, rfl, U9⟩ | ⟨gone, u, _, rfl, _, U9⟩
        all_goals
          have UZ := Lib.hid ((U2.out.trans UR.out).trans (U8.out.trans U9))
          clear HC DR HT2 m0 m1 m2 m3 m4 m5 l0 l1 l2 BR HY6 U8 U9
          go_wp2_with fail
          go_ret3
          exact .inl ⟨HF.out, rfl, UZ.out⟩
      rcases hgone with ⟨hbad, rfl, U9⟩ | ⟨gone, u, hgone, rfl, OG, U9⟩
      · have HF := Lib.hid (readS_parse HTS.out (parseAll_none _ _ HMEM.out (parse_list HT2.out hbad)))
        have UZ := Lib.hid ((U2.out.trans UR.out).trans (U8.out.trans U9))
        clear HC DR HT2 m0 m1 m2 m3 m4 m5 l0 l1 l2 BR HY6 U8 U9 hbad hroot
        go_wp2_with fail
        go_ret3
        exact .inl ⟨HF.out, rfl, UZ.out⟩
      obtain ⟨da, dc, rfl⟩ := (OwnRow.row OG pw).slice
      have hft := parse_done HT2.out (by rw [H50.out]; omega) hroot hgone
      rw [HN6.out] at hft
      have HFT := Lib.hid hft
      have UD : Up w7 w7.drew := (Up.refl w7).drew
      have U9d := U9.trans UD
      have OGd := OwnRow.up OG UD
      have HBT := Lib.hid (built_setR a b' c d e' f q ⟨pl, pb, ps⟩ gone da gone.length dc)
      have HIP := Lib.hid (info_pcA ⟨pl, pb, ps⟩)
      have BR6 := Lib.hid (BR.out.up U9d)
      have OY := Lib.hid (HY6.out.up U9d)
      have GR := Lib.hid HS6.out
      have UW := UR.out.trans (U8.out.trans U9d)
      have UWR := Lib.hid (show Up w2 w7.drew from UW)
      obtain ⟨ys, h1, h2, h3⟩ := OS.out.up (U8.out.trans U9d)
      obtain ⟨ys0, _, h20, _⟩ := OS.out
      have ORB := Lib.hid (fun k (hk : Value.ownBlock _ = some k) => (h20.block_lt k hk).2)
      have YS := Lib.hid h1
      have Y2 := Lib.hid h2
      have Y3 := Lib.hid h3
      have hyl : ys.length ≤ 65535 := by
        have := congrArg List.length h1
        rw [List.length_map] at this
        have := HLO.out
        omega
      have HYL := Lib.hid hyl
      have OGD := Lib.hid (OwnRow.mono OGd (base' := w2.heap.size) (by have h4 := (UR.out.trans U8.out).size; exact h4))
      have i0 := U9d.cell m0
      have i1 := U9d.cell m1
      have i2 := U9d.cell m2
      have i3 := U9d.cell m3
      have i4 := U9d.cell m4
      have i5 := U9d.cell m5
      have j1 := U9d.cell l1
      have HX1 := Lib.hid (show parseAll (tl.take (k + 1)) = some (out ++ [setOf [a, b', c, d, e', f] q ⟨pl, pb, ps⟩ gone]) by rw [TK.out, parseAll_snoc, HPO.out, HFT.out]; rfl)
      have HSI := Lib.hid (info_setV (setOf [a, b', c, d, e', f] q ⟨pl, pb, ps⟩ gone) (.slice da gone.length dc))
      have HDE := Lib.hid (show (setOf [a, b', c, d, e', f] q ⟨pl, pb, ps⟩ gone).dead = gone from rfl)
      unfold pcA at HBT HIP
      generalize setOf [a, b', c, d, e', f] q ⟨pl, pb, ps⟩ gone = X at *
      clear h1 h2 h3 h20 hyl UW U9 U9d OGd OG UD hgone hroot hft HC DR HT2 HTS m0 m1 m2 m3 m4 m5 l0 l1 l2 BR HY6 U8 SZ6 HFT TK HMEM
      obtain ⟨gr, hgr⟩ : ∃ n, n = w6.heap.size := ⟨_, rfl⟩
      rw [← hgr] at GR BR6
      go_wp2_with fail
      rw [← hgr]
      clear hgr
      refine wp_region_held (S := Mid wr.heap.size w7.drew) (by kernel_rfl) ?_
      change wpAnyH _ _ _ _ _ 31 _ _ w7.drew
      generalize w7.drew = w8 at *
      (try simp only [Act.put, List.getElem_toArray, List.getElem_cons_succ, List.getElem_cons_zero, List.setIfInBounds_toArray, List.set_cons_zero, List.set_cons_succ])
      refine wpAnyH_take (i := 0) (v := u8) rfl (by kernel_rfl) (by kernel_rfl) (by kernel_rfl) (fun _ _ _ h => h) (yi_any rfl (fun _ => by go_simp)) (Mid.refl _ _) ?_
      simp only [Act.put, List.getElem_toArray, List.getElem_cons_succ, List.getElem_cons_zero, List.setIfInBounds_toArray, List.set_cons_zero, List.set_cons_succ]
      refine wpAnyH_take (i := 1) (v := .slice (some ⟨g7, 0, none⟩) 6 cap7) rfl (by kernel_rfl) (by kernel_rfl) (by kernel_rfl) (fun _ _ _ h => h) (yi_any rfl (fun _ => by go_simp)) (Mid.refl _ _) ?_
      simp only [Act.put, List.getElem_toArray, List.getElem_cons_succ, List.getElem_cons_zero, List.setIfInBounds_toArray, List.set_cons_zero, List.set_cons_succ]
      refine wpAnyH_take (i := 2) (v := .pointer (some ⟨g7, 0, none⟩)) rfl (by kernel_rfl) (by kernel_rfl) (by kernel_rfl) (fun _ _ _ h => h) (yi_any rfl (fun _ => by go_simp)) (Mid.refl _ _) ?_
      simp only [Act.put, List.getElem_toArray, List.getElem_cons_succ, List.getElem_cons_zero, List.setIfInBounds_toArray, List.set_cons_zero, List.set_cons_succ]
      refine wpAnyH_take (i := 3) (v := .int .u64 (a : Int)) rfl (by kernel_rfl) (by kernel_rfl) (by kernel_rfl) (fun _ _ _ h => h) (yi_cell rfl 22 (.tmp 104) rfl ⟨g7, 0, none⟩ rfl (fun W hS => Mid.cell hS (o := 0) G7.out i0) (fun _ => by kernel_rfl)) (Mid.refl _ _) ?_
      simp only [Act.put, List.getElem_toArray, List.getElem_cons_succ, List.getElem_cons_zero, List.setIfInBounds_toArray, List.set_cons_zero, List.set_cons_succ]
      refine wpAnyH_take (i := 4) (v := .slice (some ⟨g7, 0, none⟩) 6 cap7) rfl (by kernel_rfl) (by kernel_rfl) (by kernel_rfl) (fun _ _ _ h => h) (yi_any rfl (fun _ => by go_simp)) (Mid.refl _ _) ?_
      simp only [Act.put, List.getElem_toArray, List.getElem_cons_succ, List.getElem_cons_zero, List.setIfInBounds_toArray, List.set_cons_zero, List.set_cons_succ]
      refine wpAnyH_take (i := 5) (v := .pointer (some ⟨g7, 1, none⟩)) rfl (by kernel_rfl) (by kernel_rfl) (by kernel_rfl) (fun _ _ _ h => h) (yi_any rfl (fun _ => by go_simp)) (Mid.refl _ _) ?_
      simp only [Act.put, List.getElem_toArray, List.getElem_cons_succ, List.getElem_cons_zero, List.setIfInBounds_toArray, List.set_cons_zero, List.set_cons_succ]
      refine wpAnyH_take (i := 6) (v := .int .u64 (b' : Int)) rfl (by kernel_rfl) (by kernel_rfl) (by kernel_rfl) (fun _ _ _ h => h) (yi_cell rfl 22 (.tmp 107) rfl ⟨g7, 1, none⟩ rfl (fun W hS => Mid.cell hS (o := 0) G7.out i1) (fun _ => by kernel_rfl)) (Mid.refl _ _) ?_
      simp only [Act.put, List.getElem_toArray, List.getElem_cons_succ, List.getElem_cons_zero, List.setIfInBounds_toArray, List.set_cons_zero, List.set_cons_succ]
      refine wpAnyH_take (i := 7) (v := .bool ((b' : Int) == 1)) rfl (by kernel_rfl) (by kernel_rfl) (by kernel_rfl) (fun _ _ _ h => h) (yi_any rfl (fun _ => by go_simp)) (Mid.refl _ _) ?_
      simp only [Act.put, List.getElem_toArray, List.getElem_cons_succ, List.getElem_cons_zero, List.setIfInBounds_toArray, List.set_cons_zero, List.set_cons_succ]
      refine wpAnyH_take (i := 8) (v := .slice (some ⟨g7, 0, none⟩) 6 cap7) rfl (by kernel_rfl) (by kernel_rfl) (by kernel_rfl) (fun _ _ _ h => h) (yi_any rfl (fun _ => by go_simp)) (Mid.refl _ _) ?_
      simp only [Act.put, List.getElem_toArray, List.getElem_cons_succ, List.getElem_cons_zero, List.setIfInBounds_toArray, List.set_cons_zero, List.set_cons_succ]
      refine wpAnyH_take (i := 9) (v := .pointer (some ⟨g7, 2, none⟩)) rfl (by kernel_rfl) (by kernel_rfl) (by kernel_rfl) (fun _ _ _ h => h) (yi_any rfl (fun _ => by go_simp)) (Mid.refl _ _) ?_
      simp only [Act.put, List.getElem_toArray, List.getElem_cons_succ, List.getElem_cons_zero, List.setIfInBounds_toArray, List.set_cons_zero, List.set_cons_succ]
      refine wpAnyH_take (i := 10) (v := .int .u64 (c : Int)) rfl (by kernel_rfl) (by kernel_rfl) (by kernel_rfl) (fun _ _ _ h => h) (yi_cell rfl 22 (.tmp 111) rfl ⟨g7, 2, none⟩ rfl (fun W hS => Mid.cell hS (o := 0) G7.out i2) (fun _ => by kernel_rfl)) (Mid.refl _ _) ?_
      simp only [Act.put, List.getElem_toArray, List.getElem_cons_succ, List.getElem_cons_zero, List.setIfInBounds_toArray, List.set_cons_zero, List.set_cons_succ]
      refine wpAnyH_take (i := 11) (v := .slice (some ⟨g7, 0, none⟩) 6 cap7) rfl (by kernel_rfl) (by kernel_rfl) (by kernel_rfl) (fun _ _ _ h => h) (yi_any rfl (fun _ => by go_simp)) (Mid.refl _ _) ?_
      simp only [Act.put, List.getElem_toArray, List.getElem_cons_succ, List.getElem_cons_zero, List.setIfInBounds_toArray, List.set_cons_zero, List.set_cons_succ]
      refine wpAnyH_take (i := 12) (v := .pointer (some ⟨g7, 3, none⟩)) rfl (by kernel_rfl) (by kernel_rfl) (by kernel_rfl) (fun _ _ _ h => h) (yi_any rfl (fun _ => by go_simp)) (Mid.refl _ _) ?_
      simp only [Act.put, List.getElem_toArray, List.getElem_cons_succ, List.getElem_cons_zero, List.setIfInBounds_toArray, List.set_cons_zero, List.set_cons_succ]
      refine wpAnyH_take (i := 13) (v := .int .u64 (d : Int)) rfl (by kernel_rfl) (by kernel_rfl) (by kernel_rfl) (fun _ _ _ h => h) (yi_cell rfl 22 (.tmp 114) rfl ⟨g7, 3, none⟩ rfl (fun W hS => Mid.cell hS (o := 0) G7.out i3) (fun _ => by kernel_rfl)) (Mid.refl _ _) ?_
      simp only [Act.put, List.getElem_toArray, List.getElem_cons_succ, List.getElem_cons_zero, List.setIfInBounds_toArray, List.set_cons_zero, List.set_cons_succ]
      refine wpAnyH_take (i := 14) (v := .slice (some ⟨g7, 0, none⟩) 6 cap7) rfl (by kernel_rfl) (by kernel_rfl) (by kernel_rfl) (fun _ _ _ h => h) (yi_any rfl (fun _ => by go_simp)) (Mid.refl _ _) ?_
      simp only [Act.put, List.getElem_toArray, List.getElem_cons_succ, List.getElem_cons_zero, List.setIfInBounds_toArray, List.set_cons_zero, List.set_cons_succ]
      refine wpAnyH_take (i := 15) (v := .pointer (some ⟨g7, 4, none⟩)) rfl (by kernel_rfl) (by kernel_rfl) (by kernel_rfl) (fun _ _ _ h => h) (yi_any rfl (fun _ => by go_simp)) (Mid.refl _ _) ?_
      simp only [Act.put, List.getElem_toArray, List.getElem_cons_succ, List.getElem_cons_zero, List.setIfInBounds_toArray, List.set_cons_zero, List.set_cons_succ]
      refine wpAnyH_take (i := 16) (v := .int .u64 (e' : Int)) rfl (by kernel_rfl) (by kernel_rfl) (by kernel_rfl) (fun _ _ _ h => h) (yi_cell rfl 22 (.tmp 117) rfl ⟨g7, 4, none⟩ rfl (fun W hS => Mid.cell hS (o := 0) G7.out i4) (fun _ => by kernel_rfl)) (Mid.refl _ _) ?_
      simp only [Act.put, List.getElem_toArray, List.getElem_cons_succ, List.getElem_cons_zero, List.setIfInBounds_toArray, List.set_cons_zero, List.set_cons_succ]
      refine wpAnyH_take (i := 17) (v := .slice (some ⟨g7, 0, none⟩) 6 cap7) rfl (by kernel_rfl) (by kernel_rfl) (by kernel_rfl) (fun _ _ _ h => h) (yi_any rfl (fun _ => by go_simp)) (Mid.refl _ _) ?_
      simp only [Act.put, List.getElem_toArray, List.getElem_cons_succ, List.getElem_cons_zero, List.setIfInBounds_toArray, List.set_cons_zero, List.set_cons_succ]
      refine wpAnyH_take (i := 18) (v := .pointer (some ⟨g7, 5, none⟩)) rfl (by kernel_rfl) (by kernel_rfl) (by kernel_rfl) (fun _ _ _ h => h) (yi_any rfl (fun _ => by go_simp)) (Mid.refl _ _) ?_
      simp only [Act.put, List.getElem_toArray, List.getElem_cons_succ, List.getElem_cons_zero, List.setIfInBounds_toArray, List.set_cons_zero, List.set_cons_succ]
      refine wpAnyH_take (i := 19) (v := .int .u64 (f : Int)) rfl (by kernel_rfl) (by kernel_rfl) (by kernel_rfl) (fun _ _ _ h => h) (yi_cell rfl 22 (.tmp 120) rfl ⟨g7, 5, none⟩ rfl (fun W hS => Mid.cell hS (o := 0) G7.out i5) (fun _ => by kernel_rfl)) (Mid.refl _ _) ?_
      simp only [Act.put, List.getElem_toArray, List.getElem_cons_succ, List.getElem_cons_zero, List.setIfInBounds_toArray, List.set_cons_zero, List.set_cons_succ]
      refine wpAnyH_take (i := 20) (v := .int .i64 (f : Int)) rfl (by kernel_rfl) (by kernel_rfl) (by kernel_rfl) (fun _ _ _ h => h) (yi_any rfl (fun _ => by go_simp)) (Mid.refl _ _) ?_
      simp only [Act.put, List.getElem_toArray, List.getElem_cons_succ, List.getElem_cons_zero, List.setIfInBounds_toArray, List.set_cons_zero, List.set_cons_succ]
      refine wpAnyH_take (i := 21) (v := .agg #[.int .i64 pl, .int .u64 (pb : Int), .int .u32 (ps : Int)]) rfl (by kernel_rfl) (by kernel_rfl) (by kernel_rfl) (fun _ _ _ h => h) (yi_part rfl 41 (.tmp 14) rfl gr 0 rfl #[.int .i64 pl, .int .u64 (pb : Int), .int .u32 (ps : Int)] (fun W hS => Mid.range hS GR.out BR6.out.range) _ Try.underlying41 rfl HIP.out) (Mid.refl _ _) ?_
      simp only [Act.put, List.getElem_toArray, List.getElem_cons_succ, List.getElem_cons_zero, List.setIfInBounds_toArray, List.set_cons_zero, List.set_cons_succ]
      refine wpAnyH_take (i := 22) (v := .slice (some ⟨gt, 0, none⟩) 3 cap) rfl (by kernel_rfl) (by kernel_rfl) (by kernel_rfl) (fun _ _ _ h => h) (yi_any rfl (fun _ => by go_simp)) (Mid.refl _ _) ?_
      simp only [Act.put, List.getElem_toArray, List.getElem_cons_succ, List.getElem_cons_zero, List.setIfInBounds_toArray, List.set_cons_zero, List.set_cons_succ]
      refine wpAnyH_take (i := 23) (v := .pointer (some ⟨gt, 1, none⟩)) rfl (by kernel_rfl) (by kernel_rfl) (by kernel_rfl) (fun _ _ _ h => h) (yi_any rfl (fun _ => by go_simp)) (Mid.refl _ _) ?_
      simp only [Act.put, List.getElem_toArray, List.getElem_cons_succ, List.getElem_cons_zero, List.setIfInBounds_toArray, List.set_cons_zero, List.set_cons_succ]
      refine wpAnyH_take (i := 24) (v := .slice qa qn qc) rfl (by kernel_rfl) (by kernel_rfl) (by kernel_rfl) (fun _ _ _ h => h) (yi_cell rfl 29 (.tmp 125) rfl ⟨gt, 1, none⟩ rfl (fun W hS => Mid.cell hS (o := 0) GG.out j1) (fun _ => by kernel_rfl)) (Mid.refl _ _) ?_
      simp only [Act.put, List.getElem_toArray, List.getElem_cons_succ, List.getElem_cons_zero, List.setIfInBounds_toArray, List.set_cons_zero, List.set_cons_succ]
      refine wpAnyH_take (i := 25) (v := .string (strOf q)) rfl (by kernel_rfl) (by kernel_rfl) (by kernel_rfl) (fun _ _ _ h => h) (yi_convert rfl 29 9 (.tmp 126) rfl (.slice qa qn qc) rfl (fun W hS => toStr W _ q (Mid.own hS OY.out))) (Mid.refl _ _) ?_
      simp only [Act.put, List.getElem_toArray, List.getElem_cons_succ, List.getElem_cons_zero, List.setIfInBounds_toArray, List.set_cons_zero, List.set_cons_succ]
      refine wpAnyH_take (i := 26) (v := .slice da gone.length dc) rfl (by kernel_rfl) (by kernel_rfl) (by kernel_rfl) (fun _ _ _ h => h) (yi_any rfl (fun _ => by go_simp)) (Mid.refl _ _) ?_
      simp only [Act.put, List.getElem_toArray, List.getElem_cons_succ, List.getElem_cons_zero, List.setIfInBounds_toArray, List.set_cons_zero, List.set_cons_succ]
      refine wpAnyH_take (i := 27) (v := .agg (setC X (.slice da gone.length dc))) rfl (by kernel_rfl) (by kernel_rfl) (by kernel_rfl) (fun _ _ _ h => h) (yi_build9 rfl 44 0 2 3 4 5 6 7 1 8 (.tmp 105) (.tmp 109) (.tmp 112) (.tmp 115) (.tmp 118) (.tmp 122) (.tmp 123) (.tmp 127) (.tmp 128) rfl _ _ _ _ _ _ _ _ _ _ HBT.out rfl rfl rfl rfl rfl rfl rfl rfl rfl) (Mid.refl _ _) ?_
      simp only [Act.put, List.getElem_toArray, List.getElem_cons_succ, List.getElem_cons_zero, List.setIfInBounds_toArray, List.set_cons_zero, List.set_cons_succ]
      have M1 := Lib.hid (Mid.up (Mid.refl wr.heap.size w8) (Nat.le_refl _) (up_alloc w8 (.cells (setC X (.slice da gone.length dc)) 44)))
      have UX := up_alloc w8 (.cells (setC X (.slice da gone.length dc)) 44)
      have RW := Lib.hid (show IsRow setcells (w8.alloc (.cells (setC X (.slice da gone.length dc)) 44)) (.slice (some ⟨w8.heap.size, 0, none⟩) 1 1) [(⟨X, da, gone.length, dc⟩ : SetV)] from
        IsRow.litAt _ _ rfl (setC X (.slice da gone.length dc)) 44 (0, 0) [_] 1 rfl (by unfold maxLen; omega) (by simp [setcells, SetV.v]))
      have hb1 := Lib.hid (show (ys.length + [(⟨X, da, gone.length, dc⟩ : SetV)].length) * 112 ≤ 140737488355328 by have := HYL.out; simp; omega)
      have hb2 := Lib.hid (show ys.length + [(⟨X, da, gone.length, dc⟩ : SetV)].length ≤ 9223372036854775807 by have := HYL.out; simp; omega)
      have YX2 := Lib.hid (OwnRow.up Y2.out UX)
      have U10 := Lib.hid (UWR.out.trans UX)
      have S8 := Lib.hid UX.size
      have hb3 := Lib.hid U10.out.size
      have Y3X := Lib.hid (fun y hy => OwnRow.up (Y3.out y hy) UX)
      have ODX := Lib.hid (OwnRow.up OGD.out UX)
      refine wpAnyH_oneK 28 (by kernel_rfl) rfl rfl ?_
      intro K hK
      refine wp_buildSlice1X 23 44 (.tmp 129) rfl _ 11 112 (setC X (.slice da gone.length dc)) rfl Try.underlying23 info_set3 (by omega) (by omega) rfl ?_
      refine hK _ _ M1.out ?_
      clear hK K UX
      simp only [Act.put, List.getElem_toArray, List.getElem_cons_succ, List.getElem_cons_zero, List.setIfInBounds_toArray, List.set_cons_zero, List.set_cons_succ]
      refine wpAnyH_oneK 29 (by kernel_rfl) rfl rfl ?_
      intro K hK
      refine wp_append_row setw (.tmp 102) (.tmp 130) 23 rfl w2.heap.size 44 _ 112 Try.underlying23 info_set3 rfl _ ys rfl YX2.out _ [(⟨X, da, gone.length, dc⟩ : SetV)] rfl RW.out hb1.out hb2.out hb3.out ?_
      intro v9 w9 hown9 hg9 hbl9
      have M2 := Lib.hid (Mid.grown M1.out S8.out hg9 ORB.out)
      refine hK _ _ M2.out ?_
      clear hK K
      simp only [Act.put, List.getElem_toArray, List.getElem_cons_succ, List.getElem_cons_zero, List.setIfInBounds_toArray, List.set_cons_zero, List.set_cons_succ]
      refine wpAnyH_take (i := 30) (v := v9) rfl (by kernel_rfl) (by kernel_rfl) (by kernel_rfl) (fun _ _ _ h => h) (yi_any rfl (fun _ => by go_simp)) M2.out ?_
      simp only [Act.put, List.getElem_toArray, List.getElem_cons_succ, List.getElem_cons_zero, List.setIfInBounds_toArray, List.set_cons_zero, List.set_cons_succ]
      refine ⟨by kernel_rfl, ?_⟩
      have OS6 := Lib.hid (show OwnSets w9 w2.heap.size v9 (out ++ [X]) from by
        refine ⟨_, ?_, hown9, fun y hy => ?_⟩
        · rw [List.map_append, YS.out]; rfl
        · rcases List.mem_append.1 hy with hy | hy
          · exact OwnRow.kept (Y3X.out y hy) hg9 (ownrow_apart (by decide) (Y3X.out y hy) YX2.out)
          · simp at hy
            subst hy
            show OwnPtrs w9 w2.heap.size (.slice da gone.length dc) X.dead
            rw [HDE.out]
            exact OwnRow.kept ODX.out hg9 (ownrow_apart (by decide) ODX.out YX2.out))
      have U11 := Lib.hid (U10.out.below_trans hbl9 (Nat.le_refl _))
      clear hown9 hg9 hbl9
      (try simp only [Exit.then])
      go_wp2_with fail
      refine ⟨⟨j + 1, by omega, hlt, by simp, out ++ [X], by rw [HJ.out]; exact HX1.out, OS6.out, U11.out⟩, ?_⟩
      simp only [intOf]
      omega
    · obtain rfl : j = tn := by omega
      have bk : ((j : Int) < (j : Int)) = False := by simp
      have hpo := HPO.out
      rw [HTN.out, Nat.add_sub_cancel, HM.out, List.take_length] at hpo
      have HPA := Lib.hid hpo
      have BS := Lib.hid (rsetsBytes_any wr nv (by rw [HNV.out]; exact HNL.out) _ out OS.out.sets (parseAll_wf _ _ hpo))
      clear hpo
      go_wp2_with fail
      refine BS.out.mono ?_
      rintro e w6 (⟨hno, rfl, U6⟩ | ⟨mb, v13, hsome, rfl, O13, U6⟩)
      · have HF := Lib.hid (readS_write HTS.out HPA.out (by rw [← HNV.out, hno]; simp))
        have UZ := Lib.hid ((U2.out.trans UR.out).trans U6)
        clear hno U6 BS
        go_wp2_with fail
        go_ret3
        exact .inl ⟨HF.out, rfl, UZ.out⟩
      have UZ := Lib.hid ((U2.out.trans UR.out).trans U6)
      have OS6 := Lib.hid (OwnSets.mono (OS.out.up U6) (base' := w.heap.size) U2.out.size)
      have HSM := Lib.hid hsome
      have C1 := toStr w6 _ mb O13.ones
      have C2 := toStr w6 _ b (HV.out.up UZ.out)
      obtain ⟨qa, qc, rfl⟩ := O13.ones.slice
      have ST := str_test mb b
      have SN : ((strOf mb).toList != (strOf b).toList) = !decide (mb = b) := by rw [← ST]; rfl
      clear hsome U6 BS O13
      by_cases hmb : mb = b
      · rw [decide_eq_true hmb] at ST SN
        have HF := Lib.hid (readS_done HTS.out H8.out HPA.out (by rw [← HNV.out, HSM.out, hmb]))
        rw [← HNV.out] at HF
        generalize strOf mb = s1 at *
        generalize strOf b = s2 at *
        clear hmb HSM
        go_wp2_with fail
        go_ret3
        exact .inr ⟨nv, out, _, HF.out, rfl, OS6.out, UZ.out⟩
      · rw [decide_eq_false hmb] at ST SN
        have HF := Lib.hid (readS_write HTS.out HPA.out (by rw [← HNV.out, HSM.out]; intro h; exact hmb (Option.some.inj h)))
        generalize strOf mb = s1 at *
        generalize strOf b = s2 at *
        clear hmb HSM
        go_wp2_with fail
        go_ret3
        exact .inl ⟨HF.out, rfl, UZ.out⟩

end Go.Proofs.Ythbfhlphclgnaaa
