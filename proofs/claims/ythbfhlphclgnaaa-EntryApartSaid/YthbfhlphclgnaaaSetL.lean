/- Lists of records: whether two are the same; the document's copy. -/
import Derived.Test.YthbfhlphclgnaaaSetL1
set_option linter.unusedSimpArgs false
set_option linter.unusedVariables false
namespace Go.Proofs.Ythbfhlphclgnaaa
open Go.RowKit Go.Sort

/-- A piece of a row read in a region that draws its order. -/
theorem quiet_load_part {P : Program} {op : Oper} {a : Act} {C0 : World → Prop} {K : Act → Prop} (ty : TypeId) (x : Operand) (ho : op.op = .load ty x) (g off : Nat) (hx : a.eval x = .pointer (some ⟨g, off, none⟩)) (C : Array Value)
    (hb : ∀ w, C0 w → w.rangeAt g off C.toList) (d : TypeDesc) (hu : P.underlying ty = some d) (hd : d.isRow = true) (hi : (P.info? ty).map (·.size) = some C.size) (hk : K (a.put op.dst (.agg C))) : op.quiet P a C0 K := by
  refine ⟨_, fun w hw => ?_, hk⟩
  unfold Oper.quietAt execOp
  have := run_loadVar_mid (P := P) w g off ty C.toList d (hb w hw) hu hd (by simpa using hi)
  simp only [ho, hx, Instr.loadAt, Instr.sureAddr, Sem.run_bind, Sem.run_pure, Result.andThen_ok, this]
  exact ⟨rfl, by simp⟩
theorem range_cls {w : World} {g off : Nat} {l : List Value} (h : w.rangeAt g off l) : ∀ w', (∃ p : Regrown, w' = grow (redrawn w p.d) p.os) → w'.rangeAt g off l := fun _ ⟨p, hp⟩ j u hj => by
  rw [hp]
  exact cell_regrown (h j u hj) p.d p.os
theorem take_eq_stepS {α : Type} {l m : List α} {k : Nat} (h1 : k < l.length) (h2 : k < m.length) (h : l.take k = m.take k) (he : l[k] = m[k]) : l.take (k + 1) = m.take (k + 1) := by
  rw [List.take_succ_eq_append_getElem h1, List.take_succ_eq_append_getElem h2, h, he]

set_option maxRecDepth 100000 in
set_option maxHeartbeats 4000000 in
theorem sameList_any (w : World) (v v2 : Value) (l m : List SetD) (hv : IsSets w v l) (hv2 : IsSets w v2 m) :
    Calls Try.prog 14 #[v, v2] w fun e w' => BoolUp (decide (l = m)) w e w' := by
  have hlen := hv.length_le
  have hlen2 := hv2.length_le
  obtain ⟨a, cap, rfl⟩ := hv.slice
  obtain ⟨a2, cap2, rfl⟩ := hv2.slice
  by_cases hl : l.length = m.length
  case neg =>
    have ht : ((l.length : Int) != (m.length : Int)) = true := by simp; omega
    have hb : decide (l = m) = false := by simp; rintro rfl; exact hl rfl
    have HB := Lib.hid hb
    clear hb hl
    go_enter Try.func14, Try.ntmps14
    go_wp2_with fail
    go_ret
    exact ⟨by rw [HB.out] <;> rfl, Up.refl _⟩
  obtain ⟨n, hn⟩ : ∃ n, n = l.length := ⟨_, rfl⟩
  have hn2 : m.length = n := by omega
  have ht : ((n : Int) != (n : Int)) = false := by simp
  rw [← hn] at hv hlen ⊢
  rw [hn2] at hv2 ⊢
  have HL := Lib.hid hn
  have HM := Lib.hid hn2
  clear hn hn2 hl
  have HV := Lib.hid hv
  have HV2 := Lib.hid hv2
  clear hv hv2
  go_enter Try.func14, Try.ntmps14
  go_wp2_with fail
  clear ht
  go_loopw [13] (fun i wr => ∃ k : Nat, k ≤ n ∧ i = .int .i64 k ∧ l.take k = m.take k ∧ Up w wr) (fun i _ => n - (intOf i).toNat)
  case atStart => exact ⟨0, Nat.zero_le _, rfl, by simp, Up.refl _⟩
  case round =>
    obtain ⟨k, hk, rfl, heq, upr⟩ := hrel
    have UR := Lib.hid upr
    clear upr
    by_cases hlt : k < n
    · have k1 : k < l.length := by have := HL.out; omega
      have k2 : k < m.length := by have := HM.out; omega
      obtain ⟨b, off, rfl, _, hc⟩ := sets_at (HV.out.up UR.out) (by omega)
      obtain ⟨b', off', rfl, _, hc'⟩ := sets_at (HV2.out.up UR.out) (by omega)
      obtain ⟨da, dn, dc, rg, dp⟩ := hc k k1
      obtain ⟨ea, en, ec, rg', dp'⟩ := hc' k k2
      have b2 : ((k : Int) < (n : Int)) = True := by simp; omega
      have HST := Lib.hid (fun h => take_eq_stepS k1 k2 heq h)
      have HNE := Lib.hid (show l[k] ≠ m[k] → decide (l = m) = false from fun h => by
        simp only [decide_eq_false_iff_not]
        rintro rfl
        exact h rfl)
      clear hc hc' heq
      generalize l[k] = x at *
      generalize m[k] = y at *
      have SM := Lib.hid (fun d os => srsame_any (grow (redrawn wr d) os) x y _ _ (IsRow.up dp (below_regrown wr d os)) (IsRow.up dp' (below_regrown wr d os)))
      have RX := Lib.hid (range_cls rg)
      have RY := Lib.hid (range_cls rg')
      have HIX := Lib.hid (info_setV x (.slice da dn dc))
      have HIY := Lib.hid (info_setV y (.slice ea en ec))
      clear rg rg' dp dp'
      generalize hsb : sameB x y = sb at *
      generalize setC x (.slice da dn dc) = Cx at *
      generalize setC y (.slice ea en ec) = Cy at *
      go_wp2_with fail
      cases sb
      all_goals
        refine wp_region_quiet_below (by kernel_rfl) (by kernel_rfl) ?_
        repeat (first
          | (go_big_quiet_want; (with_reducible refine qg_loadX 44 (.tmp 18) ?_); refine quiet_load_part 44 (.tmp 18) rfl b (off + k * 11) rfl _ RX.out _ Try.underlying44 rfl HIX.out ?_; go_big_quiet_on; go_simp)
          | (go_big_quiet_want; (with_reducible refine qg_loadX 44 (.tmp 22) ?_); refine quiet_load_part 44 (.tmp 22) rfl b' (off' + k * 11) rfl _ RY.out _ Try.underlying44 rfl HIY.out ?_; go_big_quiet_on; go_simp)
          | (go_big_quiet_step ((go_at_call 20; exact Calls.regrown_of (SM.out _ _)))))
        refine wpQuiet_nil ?_
        intro p
        obtain ⟨w6, hw6⟩ : ∃ x, x = grow (redrawn wr p.d) p.os := ⟨_, rfl⟩
        rw [← hw6]
        have up6 := UR.out.trans (show Up wr w6 by rw [hw6]; exact below_regrown _ _ _)
        clear hw6
        go_wp2_with fail
      · have HF := Lib.hid (HNE.out (fun h => by
          have : sameB x y = true := by rw [h]; exact decide_eq_true rfl
          rw [hsb] at this
          cases this))
        go_ret
        exact ⟨by rw [HF.out] <;> rfl, up6⟩
      · have hxy : x = y := by unfold sameB at hsb; simpa using hsb
        refine ⟨⟨k + 1, by omega, by simp, HST.out hxy, up6⟩, ?_⟩
        simp only [intOf]
        omega
    · obtain rfl : k = n := by omega
      have hb : decide (l = m) = true := by
        have h1 : l.take k = l := List.take_of_length_le (by have := HL.out; omega)
        have h2 : m.take k = m := List.take_of_length_le (by have := HM.out; omega)
        rw [h1, h2] at heq
        simpa using heq
      have HB := Lib.hid hb
      clear hb heq
      go_wp2_with fail
      go_ret
      exact ⟨by rw [HB.out] <;> rfl, UR.out⟩

theorem ownrow_apart {α β : Type} {f : α → List Value} {f2 : β → List Value} {k k2 : Nat} {e e2 : TypeId} {w : World} {b b2 : Nat} {v v2 : Value} {xs : List α} {ys : List β} (hne : e ≠ e2) (h : OwnRow f k e w b v xs) (h2 : OwnRow f2 k2 e2 w b2 v2 ys) : v.ownBlock = none ∨ v.ownBlock ≠ v2.ownBlock := by
  obtain ⟨_, h⟩ := h
  obtain ⟨_, h2⟩ := h2
  rcases h with ⟨rfl, _⟩ | ⟨g, cap, cur, rfl, _, hh, _⟩
  · exact .inl rfl
  · refine .inr ?_
    rcases h2 with ⟨rfl, _⟩ | ⟨g2, cap2, cur2, rfl, _, hh2, _⟩
    · simp [Value.ownBlock]
    · simp only [Value.ownBlock, ne_eq, Option.some.injEq]
      rintro rfl
      have := hh.symm.trans hh2
      simp at this
      exact hne this.2
/-- Records of the call's own. -/
def OwnSets (w : World) (base : Nat) (v : Value) (l : List SetD) : Prop := ∃ ys : List SetV, ys.map (·.d) = l ∧ OwnRow setcells 11 44 w base v ys ∧ ∀ y ∈ ys, OwnPtrs w base y.v y.d.dead
theorem OwnSets.sets {w : World} {base : Nat} {v : Value} {l : List SetD} (h : OwnSets w base v l) : IsSets w v l := by
  obtain ⟨ys, h1, h2, h3⟩ := h
  exact ⟨ys, h1, OwnRow.row h2 setw, fun y hy => OwnRow.row (h3 y hy) pw⟩
theorem OwnSets.up {w w' : World} {base : Nat} {v : Value} {l : List SetD} (h : OwnSets w base v l) (hu : Up w w') : OwnSets w' base v l := by
  obtain ⟨ys, h1, h2, h3⟩ := h
  exact ⟨ys, h1, OwnRow.up h2 hu, fun y hy => OwnRow.up (h3 y hy) hu⟩
def spliceX (l : List Value) (o : Nat) (m : List Value) : List Value := l.take o ++ (m ++ l.drop (o + m.length))
theorem foldl_setsX : ∀ (l : List Value) (k off : Nat) (cs : Array Value), off + k + l.length ≤ cs.size → ((l.zipIdx k).foldl (fun (cs : Array Value) p => cs.setIfInBounds (off + p.2) p.1) cs).toList = cs.toList.take (off + k) ++ (l ++ cs.toList.drop (off + k + l.length))
  | [], k, off, cs, _ => by simp
  | v :: l, k, off, cs, hc => by
    simp only [List.length_cons] at hc
    rw [List.zipIdx_cons, List.foldl_cons]
    have ih := foldl_setsX l (k + 1) off (cs.setIfInBounds (off + k) v) (by simp; omega)
    rw [ih, Array.toList_setIfInBounds]
    have h1 : (cs.toList.set (off + k) v).take (off + (k + 1)) = cs.toList.take (off + k) ++ [v] := by
      rw [show off + (k + 1) = off + k + 1 by omega, List.take_succ_eq_append_getElem (by simp; omega), List.getElem_set_self, List.take_set_of_le (Nat.le_refl _)]
    have h2 : (cs.toList.set (off + k) v).drop (off + (k + 1) + l.length) = cs.toList.drop (off + k + (v :: l).length) := by
      rw [List.drop_set_of_lt (by omega)]
      congr 1
      simp
      omega
    rw [h1, h2]
    simp
theorem foldl_zipX (V cs : Array Value) (off : Nat) (h : off + V.size ≤ cs.size) : V.zipIdx.foldl (fun (cs : Array Value) (p : Value × Nat) => cs.setIfInBounds (off + p.2) p.1) cs = (spliceX cs.toList off V.toList).toArray := by
  apply Array.toList_inj.1
  rw [← Array.foldl_toList, Array.toList_zipIdx, foldl_setsX V.toList 0 off cs (by simpa using h)]
  simp [spliceX]
theorem run_buildSlice1X {P : Program} (w : World) (t e : TypeId) (z : Value) (k bytes : Nat) (C : Array Value) (ht : P.underlying t = some (.slice e)) (hinfo : (P.info? e).map (fun i => (i.zero, i.size, i.bytes)) = some (some z, k, bytes)) (h0 : 0 < k) (hk : k ≤ 16777216) (hC : C.size = k) :
    (Instr.buildSlice t 1 #[(0, .agg C)]).run P w = .ok (.slice (some ⟨w.heap.size, 0, none⟩) 1 1) (w.alloc (.cells C e)) := by
  obtain ⟨i, hi, hz0, hz1, _⟩ := info_parts hinfo
  have hf := foldl_zipX C ((Array.range k).map (z.cells[· % z.cells.size]!)) 0 (by simp [hC])
  have hs : (spliceX ((Array.range k).map (z.cells[· % z.cells.size]!)).toList 0 C.toList).toArray = C := by
    unfold spliceX
    rw [List.take_zero, List.nil_append, List.drop_of_length_le (by simp [hC])]
    simp
  rw [hs] at hf
  simp only [Nat.zero_add] at hf
  have hne : ¬ k = 0 := by omega
  have hle : ¬ 16777216 < k := by omega
  simp only [Array.size_zipIdx, hC] at hf
  have hv : (Value.agg C).cells = C := rfl
  simp [Instr.buildSlice, run_underlying ht, sizeOf, typeInfo, hi, hz0, hz1, zeroValue, Instr.fill, hv, hC, hne, hle, newRow]
  rw [hf]
theorem wpList_buildSlice1X {P : Program} {ops : Array Oper} {rest : List Oper} {op : Oper} {a : Act} {w : World} {Q : Exit → Act → World → Prop} (hgd : op.guard = none) (t e : TypeId) (x : Operand) (ho : op.op = .buildSlice t 1 #[(0, x)]) (z : Value) (k bytes : Nat) (C : Array Value) (hx : a.eval x = .agg C)
    (ht : P.underlying t = some (.slice e)) (hinfo : (P.info? e).map (fun i => (i.zero, i.size, i.bytes)) = some (some z, k, bytes)) (h0 : 0 < k) (hk : k ≤ 16777216) (hC : C.size = k)
    (h : wpList P ops Q rest (a.put op.dst (.slice (some ⟨w.heap.size, 0, none⟩) 1 1)) (w.alloc (.cells C e))) : wpList P ops Q (op :: rest) a w := by
  refine wpList_plain hgd fun K hK => ?_
  have hr := run_buildSlice1X (P := P) w t e z k bytes C ht hinfo h0 hk hC
  unfold Oper.wp execOp
  simp [ho, hx, hr, Result.andThen]
  exact hK _ _ h
set_option maxRecDepth 100000 in
set_option maxHeartbeats 8000000 in
theorem rcopy_any (w : World) (v : Value) (l : List SetD) (hv : IsSets w v l) (hk : l.length ≤ 1000) (hr : ∀ x ∈ l, x.dead.length * 24 ≤ 140737488355328) :
    Calls Try.prog 11 #[v] w fun e w' => ∃ v', e = .returned v' ∧ OwnSets w' w.heap.size v' l ∧ Up w w' := by
  obtain ⟨la, lc, rfl⟩ := hv.slice
  have HV := Lib.hid hv
  have HR := Lib.hid hr
  have O0 := Lib.hid (show OwnSets (w.alloc (.cells #[] 44)) w.heap.size (.slice (some ⟨w.heap.size, 0, none⟩) 0 0) [] from ⟨[], rfl, OwnRow.made setcells 11 44 w w.heap.size (Nat.le_refl _), fun _ h => by cases h⟩)
  have U0 := Lib.hid (up_alloc w (.cells #[] 44))
  clear hv hr
  go_enter Try.func11, Try.ntmps11
  go_wp2_with fail
  go_loopw [3, 9] (fun ov i wr => ∃ k : Nat, k ≤ l.length ∧ i = .int .i64 k ∧ OwnSets wr w.heap.size ov (l.take k) ∧ Up w wr) (fun _ i _ => l.length - (intOf i).toNat)
  case atStart => exact ⟨0, Nat.zero_le _, rfl, O0.out, U0.out⟩
  case round =>
    obtain ⟨k, hk', rfl, os, ur⟩ := hrel
    have UR := Lib.hid ur
    have OS := Lib.hid os
    clear ur os O0 U0
    by_cases hlt : k < l.length
    · have b3 : ((k : Int) < (l.length : Int)) = True := by simp; omega
      obtain ⟨sb, so, rfl, _, sg⟩ := sets_at (HV.out.up UR.out) (by omega)
      obtain ⟨da, dn, dc, rg, dp⟩ := sg k hlt
      have hdn : dn = l[k].dead.length := by obtain ⟨_, _, h⟩ := dp.slice; simp at h; exact h.2.1
      subst hdn
      have SG := Lib.hid rg
      have TK := Lib.hid (show l.take (k + 1) = l.take k ++ [l[k]] from List.take_succ_eq_append_getElem hlt)
      have HB := Lib.hid (HR.out l[k] (List.getElem_mem hlt))
      clear sg rg
      generalize l[k] = x at *
      have HSI := Lib.hid (info_setV x (.slice da x.dead.length dc))
      have H1 := Lib.hid (setC_one x da x.dead.length dc)
      have HZ := Lib.hid (show zSetC.size = (setC x (.slice da x.dead.length dc)).size from rfl)
      have UX := up_alloc wr (.cells (setC x (.slice da x.dead.length dc)) 44)
      have sz1 := sz_alloc wr (.cells (setC x (.slice da x.dead.length dc)) 44)
      have BX := Lib.hid (Blk.new wr 44 (setC x (.slice da x.dead.length dc)))
      have c10 := (BX.out.up (up_alloc _ (.cells #[] 41))).setAt.c10
      have DP := Lib.hid (IsRow.up dp UX)
      have O1 := Lib.hid (OS.out.up UX)
      have U1 := Lib.hid (UR.out.trans UX)
      have SZ1 := Lib.hid sz1
      clear UX dp
      obtain ⟨w1, hw1⟩ : ∃ y, y = wr.alloc (.cells (setC x (.slice da x.dead.length dc)) 44) := ⟨_, rfl⟩
      go_wp2_with (first
        | ((with_reducible refine wg_load 44 (.tmp 11) ?_); refine wl_part rfl 44 (.tmp 11) rfl sb (so + k * 11) rfl (setC x (.slice da x.dead.length dc)) SG.out _ Try.underlying44 rfl HSI.out ?_)
        | ((with_reducible refine wg_alloc 44 ?_); refine wpList_alloc_blk rfl 44 rfl zSetC zero_set ?_)
        | ((with_reducible refine wg_store 44 (.tmp 5) (.tmp 12) ?_); refine ws_new wr rfl 44 (.tmp 5) (.tmp 12) rfl (setC x (.slice da x.dead.length dc)) 44 zSetC rfl rfl rfl HSI.out HZ.out H1.out ?_)
        | (at_builtin; refine wpList_fresh_row pw rfl (.tmp 13) (.tmp 15) 42 rfl 41 _ 24 Try.underlying42 info_ptr3 rfl _ sz1.symm rfl (.slice da x.dead.length dc) x.dead rfl DP.out HB.out ?_))
      intro v' w3 hown hu
      obtain ⟨na, nc, rfl⟩ := (OwnRow.row hown pw).slice
      have b3' := BX.out.up hu
      have f10 := b3'.free 10
      have c11 := b3'.setAt.c10
      have G := grown_setCell b3' 10 (.slice na x.dead.length nc)
      have b4 := b3'.setCell 10 (.slice na x.dead.length nc)
      rw [setC_put] at b4
      have B4 := Lib.hid b4
      have O4 := Lib.hid (OwnRow.kept hown G (.inr (own_nex (by decide) b3' hown)))
      have HO4 := Lib.hid (hown.mono (base' := w.heap.size) (by have := U1.out.size; have := SZ1.out; have := UR.out.size; omega))
      have U4 := Lib.hid ((U1.out.trans hu).grown G (fun k hk => by cases hk; exact UR.out.size))
      have OS4 := Lib.hid (show OwnSets (w3.setCell ⟨wr.heap.size, 10, none⟩ (.slice na x.dead.length nc)) w.heap.size _ _ from by
        obtain ⟨ys, h1, h2, h3⟩ := O1.out.up hu
        refine ⟨ys, h1, OwnRow.kept h2 G (.inr (fun e => ?_)), fun y hy => OwnRow.kept (h3 y hy) G (.inr (own_nex (by decide) b3' (h3 y hy)))⟩
        obtain ⟨ys', _, h2', _⟩ := OS.out
        have := (h2'.block_lt _ e).2
        omega)
      have O5 := Lib.hid (OwnRow.mono O4.out (base' := w.heap.size) (by have := SZ1.out; have := UR.out.size; omega))
      have HN := Lib.hid (info_setV x (.slice na x.dead.length nc))
      clear hown hu b3' G b4 c10 O4 HO4 BX O1 OS DP HSI H1 HZ sz1 hw1
      obtain ⟨w4, hw4⟩ : ∃ y, y = w3.setCell ⟨wr.heap.size, 10, none⟩ (.slice na x.dead.length nc) := ⟨_, rfl⟩
      obtain ⟨ys, h1, h2, h3⟩ := OS4.out
      have UY := up_alloc (w3.setCell ⟨wr.heap.size, 10, none⟩ (.slice na x.dead.length nc)) (.cells (setC x (.slice na x.dead.length nc)) 44)
      have YS := Lib.hid h1
      have Y2 := Lib.hid (OwnRow.up h2 UY)
      have Y3 := Lib.hid (fun y hy => OwnRow.up (h3 y hy) UY)
      have O6 := Lib.hid (OwnRow.up O5.out UY)
      have U6 := Lib.hid (U4.out.trans UY)
      have hb3 := Lib.hid U6.out.size
      have hyl : ys.length ≤ 1000 := by
        have := congrArg List.length h1
        simp at this
        omega
      have RW := Lib.hid (show IsRow setcells ((w3.setCell ⟨wr.heap.size, 10, none⟩ (.slice na x.dead.length nc)).alloc (.cells (setC x (.slice na x.dead.length nc)) 44)) (.slice (some ⟨(w3.setCell ⟨wr.heap.size, 10, none⟩ (.slice na x.dead.length nc)).heap.size, 0, none⟩) 1 1) [(⟨x, na, x.dead.length, nc⟩ : SetV)] from
        IsRow.litAt _ _ rfl (setC x (.slice na x.dead.length nc)) 44 (0, 0) [_] 1 rfl (by unfold maxLen; omega) (by simp [setcells, SetV.v]))
      have hb1 := Lib.hid (show (ys.length + [(⟨x, na, x.dead.length, nc⟩ : SetV)].length) * 112 ≤ 140737488355328 by simp; omega)
      have hb2 := Lib.hid (show ys.length + [(⟨x, na, x.dead.length, nc⟩ : SetV)].length ≤ 9223372036854775807 by simp; omega)
      clear h1 h2 h3 UY hyl hw4 OS4 O5 U4
      go_wp2_with (first
        | ((with_reducible refine wg_load 44 (.tmp 5) ?_); refine wpList_load_blkG rfl 44 (.tmp 5) rfl wr.heap.size rfl 44 _ B4.out _ Try.underlying44 rfl HN.out ?_)
        | ((with_reducible refine wg_slice 23 1 _ ?_); refine wpList_buildSlice1X rfl 23 44 (.tmp 19) rfl _ 11 112 (setC x (.slice na x.dead.length nc)) rfl Try.underlying23 info_set3 (by omega) (by omega) rfl ?_)
        | (at_builtin; refine wpList_append_row setw rfl (.tmp 18) (.tmp 20) 23 rfl w.heap.size 44 _ 112 Try.underlying23 info_set3 rfl _ ys rfl Y2.out _ [(⟨x, na, x.dead.length, nc⟩ : SetV)] rfl RW.out hb1.out hb2.out hb3.out ?_))
      intro v6 w6 hown6 hg6 hbl6
      have OS6 := Lib.hid (show OwnSets w6 w.heap.size v6 (l.take (k + 1)) from by
        refine ⟨_, ?_, hown6, fun y hy => ?_⟩
        · rw [List.map_append, YS.out, TK.out]; rfl
        · rcases List.mem_append.1 hy with hy | hy
          · exact OwnRow.kept (Y3.out y hy) hg6 (ownrow_apart (by decide) (Y3.out y hy) Y2.out)
          · simp at hy
            subst hy
            exact OwnRow.kept O6.out hg6 (ownrow_apart (by decide) O6.out Y2.out))
      have U8 := Lib.hid (U6.out.below_trans hbl6 (Nat.le_refl _))
      clear hown6 hg6 hbl6
      go_wp2_with fail
      refine ⟨⟨k + 1, hlt, by simp, OS6.out, U8.out⟩, ?_⟩
      simp only [intOf]
      omega
    · obtain rfl : k = l.length := by omega
      have b3 : ((l.length : Int) < (l.length : Int)) = False := by simp
      have os := OS.out
      rw [List.take_length] at os
      have OS' := Lib.hid os
      clear os
      go_wp2_with fail
      go_ret
      exact ⟨_, rfl, OS'.out, UR.out⟩

end Go.Proofs.Ythbfhlphclgnaaa
