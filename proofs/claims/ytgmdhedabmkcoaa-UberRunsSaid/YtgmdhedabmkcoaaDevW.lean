/- A device's Write, Stable: the walks. -/
import Derived.Test.YtgmdhedabmkcoaaDevR
set_option linter.unusedSimpArgs false
set_option linter.unusedVariables false
namespace Go.Proofs.Ytgmdhedabmkcoaa
open Go.RowKit

theorem run_buildSlice1 {P : Program} (w : World) (t e : TypeId) (z : Value) (k bytes : Nat) (C : Array Value) (ht : P.underlying t = some (.slice e)) (hinfo : (P.info? e).map (fun i => (i.zero, i.size, i.bytes)) = some (some z, k, bytes)) (h0 : 0 < k) (hk : k ≤ 16777216) (hC : C.size = k) :
    (Instr.buildSlice t 1 #[(0, .agg C)]).run P w = .ok (.slice (some ⟨w.heap.size, 0, none⟩) 1 1) (w.alloc (.cells C e)) := by
  obtain ⟨i, hi, hz0, hz1, _⟩ := info_parts hinfo
  have hf := foldl_zip C ((Array.range k).map (z.cells[· % z.cells.size]!)) 0 (by simp [hC])
  have hs : (splice ((Array.range k).map (z.cells[· % z.cells.size]!)).toList 0 C.toList).toArray = C := by
    unfold splice
    rw [List.take_zero, List.nil_append, List.drop_of_length_le (by simp [hC])]
    simp
  rw [hs] at hf
  simp only [Nat.zero_add] at hf
  have hne : ¬ k = 0 := by omega
  have hle : ¬ 16777216 < k := by omega
  simp only [Array.size_zipIdx, hC] at hf
  have hv : (Value.agg C).cells = C := rfl
  simp [Instr.buildSlice, run_underlying ht, sizeOf, typeInfo, hi, hz0, hz1, zeroValue, Instr.fill, hv, hC, hne, hle, newRow]
  rw [hf]
theorem wpList_buildSlice1 {P : Program} {ops : Array Oper} {rest : List Oper} {op : Oper} {a : Act} {w : World} {Q : Exit → Act → World → Prop} (hgd : op.guard = none) (t e : TypeId) (x : Operand) (ho : op.op = .buildSlice t 1 #[(0, x)]) (z : Value) (k bytes : Nat) (C : Array Value) (hx : a.eval x = .agg C)
    (ht : P.underlying t = some (.slice e)) (hinfo : (P.info? e).map (fun i => (i.zero, i.size, i.bytes)) = some (some z, k, bytes)) (h0 : 0 < k) (hk : k ≤ 16777216) (hC : C.size = k)
    (h : wpList P ops Q rest (a.put op.dst (.slice (some ⟨w.heap.size, 0, none⟩) 1 1)) (w.alloc (.cells C e))) : wpList P ops Q (op :: rest) a w := by
  refine wpList_plain hgd fun K hK => ?_
  have hr := run_buildSlice1 (P := P) w t e z k bytes C ht hinfo h0 hk hC
  unfold Oper.wp execOp
  simp [ho, hx, hr, Result.andThen]
  exact hK _ _ h
theorem wp_buildSlice1 {P : Program} {op : Oper} {a : Act} {w : World} {K : Act → World → Prop} {Q : Exit → Act → World → Prop} (t e : TypeId) (x : Operand) (ho : op.op = .buildSlice t 1 #[(0, x)]) (z : Value) (k bytes : Nat) (C : Array Value) (hx : a.eval x = .agg C)
    (ht : P.underlying t = some (.slice e)) (hinfo : (P.info? e).map (fun i => (i.zero, i.size, i.bytes)) = some (some z, k, bytes)) (h0 : 0 < k) (hk : k ≤ 16777216) (hC : C.size = k)
    (h : K (a.put op.dst (.slice (some ⟨w.heap.size, 0, none⟩) 1 1)) (w.alloc (.cells C e))) : op.wp P a w K Q := by
  have hr := run_buildSlice1 (P := P) w t e z k bytes C ht hinfo h0 hk hC
  unfold Oper.wp execOp
  simp [ho, hx, hr, Result.andThen]
  exact h
theorem results_one {fn : Func} {p : Tmp} {ty : TypeId} (h : fn.results = #[.cell p ty]) (tmps : Array Value) (P : Program) (w : World) (g : Nat) (t : TypeId) (C : Array Value)
    (hp : tmps.getD p undef = .pointer (some ⟨g, 0, none⟩)) (hb : Blk w g t C) (d : TypeDesc) (hd : P.underlying ty = some d) (hr : d.isRow = true) (hi : (P.info? ty).map (·.size) = some C.size) :
    (results fn tmps).run P w = .ok (.agg C) w := by
  simp only [results, h]
  have := run_load_blk (P := P) (w := w) ty g t C hb d hd hr hi
  have hp2 : tmps[p]?.getD undef = .pointer (some ⟨g, 0, none⟩) := by rw [← hp]; simp [Array.getD_eq_getD_getElem?]
  simp [Sem.run_bind, Result.andThen, hp, hp2, asAddr, this]
theorem wr_row (w : World) (b : Nat) (hb : b = w.heap.size) (x : WrD) : IsRow wcells (w.alloc (.cells (wrC x) 101)) (.slice (some ⟨b, 0, none⟩) 1 1) [x] :=
  IsRow.litAt w b hb (wrC x) 101 (0, 0) [x] 1 rfl (by unfold maxLen; omega) (by simp [wrC])

set_option maxRecDepth 100000 in
set_option maxHeartbeats 4000000 in
theorem dstable_any (w : World) (h : Hnd) (v : DevD) (D : Dv w h v) (i : Int) (hi : -9223372036854775808 ≤ i ∧ i ≤ 9223372036854775807) :
    Calls Try.prog 31 #[.pointer (some ⟨h.d, 0, none⟩), .int .i64 i] w fun e w' => e = .returned (.agg (secC (v.stableAt i).val)) ∧ Up w w' := by
  have upa := up_alloc w (.cells (secC zeroS) 34)
  have HB1 := Lib.hid (Blk.new w 34 (secC zeroS))
  have HD1 := Lib.hid (D.up upa)
  have HS := Lib.hid (fun W (DD : Dv W h v) => has_any W h v DD i hi)
  have HFB := Lib.hid (hasB_iff v i)
  have hm := D.max
  clear D hi
  cases hb : v.hasB i
  case false =>
    rw [hb] at HS
    have E := Lib.hid (show v.stableAt i = zSec by unfold DevD.stableAt; rw [hb]; simp)
    clear hb
    go_enter Try.func31, Try.ntmps31
    go_wp2_with (refine wpList_alloc_blk rfl 34 rfl (secC zeroS) zero_sec ?_)
    refine (HS.out _ HD1.out).mono ?_
    rintro e w3 ⟨rfl, rfl⟩
    go_wp2_with (first
      | (refine wpList_build0 rfl 34 rfl (secC zeroS) built_sec ?_)
      | (refine wpList_store_blk rfl 34 (.tmp 4) (.tmp 9) rfl w.heap.size (secC zeroS) rfl rfl 34 (secC zeroS) HB1.out info_sec rfl (secC_one _) ?_))
    intro w4 hb4 hg4
    have up4 : Up w w4 := upa.below_trans (below_grown hg4 (Nat.le_of_lt HB1.out.lt) (fun k hk => by cases hk; exact Nat.le_refl _)) (Nat.le_refl _)
    go_wp2_with fail
    (try simp only [Exit.inBlock, Exit.then])
    refine bodyPost_ret (v := .agg (secC zeroS)) (results_one rfl _ _ _ w.heap.size 34 _ rfl hb4 _ Try.underlying34 rfl info_sec) rfl ⟨by rw [E.out]; rfl, up4⟩
  case true =>
    rw [hb] at HS
    have hio := HFB.out.1 hb
    obtain ⟨n, rfl⟩ : ∃ n : Nat, i = n := ⟨i.toNat, by omega⟩
    have hnl : n < v.stable.length := by omega
    have E := Lib.hid (show v.stableAt n = v.stable[n] by
      unfold DevD.stableAt
      rw [hb]
      simp only [if_true, Int.toNat_natCast]
      rw [List.getD_eq_getElem?_getD, List.getElem?_eq_getElem hnl]
      rfl)
    clear hb hio
    have c0 := HD1.out.cells.1
    have RG := Lib.hid (secs_range HD1.out.b1 n hnl)
    have b2 : ((n : Int) < (v.stable.length : Int)) = True := by simp; omega
    go_enter Try.func31, Try.ntmps31
    go_wp2_with (refine wpList_alloc_blk rfl 34 rfl (secC zeroS) zero_sec ?_)
    refine (HS.out _ HD1.out).mono ?_
    rintro e w3 ⟨rfl, rfl⟩
    go_wp2_with (first
      | (refine wpList_load_part rfl 34 (.tmp 15) rfl h.g1 (n * 128) rfl _ RG.out _ Try.underlying34 rfl (info_secV _) ?_)
      | (refine wpList_store_blk rfl 34 (.tmp 4) (.tmp 16) rfl w.heap.size (secC (v.stable[n]'hnl).val) rfl rfl 34 (secC zeroS) HB1.out (info_secV _) (by rw [secV_size]; rfl) (secC_one _) ?_))
    intro w4 hb4 hg4
    have up4 : Up w w4 := upa.below_trans (below_grown hg4 (Nat.le_of_lt HB1.out.lt) (fun k hk => by cases hk; exact Nat.le_refl _)) (Nat.le_refl _)
    go_wp2_with fail
    (try simp only [Exit.inBlock, Exit.then])
    refine bodyPost_ret (v := .agg (secC (v.stable[n]'hnl).val)) (results_one rfl _ _ _ w.heap.size 34 _ rfl hb4 _ Try.underlying34 rfl (info_secV _)) rfl ⟨by rw [E.out], up4⟩
end Go.Proofs.Ytgmdhedabmkcoaa
