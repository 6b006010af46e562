/- A new device: the walk. -/
import Derived.Test.YtgmdhedabmkcoaaDevK
set_option linter.unusedSimpArgs false
set_option linter.unusedVariables false
namespace Go.Proofs.Ytgmdhedabmkcoaa
open Go.RowKit

theorem run_makeRN {P : Program} (t e : TypeId) (z : Value) (k bytes : Nat) (ht : P.underlying t = some (.slice e)) (hinfo : (P.info? e).map (fun i => (i.zero, i.size, i.bytes)) = some (some z, k, bytes)) (c : Nat)
    (hc : bytes * c ≤ 281474976710656) (hm : c ≤ 9223372036854775807) (w : World) :
    (Instr.makeSlice t (.int .i64 (c : Int)) (.int .i64 (c : Int))).run P w = .ok (.slice (some ⟨w.heap.size, 0, none⟩) c c) (w.alloc (.cells (madeCells z.cells (c * k)) e)) := by
  obtain ⟨i, hi, hz0, hz1, hz2⟩ := info_parts hinfo
  have hb : (bytes : Int) * (c : Int) ≤ 281474976710656 := by
    have h : ((bytes * c : Nat) : Int) ≤ 281474976710656 := by omega
    rwa [Int.natCast_mul] at h
  have := run_make (P := P) w t e i z ht hi hz0 .i64 .i64 c c (by omega) (by omega) (by rw [hz2]; exact hb) (by omega)
  rw [hz1] at this
  simpa using this
theorem scells_z : scells zSec = List.replicate 128 (.int .u8 0) := by kernel_rfl
theorem made_secs (n : Nat) : madeCells (secC zeroS) (n * 128) = secsC (List.replicate n zSec) := by
  apply Array.toList_inj.1
  rw [secsC_list, List.flatMap_replicate, scells_z, List.flatten_replicate_replicate]
  rw [List.eq_replicate_iff]
  refine ⟨by rw [Array.length_toList, size_madeCells], fun b hb => ?_⟩
  unfold madeCells at hb
  simp only [Array.toList_map, List.mem_map] at hb
  obtain ⟨j, _, rfl⟩ := hb
  have hs : (secC zeroS).size = 128 := by rw [secC_size]; rfl
  have hj : j % (secC zeroS).size < (secC zeroS).size := Nat.mod_lt _ (by omega)
  rw [getElem!_pos (secC zeroS) _ hj]
  have hm : (secC zeroS)[j % (secC zeroS).size] ∈ (secC zeroS).toList := by simp
  rw [show (secC zeroS).toList = scells zSec from secC_scells zSec, scells_z] at hm
  exact (List.mem_replicate.1 hm).2
theorem info_secz : (Try.prog.info? 34).map (fun i => (i.zero, i.size, i.bytes)) = some (some (.agg (secC zeroS)), 128, 128) := by kernel_rfl
def newD (n : Nat) : DevD := ⟨List.replicate n zSec, List.replicate n zSec, [], 0, -1, false⟩
section
variable {P : Program}
theorem wp_makeRN {op : Oper} {a : Act} {w : World} {K : Act → World → Prop} {Q : Exit → Act → World → Prop} (t : TypeId) (x y : Operand) (ho : op.op = .makeSlice t x y) (e : TypeId) (z : Value) (k bytes : Nat) (ht : P.underlying t = some (.slice e)) (hinfo : (P.info? e).map (fun i => (i.zero, i.size, i.bytes)) = some (some z, k, bytes)) (c : Nat)
    (hc : bytes * c ≤ 281474976710656) (hm : c ≤ 9223372036854775807) (hx : a.eval x = .int .i64 (c : Int)) (hy : a.eval y = .int .i64 (c : Int)) (C : Array Value) (hC : madeCells z.cells (c * k) = C)
    (h : K (a.put op.dst (.slice (some ⟨w.heap.size, 0, none⟩) c c)) (w.alloc (.cells C e))) : op.wp P a w K Q := by
  have hr := run_makeRN (P := P) t e z k bytes ht hinfo c hc hm w
  rw [hC] at hr
  unfold Oper.wp execOp
  simp only [ho, hx, hy, Sem.run_bind, hr, Result.andThen_ok]
  exact h
theorem wp_box {op : Oper} {a : Act} {w : World} {K : Act → World → Prop} {Q : Exit → Act → World → Prop} (t : TypeId) (x : Operand) (ho : op.op = .box t x) (C : Array Value) (hx : a.eval x = .agg C)
    (h : K (a.put op.dst (.pointer (some ⟨w.heap.size, 0, none⟩))) (w.alloc (.cells C t))) : op.wp P a w K Q := by
  unfold Oper.wp execOp
  simp [ho, hx, Instr.box, Value.cells, Result.andThen]
  exact h
end
theorem built_dev (v0 v1 : Value) (h0 : v0.cells = #[v0]) (h1 : v1.cells = #[v1]) : Try.prog.built 74 [(0, v0), (1, v1), (4, .int .i64 (-1))] = some #[v0, v1, .slice none 0 0, .int .i64 0, .int .i64 (-1), .bool false] := by
  obtain ⟨i, hi, hz0, _, _⟩ := info_parts (show (Try.prog.info? 74).map (fun i => (i.zero, i.size, i.bytes)) = some (some (.agg #[.slice none 0 0, .slice none 0 0, .slice none 0 0, .int .i64 0, .int .i64 0, .bool false]), 6, 96) from by kernel_rfl)
  unfold Program.built
  rw [hi, Try.underlying74]
  simp only [hz0]
  rw [show (List.mapM (fun (f : Field) => (Try.prog.info? f.type).map fun i => (f.offset, i.size)) _ : Option (List (Nat × Nat))) = some [(0, 1), (1, 1), (2, 1), (3, 1), (4, 1), (5, 1)] from by kernel_rfl]
  have ha : ∀ C, (Value.agg C).cells = C := fun _ => rfl
  simp [Instr.fill, h0, h1, ha, show (Value.int .i64 (-1)).cells = #[.int .i64 (-1)] from rfl]

theorem dnew_dv (w5 : World) (n : Nat) (hn : n ≤ 1024) (g1 g2 d : Nat) (hb1 : Blk w5 g1 34 (secsC (List.replicate n zSec))) (hb2 : Blk w5 g2 34 (secsC (List.replicate n zSec))) (hne : g1 ≠ g2)
    (hd : Blk w5 d 74 #[.slice (some ⟨g1, 0, none⟩) n n, .slice (some ⟨g2, 0, none⟩) n n, .slice none 0 0, .int .i64 0, .int .i64 (-1), .bool false]) : Dv w5 ⟨d, g1, g2, .slice none 0 0⟩ (newD n) := by
  have e : devC ⟨d, g1, g2, .slice none 0 0⟩ (newD n) = #[.slice (some ⟨g1, 0, none⟩) n n, .slice (some ⟨g2, 0, none⟩) n n, .slice none 0 0, .int .i64 0, .int .i64 (-1), .bool false] := by
    unfold devC newD; simp
  exact ⟨by rw [e]; exact hd, hb1, hb2, rfl, by show (List.replicate n zSec).length ≤ 1024; rw [List.length_replicate]; exact hn, hne, OwnRow.nil _ _ _ _ _, (fun x hx => by cases hx), by show 0 ≤ _; omega, by show -1 ≤ (-1 : Int) ∧ (-1 : Int) ≤ _; omega⟩

theorem size_alloc (w : World) (o : Obj) : (w.alloc o).heap.size = w.heap.size + 1 := by unfold World.alloc; simp
theorem yields_build3 {P : Program} {ops : Array Oper} {op : Oper} {a : Act} (hw : Region.wanted op (yielded ops a.tmps) = true) (t : TypeId) (i0 i1 i2 : Nat) (x0 x1 x2 : Operand) (ho : op.op = .build t #[(i0, x0), (i1, x1), (i2, x2)]) (v0 v1 v2 : Value) (h0 : a.eval x0 = v0) (h1 : a.eval x1 = v1) (h2 : a.eval x2 = v2) (C : Array Value)
    (hb : P.built t [(i0, v0), (i1, v1), (i2, v2)] = some C) : Yields P ops op (.agg C) a :=
  .inl ⟨hw, fun w => by
    have hr := run_build (P := P) w t (#[(i0, x0), (i1, x1), (i2, x2)].map fun (i, x) => (i, a.eval x)) C (by simp [h0, h1, h2, hb])
    unfold execOp
    simp only [ho, Sem.run_bind, hr, Result.andThen_ok]
    rfl⟩
theorem dnew_fin (w w5 : World) (hu : Up w w5) (n : Nat) (hn : n ≤ 1024) (g1 g2 : Nat) (hg : (g1 = w5.heap.size ∧ g2 = w5.heap.size + 1) ∨ (g1 = w5.heap.size + 1 ∧ g2 = w5.heap.size)) :
    Dv (((w5.alloc (.cells (secsC (List.replicate n zSec)) 34)).alloc (.cells (secsC (List.replicate n zSec)) 34)).alloc (.cells #[.slice (some ⟨g1, 0, none⟩) n n, .slice (some ⟨g2, 0, none⟩) n n, .slice none 0 0, .int .i64 0, .int .i64 (-1), .bool false] 74)) ⟨w5.heap.size + 2, g1, g2, .slice none 0 0⟩ (newD n) ∧
    Up w (((w5.alloc (.cells (secsC (List.replicate n zSec)) 34)).alloc (.cells (secsC (List.replicate n zSec)) 34)).alloc (.cells #[.slice (some ⟨g1, 0, none⟩) n n, .slice (some ⟨g2, 0, none⟩) n n, .slice none 0 0, .int .i64 0, .int .i64 (-1), .bool false] 74)) ∧
    ∀ b, Foot ⟨w5.heap.size + 2, g1, g2, .slice none 0 0⟩ b → w.heap.size ≤ b := by
  have ba := ((Blk.newAt w5 _ rfl 34 (secsC (List.replicate n zSec))).up (up_alloc _ (.cells (secsC (List.replicate n zSec)) 34))).up (up_alloc _ (.cells #[.slice (some ⟨g1, 0, none⟩) n n, .slice (some ⟨g2, 0, none⟩) n n, .slice none 0 0, .int .i64 0, .int .i64 (-1), .bool false] 74))
  have bb := (Blk.newAt (w5.alloc (.cells (secsC (List.replicate n zSec)) 34)) (w5.heap.size + 1) (by rw [size_alloc]) 34 (secsC (List.replicate n zSec))).up (up_alloc _ (.cells #[.slice (some ⟨g1, 0, none⟩) n n, .slice (some ⟨g2, 0, none⟩) n n, .slice none 0 0, .int .i64 0, .int .i64 (-1), .bool false] 74))
  have bd := Blk.newAt ((w5.alloc (.cells (secsC (List.replicate n zSec)) 34)).alloc (.cells (secsC (List.replicate n zSec)) 34)) (w5.heap.size + 2) (by rw [size_alloc, size_alloc]) 74 #[.slice (some ⟨g1, 0, none⟩) n n, .slice (some ⟨g2, 0, none⟩) n n, .slice none 0 0, .int .i64 0, .int .i64 (-1), .bool false]
  have hs := hu.size
  refine ⟨?_, ((hu.alloc _).alloc _).alloc _, ?_⟩
  · rcases hg with ⟨rfl, rfl⟩ | ⟨rfl, rfl⟩
    · exact dnew_dv _ n hn _ _ _ ba bb (by omega) bd
    · exact dnew_dv _ n hn _ _ _ bb ba (by omega) bd
  · rintro b (hb | hb | hb | hb)
    · simp only at hb; omega
    · simp only at hb; rcases hg with ⟨h1, h2⟩ | ⟨h1, h2⟩ <;> omega
    · simp only at hb; rcases hg with ⟨h1, h2⟩ | ⟨h1, h2⟩ <;> omega
    · cases hb

def clampN (i : Int) : Nat := if i < 0 then 0 else if i ≤ 1024 then i.toNat else 1024
theorem clampN_le (i : Int) : clampN i ≤ 1024 := by unfold clampN; split; omega; split <;> omega
set_option maxRecDepth 100000 in
set_option maxHeartbeats 8000000 in
theorem dnew_any (w : World) (i : Int) (hi : -9223372036854775808 ≤ i ∧ i ≤ 9223372036854775807) :
    Calls Try.prog 10 #[.int .i64 i] w fun e w' => ∃ h, e = .returned (.pointer (some ⟨h.d, 0, none⟩)) ∧ Dv w' h (newD (clampN i)) ∧ Up w w' ∧ ∀ b, Foot h b → w.heap.size ≤ b := by
  by_cases h0 : i < 0
  · have CL := Lib.hid (show clampN i = 0 by unfold clampN; rw [if_pos h0])
    go_enter Try.func10, Try.ntmps10
    go_wp2_with fail
    have upd : Up w w.drew := (Up.refl w).drew
    refine wp_region_any (by kernel_rfl) ?_
    change wpAny _ _ _ _ 7 _ _ w.drew
    generalize w.drew = w5 at *
    refine wpAny_take (i := 0) (v := .int .i64 ((0 : Nat) : Int)) rfl (by kernel_rfl) (by kernel_rfl) (by kernel_rfl) (fun _ _ _ h => h) (.inl ⟨rfl, fun _ => rfl⟩) ?_
    refine wpAny_take (i := 2) (v := .int .i64 ((0 : Nat) : Int)) rfl (by kernel_rfl) (by kernel_rfl) (by kernel_rfl) (fun _ _ _ h => h) (.inl ⟨rfl, fun _ => rfl⟩) ?_
    simp only [Act.put, List.getElem_toArray, List.getElem_cons_succ, List.getElem_cons_zero, List.setIfInBounds_toArray, List.set_cons_zero, List.set_cons_succ]
    refine wpAny_two 1 3 _ _ (by kernel_rfl) rfl rfl rfl rfl ?_ ?_
    · refine wp_makeRN 58 (.tmp 7) (.tmp 7) rfl 34 _ 128 128 Try.underlying58 info_secz 0 (by omega) (by omega) rfl rfl _ (made_secs 0) ?_
      refine wpAny_one 3 _ (by kernel_rfl) rfl rfl ?_
      refine wp_makeRN 58 (.tmp 9) (.tmp 9) rfl 34 _ 128 128 Try.underlying58 info_secz 0 (by omega) (by omega) rfl rfl _ (made_secs 0) ?_
      have F := Lib.hid (dnew_fin w w5 upd 0 (by omega) w5.heap.size (w5.heap.size + 1) (.inl ⟨rfl, rfl⟩))
      simp only [Act.put, List.getElem_toArray, List.getElem_cons_succ, List.getElem_cons_zero, List.setIfInBounds_toArray, List.set_cons_zero, List.set_cons_succ, size_alloc]
      refine wpAny_take (i := 4) (v := .agg #[.slice (some ⟨w5.heap.size, 0, none⟩) 0 0, .slice (some ⟨w5.heap.size + 1, 0, none⟩) 0 0, .slice none 0 0, .int .i64 0, .int .i64 (-1), .bool false]) rfl (by kernel_rfl) (by kernel_rfl) (by kernel_rfl) (fun _ _ _ h => h) (yields_build3 rfl 74 0 1 4 (.tmp 8) (.tmp 10) (.const (.int .i64 (-1))) rfl (.slice (some ⟨w5.heap.size, 0, none⟩) 0 0) (.slice (some ⟨w5.heap.size + 1, 0, none⟩) 0 0) (.int .i64 (-1)) rfl rfl rfl _ (built_dev _ _ rfl rfl)) ?_
      simp only [Act.put, List.getElem_toArray, List.getElem_cons_succ, List.getElem_cons_zero, List.setIfInBounds_toArray, List.set_cons_zero, List.set_cons_succ]
      refine wpAny_one 5 _ (by kernel_rfl) rfl rfl ?_
      refine wp_box 74 (.tmp 11) rfl _ rfl ?_
      simp only [Act.put, List.getElem_toArray, List.getElem_cons_succ, List.getElem_cons_zero, List.setIfInBounds_toArray, List.set_cons_zero, List.set_cons_succ, size_alloc]
      refine wpAny_take (i := 6) (v := .pointer (some ⟨w5.heap.size + 2, 0, none⟩)) rfl (by kernel_rfl) (by kernel_rfl) (by kernel_rfl) (fun _ _ _ h => h) (.inl ⟨rfl, fun _ => rfl⟩) ?_
      refine ⟨by kernel_rfl, ?_⟩
      simp only [Act.put, List.getElem_toArray, List.getElem_cons_succ, List.getElem_cons_zero, List.setIfInBounds_toArray, List.set_cons_zero, List.set_cons_succ]
      go_wp2_with fail
      go_ret
      exact ⟨_, rfl, by rw [CL.out]; exact F.out.1, F.out.2⟩
    · refine wp_makeRN 58 (.tmp 9) (.tmp 9) rfl 34 _ 128 128 Try.underlying58 info_secz 0 (by omega) (by omega) rfl rfl _ (made_secs 0) ?_
      refine wpAny_one 1 _ (by kernel_rfl) rfl rfl ?_
      refine wp_makeRN 58 (.tmp 7) (.tmp 7) rfl 34 _ 128 128 Try.underlying58 info_secz 0 (by omega) (by omega) rfl rfl _ (made_secs 0) ?_
      have F := Lib.hid (dnew_fin w w5 upd 0 (by omega) (w5.heap.size + 1) w5.heap.size (.inr ⟨rfl, rfl⟩))
      simp only [Act.put, List.getElem_toArray, List.getElem_cons_succ, List.getElem_cons_zero, List.setIfInBounds_toArray, List.set_cons_zero, List.set_cons_succ, size_alloc]
      refine wpAny_take (i := 4) (v := .agg #[.slice (some ⟨w5.heap.size + 1, 0, none⟩) 0 0, .slice (some ⟨w5.heap.size, 0, none⟩) 0 0, .slice none 0 0, .int .i64 0, .int .i64 (-1), .bool false]) rfl (by kernel_rfl) (by kernel_rfl) (by kernel_rfl) (fun _ _ _ h => h) (yields_build3 rfl 74 0 1 4 (.tmp 8) (.tmp 10) (.const (.int .i64 (-1))) rfl (.slice (some ⟨w5.heap.size + 1, 0, none⟩) 0 0) (.slice (some ⟨w5.heap.size, 0, none⟩) 0 0) (.int .i64 (-1)) rfl rfl rfl _ (built_dev _ _ rfl rfl)) ?_
      simp only [Act.put, List.getElem_toArray, List.getElem_cons_succ, List.getElem_cons_zero, List.setIfInBounds_toArray, List.set_cons_zero, List.set_cons_succ]
      refine wpAny_one 5 _ (by kernel_rfl) rfl rfl ?_
      refine wp_box 74 (.tmp 11) rfl _ rfl ?_
      simp only [Act.put, List.getElem_toArray, List.getElem_cons_succ, List.getElem_cons_zero, List.setIfInBounds_toArray, List.set_cons_zero, List.set_cons_succ, size_alloc]
      refine wpAny_take (i := 6) (v := .pointer (some ⟨w5.heap.size + 2, 0, none⟩)) rfl (by kernel_rfl) (by kernel_rfl) (by kernel_rfl) (fun _ _ _ h => h) (.inl ⟨rfl, fun _ => rfl⟩) ?_
      refine ⟨by kernel_rfl, ?_⟩
      simp only [Act.put, List.getElem_toArray, List.getElem_cons_succ, List.getElem_cons_zero, List.setIfInBounds_toArray, List.set_cons_zero, List.set_cons_succ]
      go_wp2_with fail
      go_ret
      exact ⟨_, rfl, by rw [CL.out]; exact F.out.1, F.out.2⟩
  · obtain ⟨m, rfl⟩ : ∃ m : Nat, i = m := ⟨i.toNat, by omega⟩
    by_cases h1 : m ≤ 1024
    · have CL := Lib.hid (show clampN m = m by unfold clampN; rw [if_neg h0, if_pos (by omega)]; simp)
      have h2 : (m : Int) ≤ 1024 := by omega
      go_enter Try.func10, Try.ntmps10
      go_wp2_with fail
      have upd : Up w w.drew := (Up.refl w).drew
      refine wp_region_any (by kernel_rfl) ?_
      change wpAny _ _ _ _ 7 _ _ w.drew
      generalize w.drew = w5 at *
      refine wpAny_take (i := 0) (v := .int .i64 ((m : Nat) : Int)) rfl (by kernel_rfl) (by kernel_rfl) (by kernel_rfl) (fun _ _ _ h => h) (.inl ⟨rfl, fun _ => rfl⟩) ?_
      refine wpAny_take (i := 2) (v := .int .i64 ((m : Nat) : Int)) rfl (by kernel_rfl) (by kernel_rfl) (by kernel_rfl) (fun _ _ _ h => h) (.inl ⟨rfl, fun _ => rfl⟩) ?_
      simp only [Act.put, List.getElem_toArray, List.getElem_cons_succ, List.getElem_cons_zero, List.setIfInBounds_toArray, List.set_cons_zero, List.set_cons_succ]
      refine wpAny_two 1 3 _ _ (by kernel_rfl) rfl rfl rfl rfl ?_ ?_
      · refine wp_makeRN 58 (.tmp 7) (.tmp 7) rfl 34 _ 128 128 Try.underlying58 info_secz m (by omega) (by omega) rfl rfl _ (made_secs m) ?_
        refine wpAny_one 3 _ (by kernel_rfl) rfl rfl ?_
        refine wp_makeRN 58 (.tmp 9) (.tmp 9) rfl 34 _ 128 128 Try.underlying58 info_secz m (by omega) (by omega) rfl rfl _ (made_secs m) ?_
        have F := Lib.hid (dnew_fin w w5 upd m (by omega) w5.heap.size (w5.heap.size + 1) (.inl ⟨rfl, rfl⟩))
        simp only [Act.put, List.getElem_toArray, List.getElem_cons_succ, List.getElem_cons_zero, List.setIfInBounds_toArray, List.set_cons_zero, List.set_cons_succ, size_alloc]
        refine wpAny_take (i := 4) (v := .agg #[.slice (some ⟨w5.heap.size, 0, none⟩) m m, .slice (some ⟨w5.heap.size + 1, 0, none⟩) m m, .slice none 0 0, .int .i64 0, .int .i64 (-1), .bool false]) rfl (by kernel_rfl) (by kernel_rfl) (by kernel_rfl) (fun _ _ _ h => h) (yields_build3 rfl 74 0 1 4 (.tmp 8) (.tmp 10) (.const (.int .i64 (-1))) rfl (.slice (some ⟨w5.heap.size, 0, none⟩) m m) (.slice (some ⟨w5.heap.size + 1, 0, none⟩) m m) (.int .i64 (-1)) rfl rfl rfl _ (built_dev _ _ rfl rfl)) ?_
        simp only [Act.put, List.getElem_toArray, List.getElem_cons_succ, List.getElem_cons_zero, List.setIfInBounds_toArray, List.set_cons_zero, List.set_cons_succ]
        refine wpAny_one 5 _ (by kernel_rfl) rfl rfl ?_
        refine wp_box 74 (.tmp 11) rfl _ rfl ?_
        simp only [Act.put, List.getElem_toArray, List.getElem_cons_succ, List.getElem_cons_zero, List.setIfInBounds_toArray, List.set_cons_zero, List.set_cons_succ, size_alloc]
        refine wpAny_take (i := 6) (v := .pointer (some ⟨w5.heap.size + 2, 0, none⟩)) rfl (by kernel_rfl) (by kernel_rfl) (by kernel_rfl) (fun _ _ _ h => h) (.inl ⟨rfl, fun _ => rfl⟩) ?_
        refine ⟨by kernel_rfl, ?_⟩
        simp only [Act.put, List.getElem_toArray, List.getElem_cons_succ, List.getElem_cons_zero, List.setIfInBounds_toArray, List.set_cons_zero, List.set_cons_succ]
        go_wp2_with fail
        go_ret
        exact ⟨_, rfl, by rw [CL.out]; exact F.out.1, F.out.2⟩
      · refine wp_makeRN 58 (.tmp 9) (.tmp 9) rfl 34 _ 128 128 Try.underlying58 info_secz m (by omega) (by omega) rfl rfl _ (made_secs m) ?_
        refine wpAny_one 1 _ (by kernel_rfl) rfl rfl ?_
        refine wp_makeRN 58 (.tmp 7) (.tmp 7) rfl 34 _ 128 128 Try.underlying58 info_secz m (by omega) (by omega) rfl rfl _ (made_secs m) ?_
        have F := Lib.hid (dnew_fin w w5 upd m (by omega) (w5.heap.size + 1) w5.heap.size (.inr ⟨rfl, rfl⟩))
        simp only [Act.put, List.getElem_toArray, List.getElem_cons_succ, List.getElem_cons_zero, List.setIfInBounds_toArray, List.set_cons_zero, List.set_cons_succ, size_alloc]
        refine wpAny_take (i := 4) (v := .agg #[.slice (some ⟨w5.heap.size + 1, 0, none⟩) m m, .slice (some ⟨w5.heap.size, 0, none⟩) m m, .slice none 0 0, .int .i64 0, .int .i64 (-1), .bool false]) rfl (by kernel_rfl) (by kernel_rfl) (by kernel_rfl) (fun _ _ _ h => h) (yields_build3 rfl 74 0 1 4 (.tmp 8) (.tmp 10) (.const (.int .i64 (-1))) rfl (.slice (some ⟨w5.heap.size + 1, 0, none⟩) m m) (.slice (some ⟨w5.heap.size, 0, none⟩) m m) (.int .i64 (-1)) rfl rfl rfl _ (built_dev _ _ rfl rfl)) ?_
        simp only [Act.put, List.getElem_toArray, List.getElem_cons_succ, List.getElem_cons_zero, List.setIfInBounds_toArray, List.set_cons_zero, List.set_cons_succ]
        refine wpAny_one 5 _ (by kernel_rfl) rfl rfl ?_
        refine wp_box 74 (.tmp 11) rfl _ rfl ?_
        simp only [Act.put, List.getElem_toArray, List.getElem_cons_succ, List.getElem_cons_zero, List.setIfInBounds_toArray, List.set_cons_zero, List.set_cons_succ, size_alloc]
        refine wpAny_take (i := 6) (v := .pointer (some ⟨w5.heap.size + 2, 0, none⟩)) rfl (by kernel_rfl) (by kernel_rfl) (by kernel_rfl) (fun _ _ _ h => h) (.inl ⟨rfl, fun _ => rfl⟩) ?_
        refine ⟨by kernel_rfl, ?_⟩
        simp only [Act.put, List.getElem_toArray, List.getElem_cons_succ, List.getElem_cons_zero, List.setIfInBounds_toArray, List.set_cons_zero, List.set_cons_succ]
        go_wp2_with fail
        go_ret
        exact ⟨_, rfl, by rw [CL.out]; exact F.out.1, F.out.2⟩
    · have CL := Lib.hid (show clampN m = 1024 by unfold clampN; rw [if_neg h0, if_neg (by omega)])
      have h2 : ¬ (m : Int) ≤ 1024 := by omega
      go_enter Try.func10, Try.ntmps10
      go_wp2_with fail
      have upd : Up w w.drew := (Up.refl w).drew
      refine wp_region_any (by kernel_rfl) ?_
      change wpAny _ _ _ _ 7 _ _ w.drew
      generalize w.drew = w5 at *
      refine wpAny_take (i := 0) (v := .int .i64 ((1024 : Nat) : Int)) rfl (by kernel_rfl) (by kernel_rfl) (by kernel_rfl) (fun _ _ _ h => h) (.inl ⟨rfl, fun _ => rfl⟩) ?_
      refine wpAny_take (i := 2) (v := .int .i64 ((1024 : Nat) : Int)) rfl (by kernel_rfl) (by kernel_rfl) (by kernel_rfl) (fun _ _ _ h => h) (.inl ⟨rfl, fun _ => rfl⟩) ?_
      simp only [Act.put, List.getElem_toArray, List.getElem_cons_succ, List.getElem_cons_zero, List.setIfInBounds_toArray, List.set_cons_zero, List.set_cons_succ]
      refine wpAny_two 1 3 _ _ (by kernel_rfl) rfl rfl rfl rfl ?_ ?_
      · refine wp_makeRN 58 (.tmp 7) (.tmp 7) rfl 34 _ 128 128 Try.underlying58 info_secz 1024 (by omega) (by omega) rfl rfl _ (made_secs 1024) ?_
        refine wpAny_one 3 _ (by kernel_rfl) rfl rfl ?_
        refine wp_makeRN 58 (.tmp 9) (.tmp 9) rfl 34 _ 128 128 Try.underlying58 info_secz 1024 (by omega) (by omega) rfl rfl _ (made_secs 1024) ?_
        have F := Lib.hid (dnew_fin w w5 upd 1024 (by omega) w5.heap.size (w5.heap.size + 1) (.inl ⟨rfl, rfl⟩))
        simp only [Act.put, List.getElem_toArray, List.getElem_cons_succ, List.getElem_cons_zero, List.setIfInBounds_toArray, List.set_cons_zero, List.set_cons_succ, size_alloc]
        refine wpAny_take (i := 4) (v := .agg #[.slice (some ⟨w5.heap.size, 0, none⟩) 1024 1024, .slice (some ⟨w5.heap.size + 1, 0, none⟩) 1024 1024, .slice none 0 0, .int .i64 0, .int .i64 (-1), .bool false]) rfl (by kernel_rfl) (by kernel_rfl) (by kernel_rfl) (fun _ _ _ h => h) (yields_build3 rfl 74 0 1 4 (.tmp 8) (.tmp 10) (.const (.int .i64 (-1))) rfl (.slice (some ⟨w5.heap.size, 0, none⟩) 1024 1024) (.slice (some ⟨w5.heap.size + 1, 0, none⟩) 1024 1024) (.int .i64 (-1)) rfl rfl rfl _ (built_dev _ _ rfl rfl)) ?_
        simp only [Act.put, List.getElem_toArray, List.getElem_cons_succ, List.getElem_cons_zero, List.setIfInBounds_toArray, List.set_cons_zero, List.set_cons_succ]
        refine wpAny_one 5 _ (by kernel_rfl) rfl rfl ?_
        refine wp_box 74 (.tmp 11) rfl _ rfl ?_
        simp only [Act.put, List.getElem_toArray, List.getElem_cons_succ, List.getElem_cons_zero, List.setIfInBounds_toArray, List.set_cons_zero, List.set_cons_succ, size_alloc]
        refine wpAny_take (i := 6) (v := .pointer (some ⟨w5.heap.size + 2, 0, none⟩)) rfl (by kernel_rfl) (by kernel_rfl) (by kernel_rfl) (fun _ _ _ h => h) (.inl ⟨rfl, fun _ => rfl⟩) ?_
        refine ⟨by kernel_rfl, ?_⟩
        simp only [Act.put, List.getElem_toArray, List.getElem_cons_succ, List.getElem_cons_zero, List.setIfInBounds_toArray, List.set_cons_zero, List.set_cons_succ]
        go_wp2_with fail
        go_ret
        exact ⟨_, rfl, by rw [CL.out]; exact F.out.1, F.out.2⟩
      · refine wp_makeRN 58 (.tmp 9) (.tmp 9) rfl 34 _ 128 128 Try.underlying58 info_secz 1024 (by omega) (by omega) rfl rfl _ (made_secs 1024) ?_
        refine wpAny_one 1 _ (by kernel_rfl) rfl rfl ?_
        refine wp_makeRN 58 (.tmp 7) (.tmp 7) rfl 34 _ 128 128 Try.underlying58 info_secz 1024 (by omega) (by omega) rfl rfl _ (made_secs 1024) ?_
        have F := Lib.hid (dnew_fin w w5 upd 1024 (by omega) (w5.heap.size + 1) w5.heap.size (.inr ⟨rfl, rfl⟩))
        simp only [Act.put, List.getElem_toArray, List.getElem_cons_succ, List.getElem_cons_zero, List.setIfInBounds_toArray, List.set_cons_zero, List.set_cons_succ, size_alloc]
        refine wpAny_take (i := 4) (v := .agg #[.slice (some ⟨w5.heap.size + 1, 0, none⟩) 1024 1024, .slice (some ⟨w5.heap.size, 0, none⟩) 1024 1024, .slice none 0 0, .int .i64 0, .int .i64 (-1), .bool false]) rfl (by kernel_rfl) (by kernel_rfl) (by kernel_rfl) (fun _ _ _ h => h) (yields_build3 rfl 74 0 1 4 (.tmp 8) (.tmp 10) (.const (.int .i64 (-1))) rfl (.slice (some ⟨w5.heap.size + 1, 0, none⟩) 1024 1024) (.slice (some ⟨w5.heap.size, 0, none⟩) 1024 1024) (.int .i64 (-1)) rfl rfl rfl _ (built_dev _ _ rfl rfl)) ?_
        simp only [Act.put, List.getElem_toArray, List.getElem_cons_succ, List.getElem_cons_zero, List.setIfInBounds_toArray, List.set_cons_zero, List.set_cons_succ]
        refine wpAny_one 5 _ (by kernel_rfl) rfl rfl ?_
        refine wp_box 74 (.tmp 11) rfl _ rfl ?_
        simp only [Act.put, List.getElem_toArray, List.getElem_cons_succ, List.getElem_cons_zero, List.setIfInBounds_toArray, List.set_cons_zero, List.set_cons_succ, size_alloc]
        refine wpAny_take (i := 6) (v := .pointer (some ⟨w5.heap.size + 2, 0, none⟩)) rfl (by kernel_rfl) (by kernel_rfl) (by kernel_rfl) (fun _ _ _ h => h) (.inl ⟨rfl, fun _ => rfl⟩) ?_
        refine ⟨by kernel_rfl, ?_⟩
        simp only [Act.put, List.getElem_toArray, List.getElem_cons_succ, List.getElem_cons_zero, List.setIfInBounds_toArray, List.set_cons_zero, List.set_cons_succ]
        go_wp2_with fail
        go_ret
        exact ⟨_, rfl, by rw [CL.out]; exact F.out.1, F.out.2⟩
end Go.Proofs.Ytgmdhedabmkcoaa
