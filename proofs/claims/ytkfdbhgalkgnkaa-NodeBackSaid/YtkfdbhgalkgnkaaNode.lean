/- Eight pointers in a sector: values, plain functions; the walks of Newest and Empty of both sides. -/
import Derived.Test.YtkfdbhgalkgnkaaSec
import Derived.Test.YtkfdbhgalkgnkaaPc
set_option linter.unusedSimpArgs false
namespace Go.Proofs.Ytkfdbhgalkgnkaa
open Go.RowKit

def nodeC (l : List PtrD) : Array Value := (l.flatMap pcells).toArray
def zero8 : List PtrD := List.replicate 8 hole
theorem nodeC_size (l : List PtrD) : (nodeC l).size = l.length * 3 := by simp [nodeC, pw.flat]
theorem nodeC_list (l : List PtrD) : (nodeC l).toList = l.flatMap pcells := by simp [nodeC]
theorem nodeC_one (l : List PtrD) : (nodeC l).all (·.oneCell') = true := all_oneCell_toArray (fun v hv => pw.ones l v hv)
theorem info_node : (Try.prog.info? 31).map (·.size) = some 24 := by kernel_rfl
theorem zero_node : nodeC zero8 = #[.int .i64 0, .int .u64 0, .int .u32 0, .int .i64 0, .int .u64 0, .int .u32 0, .int .i64 0, .int .u64 0, .int .u32 0, .int .i64 0, .int .u64 0, .int .u32 0, .int .i64 0, .int .u64 0, .int .u32 0, .int .i64 0, .int .u64 0, .int .u32 0, .int .i64 0, .int .u64 0, .int .u32 0, .int .i64 0, .int .u64 0, .int .u32 0] := rfl
theorem built_node : Try.prog.built 31 [] = some (nodeC zero8) := by kernel_rfl

theorem zero_nodeV : ∀ W : World, (zeroValue 31).run Try.prog W = .ok (.agg (nodeC zero8)) W :=
  (zero_of_info (P := Try.prog) (t := 31) (v := .agg (nodeC zero8)) (n := 24) (by kernel_rfl)).1
theorem node_part (l : List PtrD) (k : Nat) (h : k < l.length) : (nodeC l).extract (k * 3) (k * 3 + 3) = pcA l[k] := by
  rw [pcA_eq]
  apply Array.toList_inj.1
  rw [Array.toList_extract, nodeC_list]
  apply List.ext_getElem?
  intro j
  simp only [List.getElem?_take, List.getElem?_drop, List.extract]
  by_cases hj : j < 3
  · have h1 := pw.at l k h j hj
    rw [if_pos (by omega), h1]
  · rw [if_neg (by omega)]
    simp [pcells]
    omega
theorem index_node (l : List PtrD) (hl : l.length = 8) (k : Nat) (h : k < l.length) (W : World) : (Instr.index 31 (.agg (nodeC l)) (.int .i64 (k : Int))).run Try.prog W = .ok (.agg (pcA l[k])) W := by
  have h8 : (0 : Int) ≤ (k : Int) ∧ (k : Int) < ((8 : Nat) : Int) := by omega
  have hp := node_part l k h
  have hs : (sizeOf 30).run Try.prog W = .ok 3 W := by kernel_rfl
  have hg : (isAgg 30).run Try.prog W = .ok true W := by kernel_rfl
  simp [Instr.index, asIntOf, run_underlying (P := Try.prog) Try.underlying31, h8, hs, part, hg, hp]
  omega

set_option maxHeartbeats 1000000 in
theorem hole_any (w : World) (p : PtrD) : Calls Try.prog 22 #[ptrV p] w fun e w' => BoolUp (decide (p = hole)) w e w' := by
  obtain ⟨l, b, s⟩ := p
  have hole_iff : ∀ (l : Int) (b s : Nat), decide ((⟨l, b, s⟩ : PtrD) = hole) = true ↔ l = 0 ∧ b = 0 ∧ s = 0 := fun l b s => by simp [hole]
  have HI := Lib.hid hole_iff
  clear hole_iff
  unfold ptrV
  go_enter Try.func22, Try.ntmps22
  go_wp2_with fail
  all_goals
    go_ret
    refine ⟨?_, up_alloc _ _⟩
    refine retB ?_
    rw [HI.out]
    try simp only [decide_eq_true_eq, beq_iff_eq, bne_iff_ne, beq_eq_false_iff_ne, bne_eq_false_iff_eq, Bool.not_eq_true', Bool.and_eq_true, Bool.or_eq_true, Bool.and_eq_false_iff, decide_eq_false_iff_not] at *
    try simp only [Bool.false_eq_true, false_iff, true_iff]
    omega

def newestN (l : List PtrD) : Nat := l.foldl (fun m p => max m p.birth) 0
theorem newest_snoc (l : List PtrD) (k : Nat) (h : k < l.length) : newestN (l.take (k + 1)) = max (newestN (l.take k)) l[k].birth := by
  unfold newestN; rw [List.take_succ_eq_append_getElem h, List.foldl_append]; rfl

set_option maxHeartbeats 2000000 in
theorem newest_any (w : World) (l : List PtrD) (hl : l.length = 8) : Calls Try.prog 14 #[.agg (nodeC l)] w fun e w' => e = .returned (.int .u64 (newestN l)) ∧ Up w w' := by
  have IX := fun k h W => index_node l hl k h W
  have B1 := Lib.hid (Blk.new w 31 (nodeC l))
  have SZ := Lib.hid (show (Try.prog.info? 31).map (·.size) = some (nodeC l).size by rw [nodeC_size, hl]; exact info_node)
  have HL := Lib.hid hl
  have IXX := Lib.hid IX
  clear IX hl
  go_enter Try.func14, Try.ntmps14
  go_wp2_with (refine wpList_load_blk rfl 31 (.tmp 1) rfl w.heap.size rfl 31 (nodeC l) B1.out _ Try.underlying31 rfl SZ.out ?_)
  go_loopw [3, 7] (fun m i wr => ∃ k : Nat, k ≤ 8 ∧ i = .int .i64 k ∧ m = .int .u64 (newestN (l.take k)) ∧ Up w wr) (fun _ i _ => 8 - (intOf i).toNat)
  case atStart => exact ⟨0, Nat.zero_le _, rfl, rfl, up_alloc _ _⟩
  case round =>
    obtain ⟨k, hk, rfl, rfl, upr⟩ := hrel
    by_cases hlt : k < 8
    · have hkl : k < l.length := by rw [HL.out]; exact hlt
      have IX := IXX.out k hkl
      have SN := Lib.hid (newest_snoc l k hkl)
      have b2 : ((k : Int) < 8) = True := by simp; omega
      generalize l[k] = p at *
      generalize newestN (l.take k) = m at *
      obtain ⟨pl, pb, ps⟩ := p
      unfold pcA at IX
      simp only at IX SN
      go_wp2_with fail
      go_roundw
      case rel => exact ⟨k + 1, by omega, by go_num, by rw [SN.out]; split <;> (congr 1; omega), upr.trans (up_alloc _ _)⟩
      case measure => simp [intOf]; omega
    · obtain rfl : k = 8 := by omega
      have b2 : ((8 : Nat) : Int) = 8 := rfl
      have HT := Lib.hid (List.take_of_length_le (l := l) (i := 8) (by rw [HL.out]; exact Nat.le_refl _))
      go_wp2_with fail
      go_ret
      exact ⟨by rw [HT.out]; rfl, upr⟩

theorem node_cell {w : World} {g : Nat} {t : TypeId} {l : List PtrD} (h : Blk w g t (nodeC l)) (k : Nat) (hk : k < l.length) :
    w.cell? ⟨g, k * 3, none⟩ = some (.int .i64 l[k].loc) ∧ w.cell? ⟨g, k * 3 + 1, none⟩ = some (.int .u64 (l[k].birth : Int)) ∧ w.cell? ⟨g, k * 3 + 2, none⟩ = some (.int .u32 (l[k].sum : Int)) := by
  have key : ∀ j, j < 3 → w.cell? ⟨g, k * 3 + j, none⟩ = (pcells l[k])[j]? := fun j hj => by
    rw [h.cell]
    unfold nodeC
    rw [List.getElem?_toArray]
    exact pw.at l k hk j hj
  exact ⟨key 0 (by omega), key 1 (by omega), key 2 (by omega)⟩

set_option maxHeartbeats 2000000 in
theorem rnewest_any (w : World) (l : List PtrD) (hl : l.length = 8) : Calls Try.prog 15 #[.agg (nodeC l)] w fun e w' => e = .returned (.int .u64 (newestN l)) ∧ Up w w' := by
  have B1 := Lib.hid (Blk.new w 31 (nodeC l))
  have HL := Lib.hid hl
  clear hl
  go_enter Try.func15, Try.ntmps15
  go_wp2_with fail
  generalize hw1 : w.alloc (.cells (nodeC l) 31) = w1 at *
  have up1 : Up w w1 := by rw [← hw1]; exact up_alloc _ _
  clear hw1
  go_loop [3, 4] (fun m i => ∃ k : Nat, k ≤ 8 ∧ i = .int .i64 k ∧ m = .int .u64 (newestN (l.take k))) (fun _ i => 8 - (intOf i).toNat)
  case atStart => exact ⟨0, Nat.zero_le _, rfl, rfl⟩
  case round =>
    obtain ⟨k, hk, rfl, rfl⟩ := hrel
    by_cases hlt : k < 8
    · have hkl : k < l.length := by rw [HL.out]; exact hlt
      have SN := Lib.hid (newest_snoc l k hkl)
      have b2 : ((k : Int) < 8) = True := by simp; omega
      have hc0 := (node_cell B1.out k hkl).1
      have hc1 := (node_cell B1.out k hkl).2.1
      generalize l[k] = p at *
      generalize newestN (l.take k) = m at *
      obtain ⟨pl, pb, ps⟩ := p
      simp only at SN hc0 hc1
      by_cases hm : m < pb
      all_goals
        go_wp2_with fail
        go_round
        case rel => exact ⟨k + 1, by omega, by go_num, by rw [SN.out]; congr 1; omega⟩
        case measure => simp [intOf]; omega
    · obtain rfl : k = 8 := by omega
      have b2 : ((8 : Nat) : Int) = 8 := rfl
      have HT := Lib.hid (List.take_of_length_le (l := l) (i := 8) (by rw [HL.out]; exact Nat.le_refl _))
      go_wp2_with fail
      go_ret
      exact ⟨by rw [HT.out]; rfl, up1⟩

def emptyB (l : List PtrD) : Bool := decide (l = zero8)
theorem node_eq (l m : List PtrD) (hl : l.length = 8) (hm : m.length = 8) (W : World) : (Op.equalIn 10000 31 (.agg (nodeC l)) (.agg (nodeC m))).run Try.prog W = .ok (decide (l = m)) W := by
  have hi : ∃ i, Try.prog.info? 30 = some i := Option.isSome_iff_exists.1 (by kernel_rfl)
  obtain ⟨i, hi⟩ := hi
  have hc : Try.prog.cellsOf 30 = 3 := by kernel_rfl
  have pp : ∀ (l : List PtrD) j (h : j < l.length) W, (part 30 (nodeC l) (j * Try.prog.cellsOf 30)).run Try.prog W = .ok (ptrV l[j]) W := fun l j h W => by
    have hs : (sizeOf 30).run Try.prog W = .ok 3 W := by kernel_rfl
    have hg : (isAgg 30).run Try.prog W = .ok true W := by kernel_rfl
    have hp := node_part l j h
    rw [hc]
    simp [part, hg, hs, hp]
    rfl
  exact run_equalIn_items (P := Try.prog) 9999 Try.underlying31 hi (nodeC l) (nodeC m) l m hl hm ptrV (fun x y => decide (x = y)) (by simp) (pp l) (pp m) (fun x y W => ptr_eqD 9997 x y W) W _ (by simp)

set_option maxHeartbeats 2000000 in
theorem empty_any (w : World) (l : List PtrD) (hl : l.length = 8) : Calls Try.prog 11 #[.agg (nodeC l)] w fun e w' => BoolUp (emptyB l) w e w' := by
  have EQ := node_eq l zero8 hl rfl
  rw [show decide (l = zero8) = emptyB l from rfl] at EQ
  have B1 := Lib.hid (Blk.new w 31 (nodeC l))
  have SZ := Lib.hid (show (Try.prog.info? 31).map (·.size) = some (nodeC l).size by rw [nodeC_size, hl]; exact info_node)
  clear hl
  generalize emptyB l = b at *
  go_enter Try.func11, Try.ntmps11
  go_wp2_with (first
    | (refine wpList_load_blk rfl 31 (.tmp 1) rfl w.heap.size rfl 31 (nodeC l) B1.out _ Try.underlying31 rfl SZ.out ?_)
    | (refine wpList_build rfl 31 #[] rfl (by kernel_rfl) ?_
       rw [show (Try.prog.built 31 ((#[] : Array (Nat × Operand)).map _).toList).getD #[] = nodeC zero8 from by kernel_rfl]))
  go_ret
  exact ⟨rfl, up_alloc _ _⟩

theorem empty_step {l : List PtrD} (hl : l.length = 8) : emptyB l = true ↔ ∀ k (h : k < l.length), l[k] = hole := by
  unfold emptyB
  rw [decide_eq_true_eq]
  constructor
  · rintro rfl k h
    unfold zero8
    exact List.getElem_replicate _
  · intro h
    apply List.ext_getElem (by rw [hl]; rfl)
    intro i h1 h2
    rw [h i h1]
    unfold zero8
    exact (List.getElem_replicate _).symm
set_option maxHeartbeats 2000000 in
theorem rempty_any (w : World) (l : List PtrD) (hl : l.length = 8) : Calls Try.prog 13 #[.agg (nodeC l)] w fun e w' => BoolUp (emptyB l) w e w' := by
  have B1 := Lib.hid (Blk.new w 31 (nodeC l))
  have HL := Lib.hid hl
  have ES := Lib.hid (empty_step hl)
  clear hl
  go_enter Try.func13, Try.ntmps13
  go_wp2_with fail
  generalize hw1 : w.alloc (.cells (nodeC l) 31) = w1 at *
  have up1 : Up w w1 := by rw [← hw1]; exact up_alloc _ _
  clear hw1
  go_loopw [3] (fun i wr => ∃ k : Nat, k ≤ 8 ∧ i = .int .i64 k ∧ (∀ j (h : j < l.length), j < k → l[j] = hole) ∧ Up w1 wr) (fun i _ => 8 - (intOf i).toNat)
  case atStart => exact ⟨0, Nat.zero_le _, rfl, fun j h h0 => by omega, Up.refl _⟩
  case round =>
    obtain ⟨k, hk, rfl, hall, upr⟩ := hrel
    have HA := Lib.hid hall
    clear hall
    by_cases hlt : k < 8
    · have hkl : k < l.length := by rw [HL.out]; exact hlt
      have b2 : ((k : Int) < 8) = True := by simp; omega
      have hc0 := (node_cell (B1.out.up upr) k hkl).1
      have hc1 := (node_cell (B1.out.up upr) k hkl).2.1
      have hc2 := (node_cell (B1.out.up upr) k hkl).2.2
      have H := Lib.hid (fun W => hole_any W l[k])
      have HN := Lib.hid (show decide (l[k] = hole) = true → ∀ j (h : j < l.length), j < k + 1 → l[j] = hole from fun h j hj hjk => by
        by_cases e : j = k
        · subst e; simpa using h
        · exact HA.out j hj (by omega))
      have HF := Lib.hid (show decide (l[k] = hole) = false → emptyB l = false from fun h => by
        rw [← Bool.not_eq_true, ES.out]
        intro hh
        rw [hh k hkl] at h
        simp at h)
      generalize hdd : decide (l[k] = hole) = b at *
      clear hdd
      generalize l[k] = p at *
      obtain ⟨pl, pb, ps⟩ := p
      unfold ptrV at H
      simp only at H hc0 hc1 hc2
      cases b
      · go_wp2_with fail
        refine (H.out _).mono ?_
        rintro e w2 ⟨rfl, up2⟩
        go_wp2_with fail
        go_ret
        exact ⟨by rw [HF.out (by trivial)]; rfl, up1.trans (upr.trans up2)⟩
      · go_wp2_with fail
        refine (H.out _).mono ?_
        rintro e w2 ⟨rfl, up2⟩
        go_wp2_with fail
        go_roundw
        case rel => exact ⟨k + 1, by omega, by go_num, HN.out (by trivial), upr.trans up2⟩
        case measure => simp [intOf]; omega
    · obtain rfl : k = 8 := by omega
      have b2 : ((8 : Nat) : Int) = 8 := rfl
      have HT := Lib.hid (ES.out.2 (fun j h => HA.out j h (by rw [HL.out] at h; exact h)))
      go_wp2_with fail
      go_ret
      exact ⟨by rw [HT.out]; rfl, up1.trans upr⟩
end Go.Proofs.Ytkfdbhgalkgnkaa
