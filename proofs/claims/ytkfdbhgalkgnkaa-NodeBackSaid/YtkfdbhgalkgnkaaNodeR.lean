/- The pointers of a sector: node.Read: the walk. -/
import Derived.Test.YtkfdbhgalkgnkaaNodeB
set_option linter.unusedSimpArgs false
namespace Go.Proofs.Ytkfdbhgalkgnkaa
open Go.RowKit

def nread (s : List UInt8) : List PtrD × Int := match readTo s 8 with
  | some l => (l, 0)
  | none => (zero8, 51)
def NRead (s : List UInt8) (w : World) (e : Ending) (w' : World) : Prop := e = .returned (.tuple #[.agg (nodeC (nread s).1), .int .i64 (nread s).2]) ∧ Up w w'
theorem nread_length (s : List UInt8) : (nread s).1.length = 8 := by
  unfold nread
  split
  · rename_i l h; exact readTo_length h
  · rfl
/-- Pointers so far, holes behind. -/
def nodeTo (l : List PtrD) : List PtrD := l ++ List.replicate (8 - l.length) hole
theorem nodeTo_length (l : List PtrD) (h : l.length ≤ 8) : (nodeTo l).length = 8 := by unfold nodeTo; simp; omega
theorem nodeTo_end (l : List PtrD) (h : l.length = 8) : nodeTo l = l := by unfold nodeTo; simp [h]
theorem nodeTo_step (l : List PtrD) (h : l.length < 8) (p : PtrD) : (nodeTo l).set l.length p = nodeTo (l ++ [p]) := by
  unfold nodeTo
  rw [List.set_append_right _ _ (Nat.le_refl _), Nat.sub_self]
  rw [show 8 - l.length = (8 - (l ++ [p]).length) + 1 by simp; omega, List.replicate_succ, List.set_cons_zero, List.append_assoc]
  rfl
theorem node_set (l : List PtrD) (k : Nat) (hk : k < l.length) (p : PtrD) : (((nodeC l).setIfInBounds (k * 3) (.int .i64 p.loc)).setIfInBounds (k * 3 + 1) (.int .u64 (p.birth : Int))).setIfInBounds (k * 3 + 2) (.int .u32 (p.sum : Int)) = nodeC (l.set k p) := by
  apply Array.toList_inj.1
  rw [Array.toList_setIfInBounds, Array.toList_setIfInBounds, Array.toList_setIfInBounds, nodeC_list, nodeC_list]
  apply List.ext_getElem?
  intro j
  obtain ⟨q, r, hr, hj⟩ : ∃ q r, r < 3 ∧ j = q * 3 + r := ⟨j / 3, j % 3, by omega, by omega⟩
  subst hj
  simp only [List.getElem?_set, pw.flat, List.length_set]
  by_cases hq : q < l.length
  · rw [pw.at (l.set k p) q (by simpa using hq) r hr, pw.at l q hq r hr]
    by_cases hqk : q = k
    · subst hqk
      have h3 : r = 0 ∨ r = 1 ∨ r = 2 := by omega
      rcases h3 with rfl | rfl | rfl
      all_goals simp [pcells]
      all_goals omega
    · rw [if_neg (by omega), if_neg (by omega), if_neg (by omega), List.getElem_set_ne (fun e => hqk e.symm)]
  · rw [if_neg (by omega), if_neg (by omega), if_neg (by omega)]
    rw [List.getElem?_eq_none (by rw [pw.flat]; omega), List.getElem?_eq_none (by rw [pw.flat, List.length_set]; omega)]
theorem Blk.setPtr {w : World} {g : Nat} {t : TypeId} {l : List PtrD} (h : Blk w g t (nodeC l)) (k : Nat) (hk : k < l.length) (p : PtrD) :
    Blk (((w.setCell ⟨g, k * 3, none⟩ (.int .i64 p.loc)).setCell ⟨g, k * 3 + 1, none⟩ (.int .u64 (p.birth : Int))).setCell ⟨g, k * 3 + 2, none⟩ (.int .u32 (p.sum : Int))) g t (nodeC (l.set k p)) := by
  rw [← node_set l k hk p]
  exact ((h.setCell _ _).setCell _ _).setCell _ _
theorem grownPtr {w : World} {g : Nat} {t : TypeId} {l : List PtrD} (h : Blk w g t (nodeC l)) (k : Nat) (p : PtrD) :
    w.grownBy (((w.setCell ⟨g, k * 3, none⟩ (.int .i64 p.loc)).setCell ⟨g, k * 3 + 1, none⟩ (.int .u64 (p.birth : Int))).setCell ⟨g, k * 3 + 2, none⟩ (.int .u32 (p.sum : Int))) (some g) := by
  have h1 := h.setCell (k * 3) (.int .i64 p.loc)
  have h2 := h1.setCell (k * 3 + 1) (.int .u64 (p.birth : Int))
  have g1 := grown_setCell h (k * 3) (.int .i64 p.loc)
  have g2 := grown_setCell h1 (k * 3 + 1) (.int .u64 (p.birth : Int))
  have g3 := grown_setCell h2 (k * 3 + 2) (.int .u32 (p.sum : Int))
  exact ⟨by rw [g3.os, g2.os, g1.os], by rw [g3.tape, g2.tape, g1.tape], by rw [g3.output, g2.output, g1.output], Nat.le_trans g1.size (Nat.le_trans g2.size g3.size), fun j hj hne => by
    rw [g3.block j (Nat.lt_of_lt_of_le hj (Nat.le_trans g1.size g2.size)) hne, g2.block j (Nat.lt_of_lt_of_le hj g1.size) hne, g1.block j hj hne]⟩
theorem sec_piece {w : World} {g : Nat} {t : TypeId} {s : List UInt8} (h : Blk w g t (secC s)) (hs : s.length = 128) (k : Nat) (hk : k < 8) : IsBytes w (.slice (some ⟨g, 16 * k, none⟩) 16 (128 - 16 * k)) (pieceB s k) := by
  have hl : (pieceB s k).length = 16 := by unfold pieceB; rw [List.length_take, List.length_drop]; omega
  refine .inr ⟨g, 16 * k, 128 - 16 * k, by rw [hl], by omega, by omega, by unfold maxLen; omega, fun i hi => ?_⟩
  rw [sec_cell h (16 * k + i) (by omega)]
  simp [pieceB]
theorem nread_none {s : List UInt8} {k : Nat} {l : List PtrD} (h : readTo s k = some l) (h2 : readB (pieceB s k) = none) (hk : k < 8) : nread s = (zero8, 51) := by
  unfold nread
  rw [readTo_none s (k + 1) (by rw [readTo_step h, h2]; rfl) 8 (by omega)]
theorem nread_some {s : List UInt8} {l : List PtrD} (h : readTo s 8 = some l) : nread s = (l, 0) := by unfold nread; rw [h]

set_option maxRecDepth 100000 in
set_option maxHeartbeats 4000000 in
theorem nread_any (w : World) (s : List UInt8) (hs : s.length = 128) : Calls Try.prog 16 #[.agg (secC s)] w fun e w' => NRead s w e w' := by
  have HS := Lib.hid hs
  clear hs
  go_enter Try.func16, Try.ntmps16
  have b0 := Blk.new w 23 (secC s)
  have b1 := Blk.new (w.alloc (.cells (secC s) 23)) 31 (nodeC zero8)
  have b2 := Blk.new ((w.alloc (.cells (secC s) 23)).alloc (.cells (nodeC zero8) 31)) 31 (nodeC zero8)
  have B0 := Lib.hid ((b0.up (up_alloc _ (.cells (nodeC zero8) 31))).up (up_alloc _ (.cells (nodeC zero8) 31)))
  have B1 := Lib.hid (b1.up (up_alloc _ (.cells (nodeC zero8) 31)))
  have B2 := Lib.hid b2
  have up3 := Lib.hid (((up_alloc w (.cells (secC s) 23)).trans (up_alloc _ (.cells (nodeC zero8) 31))).trans (up_alloc _ (.cells (nodeC zero8) 31)))
  clear b0 b1 b2
  go_wp2_with (refine wpList_alloc_blk rfl 31 rfl (nodeC zero8) zero_nodeV ?_)
  generalize hw3 : ((w.alloc (.cells (secC s) 23)).alloc (.cells (nodeC zero8) 31)).alloc (.cells (nodeC zero8) 31) = w3 at *
  simp only [World.size_alloc] at B1 B2
  clear hw3
  go_loopw [8] (fun i wr => ∃ (k : Nat) (l : List PtrD), k ≤ 8 ∧ i = .int .i64 k ∧ readTo s k = some l ∧ Blk wr w.heap.size 23 (secC s) ∧ Blk wr (w.heap.size + 1) 31 (nodeC zero8) ∧ Blk wr (w.heap.size + 1 + 1) 31 (nodeC (nodeTo l)) ∧ Up w wr) (fun i _ => 8 - (intOf i).toNat)
  case atStart => exact ⟨0, [], Nat.zero_le _, rfl, rfl, B0.out, B1.out, B2.out, up3.out⟩
  case round =>
    obtain ⟨k, l, hk, rfl, hrd, hs, hz, hb, upr⟩ := hrel
    have HRD := Lib.hid hrd
    have HSB := Lib.hid hs
    have HZ := Lib.hid hz
    have HB := Lib.hid hb
    have HLK := Lib.hid (readTo_length hrd)
    clear hs hz hb B0 B1 B2 up3 hrd
    by_cases hlt : k < 8
    · have b2 : ((k : Int) < 8) = True := by simp; omega
      have SL : ∀ W, (Instr.sliceAt 23 (.pointer (some ⟨w.heap.size, 0, none⟩)) (some (.int .i64 ((k : Int) * 16))) (some (.int .i64 (((k : Int) + 1) * 16))) none).run Try.prog W = .ok (.slice (some ⟨w.heap.size, 16 * k, none⟩) 16 (128 - 16 * k)) W := fun W => by
        have := slice_sec w.heap.size (16 * k) (16 * k + 16) ((k : Int) * 16) (((k : Int) + 1) * 16) (by omega) (by omega) (by omega) (by omega) (by omega) W
        rwa [show 16 * k + 16 - 16 * k = 16 by omega] at this
      have RD := Lib.hid (read_any wr _ _ (sec_piece HSB.out HS.out k hlt))
      unfold PRead at RD
      go_wp2_with fail
      refine RD.out.mono ?_
      rintro e w5 (⟨p, hp, rfl, up5⟩ | ⟨hp, rfl, up5⟩)
      case inr =>
        have HN := Lib.hid (nread_none HRD.out hp hlt)
        clear hp
        unfold ptrV hole
        have hz5 := (HZ.out.up up5).up (up_alloc w5 (.cells #[.int .i64 0, .int .u64 0, .int .u32 0] 30))
        have up6 := (upr.trans up5).trans (up_alloc w5 (.cells #[.int .i64 0, .int .u64 0, .int .u32 0] 30))
        simp only [Int.ofNat_zero, Int.natCast_zero]
        go_wp2_with (first
          | (refine wpList_build rfl 31 #[] rfl (by kernel_rfl) ?_
             rw [show (Try.prog.built 31 ((#[] : Array (Nat × Operand)).map _).toList).getD #[] = nodeC zero8 from by kernel_rfl])
          | (refine wpList_store_blk rfl 31 (.tmp 2) (.tmp 23) rfl (w.heap.size + 1) (nodeC zero8) rfl rfl 31 (nodeC zero8) hz5 info_node rfl (nodeC_one _) ?_))
        intro w6 hz6 hg6
        have up7 : Up w w6 := up6.below_trans (below_grown hg6 (Nat.le_of_lt hz5.lt) (fun j hj => by cases hj; exact Nat.le_refl _)) (Nat.le_succ _)
        go_wp2_with fail
        (try simp only [Exit.inBlock, Exit.then])
        refine bodyPost_ret (v := .tuple #[.agg (nodeC zero8), .int .i64 51]) (results_blk rfl _ _ _ (w.heap.size + 1) 31 _ _ rfl rfl hz6 _ Try.underlying31 rfl info_node) rfl ⟨by rw [HN.out], up7⟩
      case inl =>
        have HX := Lib.hid (show readTo s (k + 1) = some (l ++ [p]) by rw [readTo_step HRD.out, hp]; rfl)
        clear hp
        obtain ⟨pl, pb, ps⟩ := p
        unfold ptrV
        simp only
        have upa := (up_alloc w5 (.cells #[.int .i64 pl, .int .u64 (pb : Int), .int .u32 (ps : Int)] 30))
        have hb5 := (HB.out.up up5).up upa
        have hkl : k < (nodeTo l).length := by rw [nodeTo_length l (by rw [HLK.out]; omega)]; exact hlt
        have d0 := (node_cell hb5 k hkl).1
        have d1 := (node_cell hb5 k hkl).2.1
        have d2 := (node_cell hb5 k hkl).2.2
        have f0 := hb5.free (k * 3)
        have f1 := hb5.free (k * 3 + 1)
        have f2 := hb5.free (k * 3 + 2)
        have HB5 := Lib.hid hb5
        have HST := Lib.hid (show (nodeTo l).set k ⟨pl, pb, ps⟩ = nodeTo (l ++ [⟨pl, pb, ps⟩]) by
          have := nodeTo_step l (by rw [HLK.out]; exact hlt) ⟨pl, pb, ps⟩
          rwa [HLK.out] at this)
        have HKL := Lib.hid hkl
        have HSB5 := Lib.hid ((HSB.out.up up5).up upa)
        have HZ5 := Lib.hid ((HZ.out.up up5).up upa)
        have U5 := Lib.hid ((upr.trans up5).trans upa)
        clear upa hb5 SL
        generalize (nodeTo l)[k] = p0 at *
        clear hkl
        go_wp2_with fail
        go_roundw
        case rel =>
          have G := grownPtr HB5.out k ⟨pl, pb, ps⟩
          exact ⟨k + 1, l ++ [⟨pl, pb, ps⟩], by omega, by go_num, HX.out, HSB5.out.grown G (by simp; omega), HZ5.out.grown G (by simp), by rw [← HST.out]; exact HB5.out.setPtr k HKL.out ⟨pl, pb, ps⟩,
            U5.out.below_trans (below_grown G (Nat.le_of_lt HB5.out.lt) (fun j hj => by cases hj; exact Nat.le_refl _)) (by omega)⟩
        case measure => simp [intOf]; omega
    · obtain rfl : k = 8 := by omega
      have b2 : ((8 : Nat) : Int) = 8 := rfl
      have HN := Lib.hid (nread_some HRD.out)
      have hb := HB.out
      rw [nodeTo_end l HLK.out] at hb
      have HB8 := Lib.hid hb
      have bs : (nodeC l).size = 24 := by rw [nodeC_size, HLK.out]
      have SZ8 := Lib.hid (show (Try.prog.info? 31).map (·.size) = some (nodeC l).size by rw [bs]; exact info_node)
      have SS8 := Lib.hid (show (nodeC zero8).size = (nodeC l).size by rw [bs]; rfl)
      clear hb bs
      go_wp2_with (first
        | (refine wpList_load_blk rfl 31 (.tmp 4) rfl (w.heap.size + 1 + 1) rfl 31 _ HB8.out _ Try.underlying31 rfl SZ8.out ?_)
        | (refine wpList_store_blk rfl 31 (.tmp 2) (.tmp 28) rfl (w.heap.size + 1) (nodeC l) rfl rfl 31 (nodeC zero8) HZ.out SZ8.out SS8.out (nodeC_one _) ?_))
      intro w6 hz6 hg6
      have up6 : Up w w6 := upr.below_trans (below_grown hg6 (Nat.le_of_lt HZ.out.lt) (fun j hj => by cases hj; exact Nat.le_refl _)) (Nat.le_succ _)
      go_wp2_with fail
      (try simp only [Exit.inBlock, Exit.then])
      refine bodyPost_ret (v := .tuple #[.agg (nodeC l), .int .i64 0]) (results_blk rfl _ _ _ (w.heap.size + 1) 31 _ _ rfl rfl hz6 _ Try.underlying31 rfl SZ8.out) rfl ⟨by rw [HN.out], up6⟩
end Go.Proofs.Ytkfdbhgalkgnkaa
