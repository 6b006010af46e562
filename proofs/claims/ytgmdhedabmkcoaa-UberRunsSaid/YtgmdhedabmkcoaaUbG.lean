/- List and Best: the walks. -/
import Derived.Test.YtgmdhedabmkcoaaUbS
import Derived.Test.YtgmdhedabmkcoaaDevR
set_option linter.unusedSimpArgs false
set_option linter.unusedVariables false
namespace Go.Proofs.Ytgmdhedabmkcoaa
open Go.RowKit Go.Sort

/-- Counted so many times. -/
def DevD.counts (v : DevD) : Nat → DevD
  | 0 => v
  | k + 1 => (v.counts k).counted
theorem counted_same (v : DevD) : v.counted.stable = v.stable ∧ v.counted.newest = v.newest ∧ v.counted.pend = v.pend ∧ v.counted.dead = v.dead ∧ v.counted.left = v.left := by unfold DevD.counted; exact ⟨rfl, rfl, rfl, rfl, rfl⟩
theorem counts_same (v : DevD) : ∀ k, (v.counts k).stable = v.stable ∧ (v.counts k).newest = v.newest ∧ (v.counts k).pend = v.pend ∧ (v.counts k).dead = v.dead ∧ (v.counts k).left = v.left
  | 0 => ⟨rfl, rfl, rfl, rfl, rfl⟩
  | k + 1 => by
    obtain ⟨h1, h2, h3, h4, h5⟩ := counts_same v k
    obtain ⟨g1, g2, g3, g4, g5⟩ := counted_same (v.counts k)
    exact ⟨g1.trans h1, g2.trans h2, g3.trans h3, g4.trans h4, g5.trans h5⟩
theorem counts_read (v : DevD) (k : Nat) (i : Int) : (v.counts k).readE i = v.readE i ∧ (v.counts k).readS i = v.readS i := by
  obtain ⟨h1, h2, h3, h4, h5⟩ := counts_same v k
  unfold DevD.readE DevD.readS DevD.nowAt DevD.hasB
  rw [h1, h2, h4]
  exact ⟨rfl, rfl⟩
/-- The uber of a place of the ring. -/
def DevD.atU (v : DevD) (i : Nat) : Option UbD := if v.readE (i : Int) = 0 then (uread (v.readS (i : Int)).val).bind fun u => if u.txg % 4 = i then some u else none else none
def DevD.rawU (v : DevD) : Nat → List UbD
  | 0 => []
  | k + 1 => v.rawU k ++ (v.atU k).toList
def DevD.ringU (v : DevD) : List UbD := sortU (v.rawU 4)
theorem atU_mod {v : DevD} {i : Nat} {u : UbD} (h : v.atU i = some u) : u.txg % 4 = i := by
  unfold DevD.atU at h
  split at h
  · cases hr : uread (v.readS (i : Int)).val with
    | none => rw [hr] at h; cases h
    | some x =>
      rw [hr] at h
      simp only [Option.bind_some] at h
      split at h
      · rename_i hh
        obtain rfl := Option.some.inj h
        exact hh
      · cases h
  · cases h
theorem rawU_mod {v : DevD} : ∀ k, ∀ u ∈ v.rawU k, u.txg % 4 < k
  | 0, u, h => by cases h
  | k + 1, u, h => by
    rw [DevD.rawU] at h
    rcases List.mem_append.1 h with h | h
    · exact Nat.lt_succ_of_lt (rawU_mod k u h)
    · have := atU_mod (Option.mem_toList.1 h)
      omega
theorem rawU_dist (v : DevD) : ∀ k, Dist (v.rawU k)
  | 0 => List.Pairwise.nil
  | k + 1 => by
    unfold Dist
    rw [DevD.rawU, List.pairwise_append]
    refine ⟨rawU_dist v k, ?_, fun a ha b hb => ?_⟩
    · cases v.atU k with
      | none => exact List.Pairwise.nil
      | some x => exact List.pairwise_singleton _ _
    · have h1 := rawU_mod k a ha
      have h2 := atU_mod (Option.mem_toList.1 hb)
      intro e
      rw [e] at h1
      omega
theorem rawU_length (v : DevD) : ∀ k, (v.rawU k).length ≤ k
  | 0 => Nat.le_refl _
  | k + 1 => by
    have := rawU_length v k
    rw [DevD.rawU, List.length_append]
    have h2 : (v.atU k).toList.length ≤ 1 := by cases v.atU k <;> simp
    omega
theorem IsRow.touch {α : Type} {f : α → List Value} {w w' : World} {v : Value} {l : List α} {F : Nat → Prop} (h : IsRow f w v l) (T : Touch F w w') (hF : ∀ b, v.ownBlock = some b → ¬ F b) : IsRow f w' v l := by
  rcases h with h | ⟨b, off, cap, h1, h2, h3, h4, h5⟩
  · exact .inl h
  · exact .inr ⟨b, off, cap, h1, h2, h3, h4, fun j u hj => cell_touch (h5 j u hj) T (hF b (by rw [h1]; rfl))⟩
theorem readE_cases (v : DevD) (i : Int) : v.readE i = 0 ∨ v.readE i = 42 ∨ v.readE i = 41 := by unfold DevD.readE; split <;> (try split) <;> simp

theorem info_ub3 : (Try.prog.info? 27).map (fun i => (i.zero, i.size, i.bytes)) = some (some (.agg (uC zUb)), 7, 56) := by kernel_rfl
/-- What List answers. -/
def ListPost (v : DevD) (h : Hnd) (w : World) (e : Ending) (w' : World) : Prop :=
  ∃ a n c, e = .returned (.slice a n c) ∧ IsRow ucells w' (.slice a n c) v.ringU ∧ (∀ b, Value.ownBlock (.slice a n c) = some b → w.heap.size ≤ b) ∧ Dv w' h (v.counts 4) ∧ Touch (Foot h) w w'

set_option maxRecDepth 100000 in
set_option maxHeartbeats 8000000 in
theorem list_any (w : World) (h : Hnd) (v : DevD) (D : Dv w h v) : Calls Try.prog 23 #[.pointer (some ⟨h.d, 0, none⟩)] w fun e w' => ListPost v h w e w' := by
  have DH := Lib.hid D
  have FLT := Lib.hid D.foot_lt
  have O0 := Lib.hid (OwnRow.nil ucells 7 27 w w.heap.size)
  clear D
  go_enter Try.func23, Try.ntmps23
  go_wp2_with fail
  go_loopw [3, 9] (fun lv i wr => ∃ k : Nat, k ≤ 4 ∧ i = .int .i64 k ∧ OwnRow ucells 7 27 wr w.heap.size lv (v.rawU k) ∧ Dv wr h (v.counts k) ∧ Touch (Foot h) w wr) (fun _ i _ => 4 - (intOf i).toNat)
  case atStart => exact ⟨0, Nat.zero_le _, rfl, O0.out, DH.out, Touch.refl _ _⟩
  case round =>
    obtain ⟨k, hk, rfl, ow, dv, tc⟩ := hrel
    have OW := Lib.hid ow
    have DK := Lib.hid dv
    have TC := Lib.hid tc
    clear ow dv tc O0 DH
    by_cases hlt : k < 4
    · have b2 : ((k : Int) < 4) = True := by simp; omega
      have RD := dread_any wr h _ DK.out (k : Int) (by omega)
      rw [(counts_read v k (k : Int)).1, (counts_read v k (k : Int)).2] at RD
      have RDH := Lib.hid RD
      have RS := Lib.hid (show v.rawU (k + 1) = v.rawU k ++ (v.atU k).toList from rfl)
      have AT := Lib.hid (show v.atU k = if v.readE (k : Int) = 0 then (uread (v.readS (k : Int)).val).bind fun u => if u.txg % 4 = k then some u else none else none from rfl)
      have RL := Lib.hid (rawU_length v k)
      have EC := readE_cases v (k : Int)
      generalize v.readS (k : Int) = sv at *
      generalize v.readE (k : Int) = se at *
      clear RD
      go_wp2_with fail
      refine RDH.out.mono ?_
      rintro e w2 ⟨rfl, D2, T2⟩
      have UX := up_alloc w2 (.cells (secC sv.val) 34)
      have HIV := Lib.hid (info_secU sv)
      have HO1 := Lib.hid (secC_one sv.val)
      have HZV := Lib.hid (show (secC zeroS).size = (secC sv.val).size by rw [secC_size, secC_size, sv.property]; rfl)
      have BV := Lib.hid (Blk.new w2 34 (secC sv.val))
      have TC2 := Lib.hid ((TC.out.trans T2 (fun n hn _ => hn)).trans (Touch.of_up (F := fun _ => False) UX) (fun n hn _ => hn.elim))
      have D3 := Lib.hid (show Dv _ h (v.counts (k + 1)) from D2.up UX)
      have OW3 := Lib.hid (OwnRow.up (OwnRow.touch OW.out T2 (fun b hb hf => by
        have h1 := (OwnRow.block_lt OW.out b hb).1
        have h2 := FLT.out b hf
        omega)) UX)
      have UR := Lib.hid (fun W => uread_any W sv.val sv.property)
      clear D2 T2 UX RDH TC DK
      rcases EC with rfl | he
      rotate_left
      · have RS1 := Lib.hid (show v.rawU (k + 1) = v.rawU k by rw [RS.out, AT.out, if_neg (by omega)]; simp)
        have OW4 := OW3.out
        rw [← RS1.out] at OW4
        have OW4 := Lib.hid OW4
        have hb : ∃ z : Int, z = se ∧ z ≠ 0 := ⟨se, rfl, by omega⟩
        rcases he with rfl | rfl
        all_goals
          go_wp2_with (first
            | ((with_reducible refine wg_alloc 34 ?_); refine wpList_alloc_blk rfl 34 rfl (secC zeroS) zero_sec ?_)
            | ((with_reducible refine wg_store 34 (.tmp 5) (.tmp 16) ?_); refine ws_new w2 rfl 34 (.tmp 5) (.tmp 16) rfl (secC sv.val) 34 (secC zeroS) rfl rfl rfl HIV.out HZV.out HO1.out ?_))
          refine ⟨⟨k + 1, by omega, by simp, OW4.out, D3.out, TC2.out⟩, ?_⟩
          simp only [intOf]
          omega
      · have AT1 := Lib.hid (show v.atU k = (uread sv.val).bind fun u => if u.txg % 4 = k then some u else none by rw [AT.out, if_pos rfl])
        go_wp2_with (first
          | ((with_reducible refine wg_alloc 34 ?_); refine wpList_alloc_blk rfl 34 rfl (secC zeroS) zero_sec ?_)
          | ((with_reducible refine wg_store 34 (.tmp 5) (.tmp 16) ?_); refine ws_new w2 rfl 34 (.tmp 5) (.tmp 16) rfl (secC sv.val) 34 (secC zeroS) rfl rfl rfl HIV.out HZV.out HO1.out ?_)
          | ((with_reducible refine wg_load 34 (.tmp 5) ?_); refine wpList_load_blkG rfl 34 (.tmp 5) rfl w2.heap.size rfl 34 _ BV.out _ Try.underlying34 rfl HIV.out ?_))
        refine (UR.out _).mono ?_
        rintro e w4 hur
        unfold URead at hur
        obtain ⟨rfl, U4⟩ := hur
        cases hs : uread sv.val with
        | none =>
          have RS1 := Lib.hid (show v.rawU (k + 1) = v.rawU k by rw [RS.out, AT1.out, hs]; simp)
          have UX := U4.trans (up_alloc w4 (.cells (uC zUb) 27))
          have OW4 := OwnRow.up OW3.out UX
          rw [← RS1.out] at OW4
          have OW4 := Lib.hid OW4
          have D4 := Lib.hid (D3.out.up UX)
          have TC4 := Lib.hid (TC2.out.trans (Touch.of_up (F := fun _ => False) UX) (fun n hn _ => hn.elim))
          have SC := run_storeCells_new (P := Try.prog) w4 27 (uC zUb) (uC zUb) (info_uV zUb) rfl (uC_one zUb)
          clear hs UX U4 UR
          simp only [Option.getD_none, Option.isSome_none]
          go_wp2_with (first
            | ((with_reducible refine wg_alloc 27 ?_); refine wpList_alloc_blk rfl 27 rfl (uC zUb) zero_ub ?_)
            | ((with_reducible refine wg_store 27 (.tmp 7) (.tmp 23) ?_); refine ws_new w4 rfl 27 (.tmp 7) (.tmp 23) rfl (uC zUb) 27 (uC zUb) rfl rfl rfl (info_uV zUb) rfl (uC_one zUb) ?_))
          refine ⟨⟨k + 1, by omega, by simp, OW4.out, D4.out, TC4.out⟩, ?_⟩
          simp only [intOf]
          omega
        | some u =>
          have UX := U4.trans (up_alloc w4 (.cells (uC u) 27))
          have HIU := Lib.hid (info_uV u)
          have HU1 := Lib.hid (uC_one u)
          have HZU := Lib.hid (show (uC zUb).size = (uC u).size from rfl)
          have BU := Lib.hid (Blk.new w4 27 (uC u))
          have OW4 := Lib.hid (OwnRow.up OW3.out UX)
          have D4 := Lib.hid (D3.out.up UX)
          have TC4 := Lib.hid (TC2.out.trans (Touch.of_up (F := fun _ => False) UX) (fun n hn _ => hn.elim))
          have SLT := Lib.hid (slot_any (w4.alloc (.cells (uC u) 27)) u)
          have AT2 := Lib.hid (show v.atU k = if u.txg % 4 = k then some u else none by rw [AT1.out, hs]; rfl)
          have HT4 := Lib.hid (show u.txg % 4 < 4 by omega)
          clear hs UX U4 UR OW3 D3 TC2
          simp only [Option.getD_some, Option.isSome_some]
          generalize u.txg % 4 = tx at *
          go_wp2_with (first
            | ((with_reducible refine wg_alloc 27 ?_); refine wpList_alloc_blk rfl 27 rfl (uC zUb) zero_ub ?_)
            | ((with_reducible refine wg_store 27 (.tmp 7) (.tmp 23) ?_); refine ws_new w4 rfl 27 (.tmp 7) (.tmp 23) rfl (uC u) 27 (uC zUb) rfl rfl rfl HIU.out HZU.out HU1.out ?_)
            | ((with_reducible refine wg_load 27 (.tmp 7) ?_); refine wpList_load_blkG rfl 27 (.tmp 7) rfl w4.heap.size rfl 27 _ BU.out _ Try.underlying27 rfl HIU.out ?_))
          refine SLT.out.mono ?_
          rintro e w6 ⟨rfl, U6⟩
          have BU6 := Lib.hid (BU.out.up U6)
          have OW6 := Lib.hid (OwnRow.up OW4.out U6)
          have D6 := Lib.hid (D4.out.up U6)
          have TC6 := Lib.hid (TC4.out.trans (Touch.of_up (F := fun _ => False) U6) (fun n hn _ => hn.elim))
          clear SLT OW4 D4 TC4 U6 BU
          by_cases htx : tx = k
          rotate_left
          · have RS1 := Lib.hid (show v.rawU (k + 1) = v.rawU k by rw [RS.out, AT2.out, if_neg htx]; simp)
            have ow := OW6.out
            rw [← RS1.out] at ow
            have OW7 := Lib.hid ow
            have bt : ((tx : Int) == (k : Int)) = false := by simp; omega
            clear ow htx
            go_wp2_with fail
            refine ⟨⟨k + 1, by omega, by simp, OW7.out, D6.out, TC6.out⟩, ?_⟩
            simp only [intOf]
            omega
          · have RS1 := Lib.hid (show v.rawU (k + 1) = v.rawU k ++ [u] by rw [RS.out, AT2.out, if_pos htx]; rfl)
            have bt : ((tx : Int) == (k : Int)) = true := by simp; omega
            have UY := up_alloc w6 (.cells (uC u) 27)
            have RW := Lib.hid (show IsRow ucells (w6.alloc (.cells (uC u) 27)) (.slice (some ⟨w6.heap.size, 0, none⟩) 1 1) [u] from IsRow.litAt _ _ rfl (uC u) 27 (0, 0) [u] 1 rfl (by unfold maxLen; omega) (by simp [ucells]))
            have OW7 := Lib.hid (OwnRow.up OW6.out UY)
            have D7 := Lib.hid (D6.out.up UY)
            have TC7 := Lib.hid (TC6.out.trans (Touch.of_up (F := fun _ => False) UY) (fun n hn _ => hn.elim))
            have hb1 := Lib.hid (show ((v.rawU k).length + [u].length) * 56 ≤ 140737488355328 by have := RL.out; simp; omega)
            have hb2 := Lib.hid (show (v.rawU k).length + [u].length ≤ 9223372036854775807 by have := RL.out; simp; omega)
            have hb3 := Lib.hid TC7.out.size
            have II := Lib.hid info_ub3
            clear UY htx OW6 D6 TC6
            go_wp2_with (first
              | ((with_reducible refine wg_load 27 (.tmp 7) ?_); refine wpList_load_blkG rfl 27 (.tmp 7) rfl w4.heap.size rfl 27 _ BU6.out _ Try.underlying27 rfl HIU.out ?_)
              | ((with_reducible refine wg_slice 55 1 _ ?_); refine wpList_buildSlice1 rfl 55 27 (.tmp 33) rfl _ 7 56 (uC u) rfl Try.underlying55 II.out (by omega) (by omega) rfl ?_)
              | (at_builtin; refine wpList_append_row uw rfl (.tmp 32) (.tmp 34) 55 rfl w.heap.size 27 _ 56 Try.underlying55 II.out rfl _ (v.rawU k) rfl OW7.out _ [u] rfl RW.out hb1.out hb2.out hb3.out ?_))
            intro v8 w8 hown8 hg8 hbl8
            rw [← RS1.out] at hown8
            have OW8 := Lib.hid hown8
            have GT := Touch.of_grown (F := fun b => w.heap.size ≤ b) hg8 (fun b hb => (OwnRow.block_lt OW7.out b hb).1)
            have D8 := Lib.hid (D7.out.touch GT (fun b hb hle => by have := FLT.out b hb; omega))
            have TC8 := Lib.hid (TC7.out.trans GT (fun n hn hl => by omega))
            clear hown8 hg8 hbl8 GT
            go_wp2_with fail
            refine ⟨⟨k + 1, by omega, by simp, OW8.out, D8.out, TC8.out⟩, ?_⟩
            simp only [intOf]
            omega
    · obtain rfl : k = 4 := by omega
      have b2 : ((4 : Nat) : Int) = 4 := rfl
      obtain ⟨sa, sc, hsv⟩ := (OwnRow.row OW.out uw).slice
      subst hsv
      have SO := Lib.hid (sort_own wr w.heap.size _ (v.rawU 4) OW.out (by have := rawU_length v 4; omega))
      generalize (v.rawU 4).length = rn at *
      go_wp2_with fail
      refine SO.out.mono ?_
      rintro e w6 ⟨rfl, l', hp, hs, hr, T6⟩
      have hl : l' = v.ringU := sortU_uniq (rawU_dist v 4) hp hs
      subst hl
      have HR := Lib.hid hr
      have T6 := Lib.hid T6
      clear hp hs hr SO
      go_wp2_with fail
      go_ret
      refine ⟨sa, rn, sc, rfl, HR.out, fun b hb => (OwnRow.block_lt OW.out b hb).1, DK.out.touch T6.out (fun b hb hf => ?_), TC.out.trans T6.out (fun n hn hlt => ?_)⟩
      · have h1 := (OwnRow.block_lt OW.out b hf).1
        have h2 := FLT.out b hb
        omega
      · have h1 := (OwnRow.block_lt OW.out n hn).1
        omega

end Go.Proofs.Ytgmdhedabmkcoaa
