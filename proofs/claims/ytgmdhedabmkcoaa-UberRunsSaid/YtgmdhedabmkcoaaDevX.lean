/- A device's Write: the walk. -/
import Derived.Test.YtgmdhedabmkcoaaDevW
set_option linter.unusedSimpArgs false
set_option linter.unusedVariables false
namespace Go.Proofs.Ytgmdhedabmkcoaa
open Go.RowKit

def DevD.put (v : DevD) (n : Nat) (s : Sec) : DevD := { v with pend := v.pend ++ [⟨n, s⟩], newest := v.newest.set n s }
def DevD.written (v : DevD) (i : Int) (s : Sec) : DevD := if v.hasB i = true then (if v.powerB = true then v.counted.spent.put i.toNat s else v.counted.spent) else v.counted
def DevD.writeE (v : DevD) (i : Int) : Int := if v.hasB i = true then (if v.powerB = true then 0 else 42) else 41

theorem spent_same (v : DevD) : v.spent.pend = v.pend ∧ v.spent.stable = v.stable ∧ v.spent.newest = v.newest := by unfold DevD.spent; split <;> exact ⟨rfl, rfl, rfl⟩
theorem Dv.push {w4 w6 : World} {h : Hnd} {v : DevD} {ob : Obj} (D : Dv w4 h v) (x : WrD) (hx : x.loc < v.stable.length) (v' : Value) (hown : OwnRow wcells 129 101 w6 0 v' (v.pend ++ [x])) (hg : (w4.alloc ob).grownBy w6 h.vp.ownBlock) :
    Dv (w6.setCell ⟨h.d, 2, none⟩ v') { h with vp := v' } { v with pend := v.pend ++ [x] } := by
  have D5 := D.up (up_alloc w4 ob)
  have hdev := D5.dev.grown hg (own_ne (by decide) D5.dev D5.pend)
  have hb1 := D5.b1.grown hg (own_ne (by decide) D5.b1 D5.pend)
  have hb2 := D5.b2.grown hg (own_ne (by decide) D5.b2 D5.pend)
  have G := grown_setCell hdev 2 v'
  refine ⟨hdev.setCell 2 v', hb1.grown G (fun e => D.dev_ne1 (Option.some.inj e)), hb2.grown G (fun e => D.dev_ne2 (Option.some.inj e)), D.len, D.max, D.ne, hown.kept G (.inr (own_ne (by decide) hdev hown)), fun y hy => ?_, D.ops, D.left⟩
  rcases List.mem_append.1 hy with hy | hy
  · exact D.locs y hy
  · simp at hy; subst hy; exact hx
theorem Dv.setNew {w w' : World} {h : Hnd} {v : DevD} (D : Dv w h v) (n : Nat) (s : Sec) (hb : Blk w' h.g2 34 (secsC (v.newest.set n s))) (hg : w.grownBy w' (some h.g2)) : Dv w' h { v with newest := v.newest.set n s } :=
  ⟨D.dev.grown hg (fun e => D.dev_ne2 (Option.some.inj e).symm), D.b1.grown hg (fun e => D.ne (Option.some.inj e).symm), hb, by show (v.newest.set n s).length = _; rw [List.length_set]; exact D.len, D.max, D.ne, D.pend.kept hg (.inr (own_ne (by decide) D.b2 D.pend)), D.locs, D.ops, D.left⟩

set_option maxRecDepth 100000 in
set_option maxHeartbeats 8000000 in
theorem dwrite_any (w : World) (h : Hnd) (v : DevD) (D : Dv w h v) (i : Int) (hi : -9223372036854775808 ≤ i ∧ i ≤ 9223372036854775807) (s : Sec) (hr : v.pend.length ≤ 1000000) :
    Calls Try.prog 22 #[.pointer (some ⟨h.d, 0, none⟩), .int .i64 i, .agg (secC s.val)] w fun e w' => e = .returned (.int .i64 (v.writeE i)) ∧ Turned w h (v.written i s) w' := by
  have upa := up_alloc w (.cells (secC s.val) 34)
  have HB1 := Lib.hid (Blk.new w 34 (secC s.val))
  have HD1 := Lib.hid (D.up upa)
  have CT := Lib.hid (fun W (DD : Dv W h v) => count_any W h v DD)
  have SPD := Lib.hid (fun W (DD : Dv W h v.counted) => spend_any W h v.counted DD)
  have HS := Lib.hid (fun W (DD : Dv W h v.counted) => has_any W h v.counted DD i hi)
  have HH : v.counted.hasB i = v.hasB i := rfl
  rw [HH] at HS
  have HP : v.counted.powerB = v.powerB := rfl
  rw [HP] at SPD
  have HL := Lib.hid (Touch.of_up (F := Foot h) upa)
  have HF := Lib.hid (show ¬ Foot h w.heap.size from fun hf => Nat.lt_irrefl _ (D.foot_lt _ hf))
  have HFB := Lib.hid (hasB_iff v i)
  clear D HH HP hi
  cases hb : v.hasB i
  case false =>
    rw [hb] at HS
    have E := Lib.hid (show v.written i s = v.counted ∧ v.writeE i = 41 by unfold DevD.written DevD.writeE; rw [hb]; simp)
    clear hb
    go_enter Try.func22, Try.ntmps22
    go_wp2_with fail
    refine (CT.out _ HD1.out).mono ?_
    rintro e w2 ⟨rfl, D2, T2⟩
    have HD2 := Lib.hid D2
    have HT2 := Lib.hid T2
    clear D2 T2 upa
    go_wp2_with fail
    refine (HS.out _ HD2.out).mono ?_
    rintro e w3 ⟨rfl, rfl⟩
    go_wp2_with fail
    go_ret
    exact ⟨by rw [E.out.2]; rfl, by rw [E.out.1]; exact Turned.same HD2.out (HL.out.trans HT2.out (fun n hn _ => hn))⟩
  rw [hb] at HS
  have hio := HFB.out.1 hb
  obtain ⟨n, rfl⟩ : ∃ n : Nat, i = n := ⟨i.toNat, by omega⟩
  have hnl : n < v.stable.length := by omega
  cases hpw : v.powerB
  case false =>
    rw [hpw] at SPD
    have E := Lib.hid (show v.written n s = v.counted.spent ∧ v.writeE n = 42 by unfold DevD.written DevD.writeE; rw [hb, hpw]; simp)
    clear hb hpw hio
    go_enter Try.func22, Try.ntmps22
    go_wp2_with fail
    refine (CT.out _ HD1.out).mono ?_
    rintro e w2 ⟨rfl, D2, T2⟩
    have HD2 := Lib.hid D2
    have HT2 := Lib.hid T2
    clear D2 T2 upa
    go_wp2_with fail
    refine (HS.out _ HD2.out).mono ?_
    rintro e w3 ⟨rfl, rfl⟩
    go_wp2_with fail
    refine (SPD.out _ HD2.out).mono ?_
    rintro e w4 ⟨rfl, D4, T4⟩
    have HD4 := Lib.hid D4
    have HT4 := Lib.hid ((HL.out.trans HT2.out (fun n hn _ => hn)).trans T4 (fun n hn _ => hn))
    clear D4 T4
    go_wp2_with fail
    go_ret
    exact ⟨by rw [E.out.2]; rfl, by rw [E.out.1]; exact Turned.same HD4.out HT4.out⟩
  rw [hpw] at SPD
  have HPE := Lib.hid (show v.counted.spent.pend = v.pend ∧ v.counted.spent.stable = v.stable ∧ v.counted.spent.newest = v.newest from spent_same v.counted)
  have E := Lib.hid (show v.written n s = v.counted.spent.put n s ∧ v.writeE n = 0 by unfold DevD.written DevD.writeE; rw [hb, hpw]; simp)
  clear hb hpw hio
  go_enter Try.func22, Try.ntmps22
  go_wp2_with fail
  refine (CT.out _ HD1.out).mono ?_
  rintro e w2 ⟨rfl, D2, T2⟩
  have HD2 := Lib.hid D2
  have HT2 := Lib.hid T2
  clear D2 T2 upa
  go_wp2_with fail
  refine (HS.out _ HD2.out).mono ?_
  rintro e w3 ⟨rfl, rfl⟩
  go_wp2_with fail
  refine (SPD.out _ HD2.out).mono ?_
  rintro e w4 ⟨rfl, D4, T4⟩
  have HT4 := Lib.hid ((HL.out.trans HT2.out (fun n hn _ => hn)).trans T4 (fun n hn _ => hn))
  have HB4 := Lib.hid (((HB1.out.touch HT2.out HF.out)).touch T4 HF.out)
  have HD4 := Lib.hid D4
  clear D4 T4 HD2 HT2
  go_wp2_with fail
  -- the pending writes grow
  have upd : Up w4 w4.drew := (Up.refl w4).drew
  have D5 := Lib.hid (HD4.out.up upd)
  have B5 := Lib.hid (HB4.out.up upd)
  have T5 := Lib.hid (HT4.out.trans (Touch.of_up (F := Foot h) upd) (fun n hn _ => hn))
  obtain ⟨pa, pc, hvp⟩ := (D5.out.pend.row ww).slice
  have HVP := Lib.hid hvp
  have c2 := D5.out.cells.2.2.1
  rw [hvp] at c2
  clear hvp upd
  refine wp_region_any (by kernel_rfl) ?_
  change wpAny _ _ _ _ 13 _ _ w4.drew
  generalize w4.drew = w5 at *
  refine wpAny_take (i := 0) (v := .pointer (some ⟨h.d, 0, none⟩)) rfl (by kernel_rfl) (by kernel_rfl) (by kernel_rfl) (fun _ _ _ h => h) (.inl ⟨rfl, fun _ => rfl⟩) ?_
  refine wpAny_take (i := 1) (v := .pointer (some ⟨h.d, 0, none⟩)) rfl (by kernel_rfl) (by kernel_rfl) (by kernel_rfl) (fun _ _ _ h => h) (.inl ⟨rfl, fun _ => rfl⟩) ?_
  refine wpAny_take (i := 2) (v := .pointer (some ⟨h.d, 0, none⟩)) rfl (by kernel_rfl) (by kernel_rfl) (by kernel_rfl) (fun _ _ _ h => h) (.inl ⟨rfl, fun _ => rfl⟩) ?_
  refine wpAny_take (i := 3) (v := .pointer (some ⟨h.d, 2, none⟩)) rfl (by kernel_rfl) (by kernel_rfl) (by kernel_rfl) (fun _ _ _ h => h) (.inl ⟨rfl, fun _ => rfl⟩) ?_
  refine wpAny_take (i := 5) (v := .int .i64 (n : Int)) rfl (by kernel_rfl) (by kernel_rfl) (by kernel_rfl) (fun _ _ _ h => h) (.inl ⟨rfl, fun _ => rfl⟩) ?_
  simp only [Act.put, List.getElem_toArray, List.getElem_cons_succ, List.getElem_cons_zero, List.setIfInBounds_toArray, List.set_cons_zero, List.set_cons_succ]
  have c2a := (up_alloc w5 (.cells (wrC ⟨n, s⟩) 101)).cell c2
  have hrl : v.counted.spent.pend.length ≤ 1000000 := by rw [HPE.out.1]; exact hr
  have own5 := OwnRow.up D5.out.pend (up_alloc w5 (.cells (wrC ⟨n, s⟩) 101))
  rw [HVP.out] at own5
  have RW := wr_row w5 w5.heap.size rfl ⟨n, s⟩
  refine wpAny_two 4 6 _ _ (by kernel_rfl) rfl rfl rfl rfl ?_ ?_
  refine wp_load_cell 72 (.tmp 19) rfl ⟨h.d, 2, none⟩ rfl _ c2 (by kernel_rfl) ?_
  refine wpAny_one 6 _ (by kernel_rfl) rfl rfl ?_
  refine wp_load_blk 34 (.tmp 5) rfl w.heap.size rfl 34 _ B5.out _ Try.underlying34 rfl (info_secV s) ?_
  refine wpAny_take (i := 7) (v := .agg (wrC ⟨n, s⟩)) rfl (by kernel_rfl) (by kernel_rfl) (by kernel_rfl) (fun _ _ _ h => h) (yields_build2 rfl 101 0 1 (.tmp 21) (.tmp 22) rfl (.int .i64 (n : Int)) (.agg (secC s.val)) rfl rfl (wrC ⟨n, s⟩) (built_wr ⟨n, s⟩)) ?_
  refine wpAny_one 8 _ (by kernel_rfl) rfl rfl ?_
  refine wp_buildSlice1 72 101 (.tmp 23) rfl _ 129 136 (wrC ⟨n, s⟩) rfl Try.underlying72 info_wr (by omega) (by omega) (wrC_size _) ?_
  rotate_left
  refine wp_load_blk 34 (.tmp 5) rfl w.heap.size rfl 34 _ B5.out _ Try.underlying34 rfl (info_secV s) ?_
  refine wpAny_take (i := 7) (v := .agg (wrC ⟨n, s⟩)) rfl (by kernel_rfl) (by kernel_rfl) (by kernel_rfl) (fun _ _ _ h => h) (yields_build2 rfl 101 0 1 (.tmp 21) (.tmp 22) rfl (.int .i64 (n : Int)) (.agg (secC s.val)) rfl rfl (wrC ⟨n, s⟩) (built_wr ⟨n, s⟩)) ?_
  refine wpAny_two 4 8 _ _ (by kernel_rfl) rfl rfl rfl rfl ?_ ?_
  refine wp_load_cell 72 (.tmp 19) rfl ⟨h.d, 2, none⟩ rfl _ c2 (by kernel_rfl) ?_
  refine wpAny_one 8 _ (by kernel_rfl) rfl rfl ?_
  refine wp_buildSlice1 72 101 (.tmp 23) rfl _ 129 136 (wrC ⟨n, s⟩) rfl Try.underlying72 info_wr (by omega) (by omega) (wrC_size _) ?_
  rotate_left
  refine wp_buildSlice1 72 101 (.tmp 23) rfl _ 129 136 (wrC ⟨n, s⟩) rfl Try.underlying72 info_wr (by omega) (by omega) (wrC_size _) ?_
  refine wpAny_one 4 _ (by kernel_rfl) rfl rfl ?_
  refine wp_load_cell 72 (.tmp 19) rfl ⟨h.d, 2, none⟩ rfl _ c2a (by kernel_rfl) ?_
  all_goals
    simp only [Act.put, List.getElem_toArray, List.getElem_cons_succ, List.getElem_cons_zero, List.setIfInBounds_toArray, List.set_cons_zero, List.set_cons_succ]
    refine wpAny_one 9 _ (by kernel_rfl) rfl rfl ?_
    refine wp_append_rowW ww (.tmp 20) (.tmp 24) 72 rfl 0 101 _ 136 Try.underlying72 info_wr (wrC_size _) (.slice pa v.counted.spent.pend.length pc) v.counted.spent.pend rfl own5 (.slice (some ⟨w5.heap.size, 0, none⟩) 1 1) [⟨n, s⟩] rfl RW (by simp; omega) (by simp; omega) (Nat.zero_le _) ?_
    intro v' w6 hown6 hg6 _ hwh6
    refine wpAny_take (i := 10) (v := .pointer (some ⟨h.d, 0, none⟩)) rfl (by kernel_rfl) (by kernel_rfl) (by kernel_rfl) (fun _ _ _ h => h) (.inl ⟨rfl, fun _ => rfl⟩) ?_
    refine wpAny_take (i := 11) (v := .pointer (some ⟨h.d, 2, none⟩)) rfl (by kernel_rfl) (by kernel_rfl) (by kernel_rfl) (fun _ _ _ h => h) (.inl ⟨rfl, fun _ => rfl⟩) ?_
    simp only [Act.put, List.getElem_toArray, List.getElem_cons_succ, List.getElem_cons_zero, List.setIfInBounds_toArray, List.set_cons_zero, List.set_cons_succ]
    refine wpAny_one 12 _ (by kernel_rfl) rfl rfl ?_
    have hg6' := hg6
    rw [← HVP.out] at hg6' hwh6
    have D5a := D5.out.up (up_alloc w5 (.cells (wrC ⟨n, s⟩) 101))
    have hdev6 := D5a.dev.grown hg6' (own_ne (by decide) D5a.dev D5a.pend)
    have D7 := Lib.hid (Dv.push D5.out ⟨n, s⟩ (show n < v.counted.spent.stable.length by rw [HPE.out.2.1]; exact hnl) v' hown6 hg6')
    have T7 := Lib.hid ((T5.out.trans (Touch.of_up (F := Foot h) (up_alloc w5 (.cells (wrC ⟨n, s⟩) 101))) (fun n hn _ => hn)).trans ((Touch.of_grown (F := Foot h) hg6' (fun k hk => .inr (.inr (.inr hk)))).trans (Touch.of_grown (F := Foot h) (grown_setCell hdev6 2 v') (fun k hk => by cases hk; exact .inl rfl)) (fun n hn _ => hn)) (fun n hn _ => hn))
    have B7 := Lib.hid (HB1.out.touch (Touch.of_up (F := fun _ => False) (Up.refl _)) (fun hh => hh))
    have W7 := Lib.hid (show ∀ b, v'.ownBlock = some b → h.vp.ownBlock = some b ∨ w.heap.size ≤ b from fun b hb => by
      rcases hwh6 with hh | ⟨g, hh, hge⟩
      · exact .inl (by rw [← hh]; exact hb)
      · rw [hb] at hh
        cases hh
        exact .inr (Nat.le_trans (Nat.le_trans T5.out.size (up_alloc w5 _).size) hge))
    have S7 := Lib.hid (((B5.out.up (up_alloc w5 (.cells (wrC ⟨n, s⟩) 101))).grown hg6' (own_ne (by decide) (B5.out.up (up_alloc w5 (.cells (wrC ⟨n, s⟩) 101))) D5a.pend)).grown (grown_setCell hdev6 2 v') (fun e => HF.out (.inl (Option.some.inj e).symm)))
    have oc : v'.cells = #[v'] ∧ v'.oneCell' = true := by
      obtain ⟨va, vc, rfl⟩ := (hown6.row ww).slice
      exact ⟨rfl, rfl⟩
    refine wp_store_cell 72 (.tmp 27) (.tmp 25) rfl ⟨h.d, 2, none⟩ rfl v' rfl oc.1 oc.2 h.vp (hdev6.cell 2) (hdev6.free 2) (by kernel_rfl) ?_
    refine ⟨by kernel_rfl, ?_⟩
    simp only [Act.put]
    clear hg6 hg6' hwh6 hown6 RW own5 c2 c2a hdev6 D5a oc
    generalize w6.setCell ⟨h.d, 2, none⟩ v' = w7 at *
    clear B7
    go_wp2_with fail
    have upd : Up w7 w7.drew := (Up.refl w7).drew
    have D8 := Lib.hid (D7.out.up upd)
    have S8 := Lib.hid (S7.out.up upd)
    have T8 := Lib.hid (T7.out.trans (Touch.of_up (F := Foot h) upd) (fun n hn _ => hn))
    have c1 := D8.out.cells.2.1
    have c1' : w7.drew.cell? ⟨h.d, 1, none⟩ = some (.slice (some ⟨h.g2, 0, none⟩) v.counted.spent.stable.length v.counted.spent.stable.length) := c1
    rw [HPE.out.2.1] at c1'
    have hm := D8.out.max
    have hm' : v.stable.length ≤ 1024 := by rw [← HPE.out.2.1]; exact hm
    clear upd c1 D7 S7 T7 hm
    refine wp_region_still_tail 6 (by kernel_rfl) (by kernel_rfl) ?_
    simp only [List.take_succ_cons, List.take_zero, List.drop_succ_cons, List.drop_zero]
    change wpStill _ _ w7.drew (fun a' => wpList _ _ _ _ a' w7.drew) _ _
    generalize w7.drew = w8 at *
    repeat (first
      | (refine wpStill_load_blk rfl 34 (.tmp 5) rfl w.heap.size rfl 34 _ S8.out _ Try.underlying34 rfl (info_secV s) ?_)
      | still_step)
    refine wpStill_nil ?_
    have hnn : n < v.counted.spent.newest.length := by
      have := D8.out.len
      rw [show ({ v.counted.spent with pend := v.counted.spent.pend ++ [⟨n, s⟩] } : DevD).newest = v.counted.spent.newest from rfl] at this
      rw [this]
      show n < v.counted.spent.stable.length
      rw [HPE.out.2.1]
      exact hnl
    have FT := Lib.hid (sec_fit v.counted.spent.newest n hnn s)
    have SS := Lib.hid (secs_set v.counted.spent.newest n hnn s)
    have G2 := Lib.hid (show Blk w8 h.g2 34 (secsC v.counted.spent.newest) from D8.out.b2)
    have b2 : ((n : Int) < (v.stable.length : Int)) = True := by simp; omega
    clear hnn
    go_wp2_with (refine wpList_store_part rfl 34 (.tmp 34) (.tmp 33) rfl h.g2 (n * 128) (secC s.val) rfl rfl 34 _ G2.out (info_secV s) FT.out (secC_one _) ?_)
    intro w9 hb9 hg9
    rw [SS.out] at hb9
    have D9 := Lib.hid (Dv.setNew D8.out n s hb9 hg9)
    have T9 := Lib.hid (T8.out.trans (Touch.of_grown (F := Foot h) hg9 (fun k hk => by cases hk; exact .inr (.inr (.inl rfl)))) (fun n hn _ => hn))
    clear hb9 hg9 c1'
    go_wp2_with fail
    go_ret
    exact ⟨by rw [E.out.2]; rfl, v', by rw [E.out.1]; exact D9.out, T9.out, W7.out⟩
end Go.Proofs.Ytgmdhedabmkcoaa
