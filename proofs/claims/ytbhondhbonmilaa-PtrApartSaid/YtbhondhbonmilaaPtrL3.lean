/- PtrApart. -/
import Derived.Test.YtbhondhbonmilaaPtrT
import Derived.Deep.RegionHeld3
set_option linter.unusedSimpArgs false
namespace Go.Proofs.Ytbhondhbonmilaa
open Go.RowKit

set_option maxHeartbeats 2000000 in
theorem ptrApart_walk (w : World) (p : PtrD) (hp : p.wf) (q : PtrD) (hq : q.wf) :
    Calls Try.prog 6 #[ptrV p, ptrV q] w fun e w' => e = .returned (.bool true) ∧ Up w w' := by
  have R1 := Lib.hid (fun W => right_any W p)
  have R2 := Lib.hid (fun W => right_any W q)
  have B1 := Lib.hid (fun W => bytes_any W p hp)
  have B2 := Lib.hid (fun W => bytes_any W q hq)
  have J := Lib.hid (ptrBytes_inj p q hp hq)
  clear hp hq
  obtain ⟨l, b, s⟩ := p
  obtain ⟨l2, b2, s2⟩ := q
  unfold ptrV PBytes at *
  simp only at *
  generalize goodB ⟨l, b, s⟩ = g1 at *
  generalize goodB ⟨l2, b2, s2⟩ = g2 at *
  generalize ptrBytes ⟨l, b, s⟩ = t1 at *
  generalize ptrBytes ⟨l2, b2, s2⟩ = t2 at *
  go_enter Try.func6, Try.ntmps6
  go_wp2_with fail
  refine (alive_any _).mono ?_
  rintro e w1 ⟨rfl, up1⟩
  have upw : Up w w1 := ((up_alloc _ _).alloc _).trans up1
  have a0 : w1.cell? ⟨w.heap.size, 0, none⟩ = some (.int .i64 l) := up1.cell ((up_alloc _ _).cell (cell_new w _ _ _ 0 _ rfl))
  have a1 : w1.cell? ⟨w.heap.size, 1, none⟩ = some (.int .u64 b) := up1.cell ((up_alloc _ _).cell (cell_new w _ _ _ 1 _ rfl))
  have a2 : w1.cell? ⟨w.heap.size, 2, none⟩ = some (.int .u32 s) := up1.cell ((up_alloc _ _).cell (cell_new w _ _ _ 2 _ rfl))
  have b0 : w1.cell? ⟨w.heap.size + 1, 0, none⟩ = some (.int .i64 l2) := by rw [← World.size_alloc]; exact up1.cell (cell_new _ _ _ _ 0 _ rfl)
  have b1 : w1.cell? ⟨w.heap.size + 1, 1, none⟩ = some (.int .u64 b2) := by rw [← World.size_alloc]; exact up1.cell (cell_new _ _ _ _ 1 _ rfl)
  have b2' : w1.cell? ⟨w.heap.size + 1, 2, none⟩ = some (.int .u32 s2) := by rw [← World.size_alloc]; exact up1.cell (cell_new _ _ _ _ 2 _ rfl)
  clear up1
  go_wp2_with fail
  refine (B1.out _).mono ?_
  rintro e w2 h2
  have up2 : Up w1 w2 := by rcases h2 with ⟨_, _, _, _, h⟩ | ⟨_, _, h⟩ <;> exact h
  have a0' := up2.cell a0
  have a1' := up2.cell a1
  have a2' := up2.cell a2
  have b0' := up2.cell b0
  have b1' := up2.cell b1
  have b2'' := up2.cell b2'
  have upw2 := upw.trans up2
  clear a0 a1 a2 b0 b1 b2' upw up2
  obtain ⟨e1, c1, he1, hb1, hc1⟩ : ∃ (e1 : Value) (c1 : Int), e = .returned (.tuple #[e1, .int .i64 c1]) ∧ (g1 = true → IsBytes w2 e1 t1 ∧ c1 = 0) ∧ (g1 = false → c1 = 51) := by
    rcases h2 with ⟨rfl, v, rfl, hv, _⟩ | ⟨rfl, rfl, _⟩
    · exact ⟨v, 0, rfl, fun _ => ⟨hv.ones, rfl⟩, fun h => by simp at h⟩
    · exact ⟨_, 51, rfl, fun h => by simp at h, fun _ => rfl⟩
  have Hb1 := Lib.hid hb1
  have Hc1 := Lib.hid hc1
  clear hb1 hc1 h2
  subst he1
  go_wp2_with fail
  refine (B2.out _).mono ?_
  rintro e w3 h3
  have up3 : Up w2 w3 := by rcases h3 with ⟨_, _, _, _, h⟩ | ⟨_, _, h⟩ <;> exact h
  have a0 := up3.cell a0'
  have a1 := up3.cell a1'
  have a2 := up3.cell a2'
  have b0 := up3.cell b0'
  have b1 := up3.cell b1'
  have b2' := up3.cell b2''
  have upw3 := upw2.trans up3
  obtain ⟨e2, c2, he2, hb2, hc2⟩ : ∃ (e2 : Value) (c2 : Int), e = .returned (.tuple #[e2, .int .i64 c2]) ∧ (g2 = true → IsBytes w3 e2 t2 ∧ c2 = 0) ∧ (g2 = false → c2 = 51) := by
    rcases h3 with ⟨rfl, v, rfl, hv, _⟩ | ⟨rfl, rfl, _⟩
    · exact ⟨v, 0, rfl, fun _ => ⟨hv.ones, rfl⟩, fun h => by simp at h⟩
    · exact ⟨_, 51, rfl, fun h => by simp at h, fun _ => rfl⟩
  have Hb2 := Lib.hid hb2
  have Hc2 := Lib.hid hc2
  clear hb2 hc2 h3
  subst he2
  clear a0' a1' a2' b0' b1' b2'' upw2
  by_cases hg : g1 = true ∧ g2 = true
  · obtain ⟨rfl, rfl⟩ := hg
    have k1 := toStr w3.drew _ _ (((Hb1.out rfl).1.up up3).up (Up.refl _).drew)
    have k2 := toStr w3.drew _ _ ((Hb2.out rfl).1.up (Up.refl _).drew)
    have j1 := (Hb1.out rfl).2
    have j2 := (Hb2.out rfl).2
    subst j1 j2
    have j3 := J.out rfl rfl
    simp only [PtrD.mk.injEq] at j3
    clear Hb1 Hb2 Hc1 Hc2 J B1 B2 R1 R2 up3
    have J3 := Lib.hid j3
    clear j3
    go_wp2_with fail
    by_cases h : l = l2 ∧ b = b2 ∧ s = s2
    · have ht := J3.out.2 h
      obtain ⟨rfl, rfl, rfl⟩ := h
      subst ht
      clear J3
      go_region_held3 (fun w' => w' = w3.drew) (first | rfl | assumption) (fail)
      go_wp2_with fail
      go_ret
      exact ⟨by simp, upw3.drew⟩
    · have ht : ¬ t1 = t2 := fun hh => h (J3.out.1 hh)
      have hs : ¬ (strOf t1).toList = (strOf t2).toList := by rw [ByteArray.toList_eq, ByteArray.toList_eq, strOf_data, strOf_data]; exact ht
      clear J3 ht
      by_cases e1' : l = l2
      · subst e1'
        by_cases e2' : b = b2
        · subst e2'
          have h3 : ¬ (s : Int) = (s2 : Int) := by omega
          have h4 : ((s : Int) == (s2 : Int)) = false := by simpa using h3
          clear h
          go_region_held3 (fun w' => w' = w3.drew) (first | rfl | assumption) (fail)
          go_wp2_with fail
          go_ret
          exact ⟨by simp [hs], upw3.drew⟩
        · have h3 : ¬ (b : Int) = (b2 : Int) := by omega
          have h4 : ((b : Int) == (b2 : Int)) = false := by simpa using h3
          clear h e2'
          go_region_held3 (fun w' => w' = w3.drew) (first | rfl | assumption) (fail)
          go_wp2_with fail
          go_ret
          exact ⟨by simp [hs], upw3.drew⟩
      · have h4 : (l == l2) = false := by simpa using e1'
        clear h
        go_region_held3 (fun w' => w' = w3.drew) (first | rfl | assumption) (fail)
        go_wp2_with fail
        go_ret
        exact ⟨by simp [hs], upw3.drew⟩
  · cases g1 <;> cases g2 <;> first | (exfalso; simp at hg; done) | skip
    all_goals
      first | (have j1 := (Hb1.out rfl).2) | (have j1 := Hc1.out rfl)
      first | (have j2 := (Hb2.out rfl).2) | (have j2 := Hc2.out rfl)
      subst j1 j2
      clear Hb1 Hb2 Hc1 Hc2 J B1 B2 up3
      go_wp2_with fail
    · refine (R1.out _).mono ?_
      rintro e w4 ⟨rfl, up4⟩
      go_wp2_with fail
      go_ret
      exact ⟨rfl, upw3.trans up4⟩
    · refine (R1.out _).mono ?_
      rintro e w4 ⟨rfl, up4⟩
      go_wp2_with fail
      go_ret
      exact ⟨rfl, upw3.trans up4⟩
    · refine (R1.out _).mono ?_
      rintro e w4 ⟨rfl, up4⟩
      have b0 := up4.cell b0
      have b1 := up4.cell b1
      have b2' := up4.cell b2'
      go_wp2_with fail
      refine (R2.out _).mono ?_
      rintro e w5 ⟨rfl, up5⟩
      go_wp2_with fail
      go_ret
      exact ⟨rfl, upw3.trans (up4.trans up5)⟩
end Go.Proofs.Ytbhondhbonmilaa
