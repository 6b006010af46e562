/- PtrBytes. -/
import Derived.Test.YtbhondhbonmilaaPtrT
set_option linter.unusedSimpArgs false
namespace Go.Proofs.Ytbhondhbonmilaa
open Go.RowKit

def readR (l : List UInt8) : PtrD × Int := match readB l with
  | some p => (p, 0)
  | none => (hole, 51)
theorem pread_one {l : List UInt8} {w w' : World} {e : Ending} (h : PRead l w e w') : e = .returned (.tuple #[ptrV (readR l).1, .int .i64 (readR l).2]) ∧ Up w w' := by
  rcases h with ⟨p, hp, rfl, up⟩ | ⟨hp, rfl, up⟩
  · rw [readR, hp]; exact ⟨rfl, up⟩
  · rw [readR, hp]; exact ⟨rfl, up⟩

set_option maxHeartbeats 2000000 in
theorem ptrBytes_walk (w : World) (p : PtrD) (hp : p.wf) (v : Value) (l : List UInt8) (hv : IsBytes w v l) (hr : l.length * 1 ≤ 140737488351232) (_q : ∀ x ∈ l, True) :
    Calls Try.prog 4 #[ptrV p, v] w fun e w' => e = .returned (.bool true) ∧ Up w w' := by
  have B1 := Lib.hid (fun W => bytes_any W p hp)
  have B2 := Lib.hid (fun W => refBytes_any W p hp)
  clear hp
  obtain ⟨pl, pb, ps⟩ := p
  unfold ptrV PBytes at *
  simp only at *
  generalize goodB ⟨pl, pb, ps⟩ = g1 at *
  generalize ptrBytes ⟨pl, pb, ps⟩ = t1 at *
  obtain ⟨a, cap, rfl⟩ := hv.slice
  go_enter Try.func4, Try.ntmps4
  go_wp2_with fail
  refine (B1.out _).mono ?_
  rintro e w1 h1
  obtain ⟨e1, c1, rfl, hb1, up1⟩ : ∃ (e1 : Value) (c1 : Int), e = .returned (.tuple #[e1, .int .i64 c1]) ∧ (IsBytes w1 e1 (if g1 then t1 else []) ∧ c1 = if g1 then 0 else 51) ∧ Up (w.alloc (.cells #[.int .i64 pl, .int .u64 pb, .int .u32 ps] 26)) w1 := by
    rcases h1 with ⟨rfl, v, rfl, hv, h⟩ | ⟨rfl, rfl, h⟩
    · exact ⟨v, 0, rfl, ⟨hv.ones, rfl⟩, h⟩
    · exact ⟨_, 51, rfl, ⟨IsOnes.nil _ _, rfl⟩, h⟩
  have Hb1 := Lib.hid hb1
  clear hb1 h1
  have a0 : w1.cell? ⟨w.heap.size, 0, none⟩ = some (.int .i64 pl) := up1.cell (cell_new w _ _ _ 0 _ rfl)
  have a1 : w1.cell? ⟨w.heap.size, 1, none⟩ = some (.int .u64 pb) := up1.cell (cell_new w _ _ _ 1 _ rfl)
  have a2 : w1.cell? ⟨w.heap.size, 2, none⟩ = some (.int .u32 ps) := up1.cell (cell_new w _ _ _ 2 _ rfl)
  have upw1 := (up_alloc w _).trans up1
  clear up1
  go_wp2_with fail
  refine (B2.out _).mono ?_
  rintro e w2 h2
  obtain ⟨e2, c2, rfl, hb2, up2⟩ : ∃ (e2 : Value) (c2 : Int), e = .returned (.tuple #[e2, .int .i64 c2]) ∧ (IsBytes w2 e2 (if g1 then t1 else []) ∧ c2 = if g1 then 0 else 51) ∧ Up w1 w2 := by
    rcases h2 with ⟨rfl, v, rfl, hv, h⟩ | ⟨rfl, rfl, h⟩
    · exact ⟨v, 0, rfl, ⟨hv.ones, rfl⟩, h⟩
    · exact ⟨_, 51, rfl, ⟨IsOnes.nil _ _, rfl⟩, h⟩
  obtain ⟨hs1, hc1⟩ := Hb1.out
  obtain ⟨hs2, hc2⟩ := hb2
  have hs1 := hs1.up up2
  rw [← hc2] at hc1
  subst hc1
  clear hc2 h2 Hb1 B1 B2 a0 a1 a2
  generalize (if g1 = true then t1 else []) = t at *
  have upw2 := upw1.trans up2
  have hv2 := hv.up upw2
  go_wp2_with (at_builtin; refine wpList_fresh_ones byteCell byteCell_one rfl (.tmp 24) (.tmp 25) 27 rfl 5 (.int .u8 0) 1 Try.underlying27 info_u8 rfl rfl (.slice a l.length cap) l rfl hv2 (by omega) ?_)
  intro v3 w3 ho3 up3
  have V1 := Lib.hid (read_any w3 v3 l ho3.ones)
  have V2 := Lib.hid (fun W (h : Up w W) => refRead_any W _ l (hv.up h))
  have hs1 := hs1.up up3
  have hs2 := hs2.up up3
  have upw3 := upw2.trans up3
  clear ho3 hv hv2 up2 up3 upw2 upw1
  go_wp2_with fail
  refine V1.out.mono ?_
  rintro e w4 h4
  obtain ⟨rfl, up4⟩ := pread_one h4
  clear h4
  generalize hrl : readR l = rl at *
  have Hrl := Lib.hid hrl
  clear hrl
  obtain ⟨⟨rl0, rb0, rs0⟩, rk⟩ := rl
  unfold ptrV
  simp only
  have hs1 := hs1.up up4
  have hs2 := hs2.up up4
  have upw4 := upw3.trans up4
  go_wp2_with fail
  refine (V2.out _ (upw4.alloc _)).mono ?_
  rintro e w5 h5
  obtain ⟨rfl, up5⟩ := pread_one h5
  clear h5
  rw [Hrl.out]
  unfold ptrV
  simp only
  have g0 : w5.cell? ⟨w4.heap.size, 0, none⟩ = some (.int .i64 rl0) := up5.cell (cell_new w4 _ _ _ 0 _ rfl)
  have g1' : w5.cell? ⟨w4.heap.size, 1, none⟩ = some (.int .u64 rb0) := up5.cell (cell_new w4 _ _ _ 1 _ rfl)
  have g2 : w5.cell? ⟨w4.heap.size, 2, none⟩ = some (.int .u32 rs0) := up5.cell (cell_new w4 _ _ _ 2 _ rfl)
  have hs1 := (hs1.up (up_alloc _ _)).up up5
  have hs2 := (hs2.up (up_alloc _ _)).up up5
  have upw5 := (upw4.alloc _).trans up5
  clear up5 V1 V2
  go_wp2_with fail
  refine (alive_any _).mono ?_
  rintro e w6 ⟨rfl, up6⟩
  have up56 := (up_alloc w5 (.cells #[.int .i64 rl0, .int .u64 rb0, .int .u32 rs0] 26)).trans up6
  have g0 := up56.cell g0
  have g1' := up56.cell g1'
  have g2 := up56.cell g2
  have d0 : w6.cell? ⟨w5.heap.size, 0, none⟩ = some (.int .i64 rl0) := up6.cell (cell_new w5 _ _ _ 0 _ rfl)
  have d1 : w6.cell? ⟨w5.heap.size, 1, none⟩ = some (.int .u64 rb0) := up6.cell (cell_new w5 _ _ _ 1 _ rfl)
  have d2 : w6.cell? ⟨w5.heap.size, 2, none⟩ = some (.int .u32 rs0) := up6.cell (cell_new w5 _ _ _ 2 _ rfl)
  have k1 := toStr w6 _ _ (hs1.up up56)
  have k2 := toStr w6 _ _ (hs2.up up56)
  have upw6 := upw5.trans up56
  clear hs1 hs2 up56 up6
  go_wp2_with fail
  go_ret
  exact ⟨by simp, upw6⟩
end Go.Proofs.Ytbhondhbonmilaa
