/- PtrBack. -/
import Derived.Test.YtbhondhbonmilaaPtrK
import Derived.Test.YtbhondhbonmilaaPtrL4
set_option linter.unusedSimpArgs false
namespace Go.Proofs.Ytbhondhbonmilaa
open Go.RowKit

theorem wpList_fresh_at {α : Type} {P : Program} (f : α → Value) (hf : ∀ x, (f x).oneCell' = true) {w : World} {ops : Array Oper} {rest : List Oper} {o : Oper} {a : Act} {Q : Exit → Act → World → Prop} (hgd : o.guard = none) (s x : Operand) (t : TypeId)
    (ho : o.op = .call { callee := .builtin .append, args := #[s, x], argTypes := #[t, t] })
    (e : TypeId) (z : Value) (bytes : Nat) (ht : P.underlying t = some (.slice e)) (hinfo : (P.info? e).map (fun i => (i.zero, i.size, i.bytes)) = some (some z, 1, bytes)) (hzs : z.cells.size = 1)
    (b : Nat) (hb : b = w.heap.size) (hs : a.eval s = .slice (some ⟨b, 0, none⟩) 0 0) (vx : Value) (ys : List α) (hx : a.eval x = vx) (hsrc : IsOnes f w vx ys)
    (hbytes : ys.length * bytes ≤ 140737488355328)
    (h : ∀ v' w', Own f e w' w.heap.size v' ys → Up w w' → wpList P ops Q rest (a.put o.dst v') w') : wpList P ops Q (o :: rest) a (w.alloc (.cells #[] e)) := by
  subst hb
  exact wpList_fresh_ones f hf hgd s x t ho e z bytes ht hinfo hzs hs vx ys hx hsrc hbytes h

set_option maxHeartbeats 2000000 in
theorem ptrBack_walk (w : World) (p : PtrD) (hp : p.wf) (v : Value) (l : List UInt8) (hv : IsBytes w v l) (hr : l.length * 1 ≤ 140737488351232) (_q : ∀ x ∈ l, True) :
    Calls Try.prog 5 #[ptrV p, v] w fun e w' => e = .returned (.bool true) ∧ Up w w' := by
  have B1 := Lib.hid (fun W => bytes_any W p hp)
  have R1 := Lib.hid (fun W => right_any W p)
  have K1 := Lib.hid (ptrOf_bytes p hp)
  have K2 := Lib.hid (ptrBytes_length p)
  clear hp
  obtain ⟨pl, pb, ps⟩ := p
  unfold ptrV PBytes at *
  simp only at *
  generalize goodB ⟨pl, pb, ps⟩ = g1 at *
  generalize ptrBytes ⟨pl, pb, ps⟩ = t1 at *
  obtain ⟨a, cap, rfl⟩ := hv.slice
  go_enter Try.func5, Try.ntmps5
  go_wp2_with fail
  refine (alive_any _).mono ?_
  rintro e w0 ⟨rfl, up0⟩
  have a0 : w0.cell? ⟨w.heap.size, 0, none⟩ = some (.int .i64 pl) := up0.cell (cell_new w _ _ _ 0 _ rfl)
  have a1 : w0.cell? ⟨w.heap.size, 1, none⟩ = some (.int .u64 pb) := up0.cell (cell_new w _ _ _ 1 _ rfl)
  have a2 : w0.cell? ⟨w.heap.size, 2, none⟩ = some (.int .u32 ps) := up0.cell (cell_new w _ _ _ 2 _ rfl)
  have upw0 := (up_alloc w _).trans up0
  clear up0
  go_wp2_with fail
  refine (B1.out _).mono ?_
  rintro e w1 h1
  have up1 : Up w0 w1 := by rcases h1 with ⟨_, _, _, _, h⟩ | ⟨_, _, h⟩ <;> exact h
  have a0 := up1.cell a0
  have a1 := up1.cell a1
  have a2 := up1.cell a2
  have upw1 := upw0.trans up1
  clear up1 upw0
  cases g1
  · rcases h1 with ⟨hno, _⟩ | ⟨_, rfl, _⟩
    · simp at hno
    go_wp2_with fail
    refine (R1.out _).mono ?_
    rintro e w2 ⟨rfl, up2⟩
    have upw2 := upw1.trans up2
    clear B1 R1 K1 K2 up2
    have hvN := hv.up upw2
    go_wp2_with (at_builtin; refine wpList_fresh_ones byteCell byteCell_one rfl (.tmp 45) (.tmp 46) 27 rfl 5 (.int .u8 0) 1 Try.underlying27 info_u8 rfl rfl (.slice a l.length cap) l rfl hvN (by omega) ?_)
    intro v3 w3 ho3 up3
    have V1 := Lib.hid (read_any w3 v3 l ho3.ones)
    have Hv := Lib.hid hv
    have upw3 := upw2.trans up3
    clear ho3 hv hvN up3 upw2
    go_wp2_with fail
    refine V1.out.mono ?_
    rintro e w4 (⟨r, hr4, rfl, up4⟩ | ⟨hr4, rfl, up4⟩)
    · obtain ⟨rwf, rg, rb⟩ := bytes_ptrOf l r hr4
      have Rb := Lib.hid rb
      have Rg := Lib.hid rg
      have BR := Lib.hid (fun W => bytes_any W r rwf)
      have upw4 := upw3.trans up4
      clear rwf rb rg hr4 V1 up4 upw3
      unfold ptrV
      go_wp2_with fail
      refine (BR.out _).mono ?_
      rintro e w5 (⟨_, y, rfl, hoy, up5⟩ | ⟨hno, _⟩)
      case inr => rw [Rg.out] at hno; simp at hno
      rw [Rb.out] at hoy
      have upw5 := (upw4.alloc _).trans up5
      have k1 := toStr w5 _ _ hoy.ones
      have k2 := toStr w5 _ _ (Hv.out.up upw5)
      clear hoy up5 upw4 BR
      go_wp2_with fail
      go_ret
      exact ⟨by simp, upw5⟩
    · have upw4 := upw3.trans up4
      clear V1 up4 upw3
      unfold ptrV hole
      go_wp2_with fail
      go_ret
      exact ⟨by simp, upw4.alloc _⟩
  · rcases h1 with ⟨_, x1, rfl, ho1, _⟩ | ⟨hno, _⟩
    case inr => simp at hno
    go_wp2_with fail
    refine (R1.out _).mono ?_
    rintro e w2 ⟨rfl, up2⟩
    obtain ⟨a9, c9, rfl⟩ := ho1.ones.slice
    have KR := Lib.hid (fun W (h : Up w1 W) => read_any W _ _ (ho1.ones.up h))
    rw [K2.out] at KR ⊢
    have KK := Lib.hid (K1.out trivial)
    have b0 := up2.cell a0
    have b1 := up2.cell a1
    have b2 := up2.cell a2
    have upw1' := upw1.trans up2
    have Up2 := Lib.hid up2
    clear ho1 B1 R1 K1 K2 a0 a1 a2 upw1 up2
    go_wp2_with fail
    refine (KR.out _ Up2.out).mono ?_
    rintro e w2' (⟨r, hr4, rfl, up4⟩ | ⟨hr4, rfl, up4⟩)
    case inr => rw [KK.out] at hr4; simp at hr4
    rw [KK.out] at hr4
    simp only [Option.some.injEq] at hr4
    subst hr4
    have d0 := (up_alloc w2' (.cells #[.int .i64 pl, .int .u64 pb, .int .u32 ps] 26)).cell (up4.cell b0)
    have d1 := (up_alloc w2' (.cells #[.int .i64 pl, .int .u64 pb, .int .u32 ps] 26)).cell (up4.cell b1)
    have d2 := (up_alloc w2' (.cells #[.int .i64 pl, .int .u64 pb, .int .u32 ps] 26)).cell (up4.cell b2)
    have upw2 := (upw1'.trans up4).alloc (.cells #[.int .i64 pl, .int .u64 pb, .int .u32 ps] 26)
    clear b0 b1 b2 up4 upw1' KR KK Up2
    unfold ptrV
    simp only
    have hvN := hv.up upw2
    go_wp2_with (at_builtin; refine wpList_fresh_at byteCell byteCell_one rfl (.tmp 45) (.tmp 46) 27 rfl 5 (.int .u8 0) 1 Try.underlying27 info_u8 rfl _ (World.size_alloc _ _).symm rfl (.slice a l.length cap) l rfl hvN (by omega) ?_)
    intro v3 w3 ho3 up3
    have V1 := Lib.hid (read_any w3 v3 l ho3.ones)
    have Hv := Lib.hid hv
    have upw3 := upw2.trans up3
    clear ho3 hv hvN up3 upw2
    go_wp2_with fail
    refine V1.out.mono ?_
    rintro e w4 (⟨r, hr4, rfl, up4⟩ | ⟨hr4, rfl, up4⟩)
    · obtain ⟨rwf, rg, rb⟩ := bytes_ptrOf l r hr4
      have Rb := Lib.hid rb
      have Rg := Lib.hid rg
      have BR := Lib.hid (fun W => bytes_any W r rwf)
      have upw4 := upw3.trans up4
      clear rwf rb rg hr4 V1 up4 upw3
      unfold ptrV
      go_wp2_with fail
      refine (BR.out _).mono ?_
      rintro e w5 (⟨_, y, rfl, hoy, up5⟩ | ⟨hno, _⟩)
      case inr => rw [Rg.out] at hno; simp at hno
      rw [Rb.out] at hoy
      have upw5 := (upw4.alloc _).trans up5
      have k1 := toStr w5 _ _ hoy.ones
      have k2 := toStr w5 _ _ (Hv.out.up upw5)
      clear hoy up5 upw4 BR
      go_wp2_with fail
      go_ret
      exact ⟨by simp, upw5⟩
    · have upw4 := upw3.trans up4
      clear V1 up4 upw3
      unfold ptrV hole
      go_wp2_with fail
      go_ret
      exact ⟨by simp, upw4.alloc _⟩
end Go.Proofs.Ytbhondhbonmilaa
