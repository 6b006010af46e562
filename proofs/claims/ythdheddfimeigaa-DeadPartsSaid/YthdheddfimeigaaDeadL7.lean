/- DeadBytes: the walk. -/
import Derived.Test.YthdheddfimeigaaDeadL6
import Derived.Test.YthdheddfimeigaaDeadY2
import Derived.Test.YthdheddfimeigaaDeadY4
set_option linter.unusedSimpArgs false
namespace Go.Proofs.Ythdheddfimeigaa
open Go.RowKit Go.Sort

def Bytes2 (m : List UInt8) (c : Int) (w : World) (e : Ending) (w' : World) : Prop := ∃ u, e = .returned (.tuple #[u, .int .i64 c]) ∧ IsBytes w' u m ∧ Up w w'
theorem BytesPost.two {o : Option (List UInt8)} {w w' : World} {e : Ending} (h : BytesPost o w e w') : Bytes2 (o.getD []) (if o = none then 131 else 0) w e w' := by
  rcases h with ⟨rfl, h1, h2⟩ | ⟨m, u, rfl, h1, h2, h3⟩
  · exact ⟨_, h1, IsOnes.nil _ _, h2⟩
  · exact ⟨u, by rw [h1]; rfl, h2.ones, h3⟩
theorem ReadPost.two {o : Option (List PtrD)} {w w' : World} {e : Ending} (h : ReadPost o w e w') : AddPost2 (o.getD []) (if o = none then 131 else 0) w e w' := by
  rcases h with ⟨rfl, h1, h2⟩ | ⟨m, u, rfl, h1, h2, h3⟩
  · exact ⟨_, h1, IsRow.nil _ _, h2⟩
  · exact ⟨u, by rw [h1]; rfl, h2, h3⟩

set_option maxHeartbeats 8000000 in
theorem deadBytes_walk (w : World) (v : Value) (l : List PtrD) (hv : IsPtrs w v l) (_hr : l.length * 24 ≤ 140737488351232) (hq : ∀ x ∈ l, x.wf) (v2 : Value) (b : List UInt8) (hv2 : IsBytes w v2 b) (hr2 : b.length * 1 ≤ 140737488351232) (_q : ∀ x ∈ b, True) :
    Calls Try.prog 8 #[v, v2] w fun e w' => e = .returned (.bool true) ∧ Up w w' := by
  obtain ⟨M, hM⟩ : ∃ M, M = (bytesO l).getD [] := ⟨_, rfl⟩
  obtain ⟨c, hc⟩ : ∃ c : Int, c = (if bytesO l = none then 131 else 0) := ⟨_, rfl⟩
  obtain ⟨R, hR⟩ : ∃ R, R = (readL b).getD [] := ⟨_, rfl⟩
  obtain ⟨d, hd⟩ : ∃ d : Int, d = (if readL b = none then 131 else 0) := ⟨_, rfl⟩
  have B1 := Lib.hid (show ∀ W, Up w W → Calls Try.prog 23 #[v] W fun e w' => Bytes2 M c W e w' from fun W up => by
    rw [hM, hc]; exact (lbytes_any W v l (IsRow.up hv up) hq).mono fun e w' h => BytesPost.two h)
  have B2 := Lib.hid (show ∀ W, Up w W → Calls Try.prog 24 #[v] W fun e w' => Bytes2 M c W e w' from fun W up => by
    rw [hM, hc]; exact (rbytes_any W v l (IsRow.up hv up) hq).mono fun e w' h => BytesPost.two h)
  have R1 := Lib.hid (show ∀ W u, IsBytes W u b → Calls Try.prog 25 #[u] W fun e w' => AddPost2 R d W e w' from fun W u h => by
    rw [hR, hd]; exact (lread_any W u b h).mono fun e w' h => ReadPost.two h)
  have R2 := Lib.hid (show ∀ W, Up w W → Calls Try.prog 26 #[v2] W fun e w' => AddPost2 R d W e w' from fun W up => by
    rw [hR, hd]; exact (rread_any W v2 b (hv2.up up)).mono fun e w' h => ReadPost.two h)
  have SM := Lib.hid (show ∀ W u u' m, IsPtrs W u m → IsPtrs W u' m → Calls Try.prog 18 #[u, u'] W fun e w' => BoolUp true W e w' from fun W u u' m h h' => by
    have := same_any W u u' m m h h'
    rw [show decide (m = m) = true by simp] at this
    exact this)
  unfold AddPost2 at R1 R2
  unfold Bytes2 at B1 B2
  have HV2 := Lib.hid hv2
  have cc : (c == c) = true := by simp
  have dd : (d == d) = true := by simp
  clear hM hc hR hd hv hv2 hq _hr
  go_enter Try.func8, Try.ntmps8
  go_wp2_with fail
  refine (B1.out _ (Up.refl _)).mono ?_
  rintro e w1 ⟨x, rfl, hx, up1⟩
  have U1 := Lib.hid up1
  have X1 := Lib.hid hx
  clear up1 hx
  go_wp2_with fail
  refine (B2.out _ U1.out).mono ?_
  rintro e w2 ⟨y, rfl, hy, up2⟩
  have U2 := Lib.hid (U1.out.trans up2)
  have X2 := Lib.hid (X1.out.up up2)
  have Y2 := Lib.hid hy
  clear up2 hy X1 U1
  have hv2 := HV2.out.up U2.out
  go_wp2_with (at_builtin; refine wpList_fresh_ones byteCell byteCell_one rfl (.tmp 24) (.tmp 25) 44 rfl 5 (.int .u8 0) 1 Try.underlying44 info_u8 rfl rfl v2 b rfl hv2 (by omega) ?_)
  intro z3 w3 ho3 up3
  have U3 := Lib.hid (U2.out.trans up3)
  have X3 := Lib.hid (X2.out.up up3)
  have Y3 := Lib.hid (Y2.out.up up3)
  have Z3 := Lib.hid ho3.ones
  clear up3 X2 Y2 U2 hv2 ho3
  go_wp2_with fail
  refine (R1.out _ _ Z3.out).mono ?_
  rintro e w4 ⟨p, rfl, hp, up4⟩
  have U4 := Lib.hid (U3.out.trans up4)
  have X4 := Lib.hid (X3.out.up up4)
  have Y4 := Lib.hid (Y3.out.up up4)
  have P4 := Lib.hid hp
  clear up4 X3 Y3 U3 hp
  go_wp2_with fail
  refine (R2.out _ U4.out).mono ?_
  rintro e w5 ⟨q, rfl, hq, up5⟩
  have U5 := Lib.hid (U4.out.trans up5)
  have X5 := Lib.hid (X4.out.up up5)
  have Y5 := Lib.hid (Y4.out.up up5)
  have P5 := Lib.hid (IsRow.up P4.out up5)
  have Q5 := Lib.hid hq
  clear up5 X4 Y4 P4 U4 hq
  go_wp2_with fail
  refine (alive_any _).mono ?_
  rintro e w6 ⟨rfl, up6⟩
  have U6 := Lib.hid (U5.out.trans up6)
  have c1 := toStr w6 x M (X5.out.up up6)
  have c2 := toStr w6 y M (Y5.out.up up6)
  have P6 := Lib.hid (IsRow.up P5.out up6)
  have Q6 := Lib.hid (IsRow.up Q5.out up6)
  clear up6 X5 Y5 P5 Q5 U5
  go_wp2_with fail
  refine (SM.out _ _ _ _ P6.out Q6.out).mono ?_
  rintro e w7 ⟨rfl, up7⟩
  go_wp2_with fail
  go_ret
  exact ⟨rfl, U6.out.trans up7⟩
end Go.Proofs.Ythdheddfimeigaa
