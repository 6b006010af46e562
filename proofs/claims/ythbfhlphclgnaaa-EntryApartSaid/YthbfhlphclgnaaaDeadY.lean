/- Lists as bytes: plain functions; dead.Bytes: the walk. -/
import Derived.Test.YthbfhlphclgnaaaDeadM
import Derived.Test.YthbfhlphclgnaaaPl
set_option linter.unusedSimpArgs false
namespace Go.Proofs.Ythbfhlphclgnaaa
open Go.RowKit Go.Sort

def bytesO (l : List PtrD) : Option (List UInt8) := if l.length ≤ 4000 ∧ rightB l = true then some (bytesL l) else none
def rightO : Option (List PtrD) → Option (List PtrD)
  | some l => if rightB l = true then some l else none
  | none => none
def readL (b : List UInt8) : Option (List PtrD) := if b.length % 16 = 0 ∧ b.length ≤ 64000 then rightO (readTo b (b.length / 16)) else none

theorem right_good {l : List PtrD} (h : rightB l = true) : ∀ x ∈ l, goodB x = true := fun x hx => by
  obtain ⟨i, hi, rfl⟩ := List.getElem_of_mem hx
  have := (rightB_iff l).1 h i hi
  unfold okAt fitB at this
  simp at this
  exact this.1.2
theorem readL_bytes (l : List PtrD) (hw : ∀ x ∈ l, x.wf) (hl : l.length ≤ 4000) (hr : rightB l = true) : readL (bytesL l) = some l := by
  unfold readL
  rw [bytesL_length, if_pos ⟨by omega, by omega⟩, show 16 * l.length / 16 = l.length by omega, readTo_bytes l hw (right_good hr) _ (Nat.le_refl _), List.take_length]
  simp [rightO, hr]

def BytesPost (o : Option (List UInt8)) (w : World) (e : Ending) (w' : World) : Prop :=
  (o = none ∧ e = .returned (.tuple #[.slice none 0 0, .int .i64 131]) ∧ Up w w') ∨ ∃ m u, o = some m ∧ e = .returned (.tuple #[u, .int .i64 0]) ∧ Own byteCell 5 w' w.heap.size u m ∧ Up w w'
theorem wrap16 (n : Nat) (h : n ≤ 4000) : IntKind.i64.wrap ((n : Int) * 16) = ((n * 16 : Nat) : Int) := by
  rw [show (n : Int) * 16 = ((n * 16 : Nat) : Int) by omega]; exact wrap_i64_nat _ (by omega)

set_option maxHeartbeats 4000000 in
theorem lbytes_any (w : World) (v : Value) (l : List PtrD) (hv : IsPtrs w v l) (hwf : ∀ x ∈ l, x.wf) :
    Calls Try.prog 53 #[v] w fun e w' => BytesPost (bytesO l) w e w' := by
  have R := Lib.hid (fun W (up : Up w W) => lright_any W v l (IsRow.up hv up))
  have hlen := hv.length_le
  by_cases h4 : l.length ≤ 4000
  case neg =>
    have HN := Lib.hid (show bytesO l = none from if_neg (fun h => h4 h.1))
    obtain ⟨a, cap, rfl⟩ := hv.slice
    have t1 : decide ((4000 : Int) < (l.length : Int)) = true := by simp; omega
    have t2 : decide (4000 < l.length) = true := by simp; omega
    clear h4
    go_enter Try.func53, Try.ntmps53
    go_wp2_with fail
    go_ret2
    exact .inl ⟨HN.out, rfl, Up.refl _⟩
  have t1 : decide ((4000 : Int) < (l.length : Int)) = false := by simp; omega
  have t2 : decide (4000 < l.length) = false := by simp; omega
  cases hR : rightB l
  case false =>
    have HN := Lib.hid (show bytesO l = none from if_neg (fun h => by rw [hR] at h; cases h.2))
    rw [hR] at R
    clear hR
    obtain ⟨a, cap, rfl⟩ := hv.slice
    go_enter Try.func53, Try.ntmps53
    go_wp2_with fail
    refine (R.out _ (Up.refl _)).mono ?_
    rintro e w1 ⟨rfl, up1⟩
    go_wp2_with fail
    go_ret2
    exact .inl ⟨HN.out, rfl, up1⟩
  have HN := Lib.hid (show bytesO l = some (bytesL l) from if_pos ⟨h4, hR⟩)
  have HG := Lib.hid (right_good hR)
  have HW := Lib.hid hwf
  rw [hR] at R
  clear hR hwf
  obtain ⟨T, hT⟩ : ∃ T, T = l.length * 16 := ⟨_, rfl⟩
  have MK : ∀ W : World, (Instr.makeSlice 29 (.int .i64 0) (.int .i64 (T : Int))).run Try.prog W = _ := fun W => run_make0 (P := Try.prog) 29 5 (.int .u8 0) 1 Try.underlying29 info_u8 T (by omega) (by omega) W
  have RM := Lib.hid (fun W (B : Nat) (hB : B ≤ W.heap.size) => Own.room byteCell 5 W (.int .u8 0) B T hB (by omega))
  have wt : IntKind.i64.wrap ((l.length : Int) * 16) = (T : Int) := by rw [hT]; exact wrap16 _ h4
  generalize zRow (.int .u8 0) T = zr at *
  have HT := Lib.hid hT
  clear hT
  have HV := Lib.hid hv
  obtain ⟨a, cap, rfl⟩ := hv.slice
  clear hv
  go_enter Try.func53, Try.ntmps53
  go_wp2_with fail
  refine (R.out _ (Up.refl _)).mono ?_
  rintro e w1 ⟨rfl, up1⟩
  go_wp2_with fail
  have own0 := RM.out w1 w.heap.size up1.size
  have upz := up1.trans (up_alloc w1 (.cells zr 5))
  go_loopw [4, 23] (fun u i wr => ∃ k : Nat, k ≤ l.length ∧ i = .int .i64 k ∧ Own byteCell 5 wr w.heap.size u (bytesL (l.take k)) ∧ Up w wr) (fun _ i _ => l.length - (intOf i).toNat)
  case atStart => exact ⟨0, Nat.zero_le _, rfl, own0, upz⟩
  case round =>
    obtain ⟨k, hk, rfl, hown, upr⟩ := hrel
    clear own0 MK wt upz
    have HO := Lib.hid hown
    clear hown
    by_cases hlt : k < l.length
    · obtain ⟨b, off, rfl, _, _, hc⟩ := ptrs_at (IsRow.up HV.out upr) (by omega)
      have hc0 := (hc k hlt).1
      have hc1 := (hc k hlt).2.1
      have hc2 := (hc k hlt).2.2
      have b2 : ((k : Int) < (l.length : Int)) = True := by simp; omega
      have hmem := List.getElem_mem hlt
      have B := Lib.hid (fun W => bytes_any W l[k] (HW.out _ hmem))
      have G := Lib.hid (HG.out _ hmem)
      have SN := Lib.hid (bytesL_snoc l k hlt)
      have LE := Lib.hid (show (bytesL (l.take k)).length ≤ 64000 by rw [bytesL_length, List.length_take]; omega)
      clear hc hmem
      generalize l[k] = p at *
      obtain ⟨pl, pb, ps⟩ := p
      unfold ptrV at B
      simp only at hc0 hc1 hc2 B
      have upa := up_alloc wr (.cells #[.int .i64 pl, .int .u64 (pb : Int), .int .u32 (ps : Int)] 41)
      go_wp2_with fail
      refine (B.out _).mono ?_
      rintro e w3 h3
      obtain ⟨u3, rfl, ho3, up3⟩ : ∃ u3, e = .returned (.tuple #[u3, .int .i64 0]) ∧ Own byteCell 5 w3 (wr.alloc (.cells #[.int .i64 pl, .int .u64 (pb : Int), .int .u32 (ps : Int)] 41)).heap.size u3 (ptrBytes ⟨pl, pb, ps⟩) ∧ Up (wr.alloc (.cells #[.int .i64 pl, .int .u64 (pb : Int), .int .u32 (ps : Int)] 41)) w3 := by
        rcases h3 with ⟨_, u, rfl, h, h'⟩ | ⟨h, _⟩
        · exact ⟨u, rfl, h, h'⟩
        · rw [G.out] at h; cases h
      clear h3
      have up03 := upa.trans up3
      have o3 := HO.out.up up03
      have s3 := (upr.trans up03).size
      have pl16 := ptrBytes_len ⟨pl, pb, ps⟩
      have PL := Lib.hid pl16
      have hon := ho3.ones
      clear pl16 ho3
      generalize ptrBytes ⟨pl, pb, ps⟩ = pbs at *
      generalize bytesL (l.take k) = acc at *
      go_wp2_with (at_builtin; refine wpList_append_ones byteCell byteCell_one rfl (.tmp 34) (.tmp 35) 29 rfl w.heap.size 5 (.int .u8 0) 1 Try.underlying29 info_u8 rfl _ acc rfl o3 u3 pbs rfl hon (by have := LE.out; have := PL.out; omega) (by have := LE.out; have := PL.out; omega) s3 ?_)
      intro v' w5 hown5 _ hb5
      go_wp2_with fail
      go_roundw
      case rel => exact ⟨k + 1, by omega, by go_num, by rw [SN.out]; exact hown5, (upr.trans up03).below_trans hb5 (Nat.le_refl _)⟩
      case measure => simp [intOf]; omega
    · obtain rfl : k = l.length := by omega
      have HL := Lib.hid (List.take_length (l := l))
      go_wp2_with fail
      go_ret2
      exact .inr ⟨bytesL l, _, HN.out, rfl, by have := HO.out; rw [HL.out] at this; exact this, upr⟩
end Go.Proofs.Ythbfhlphclgnaaa
