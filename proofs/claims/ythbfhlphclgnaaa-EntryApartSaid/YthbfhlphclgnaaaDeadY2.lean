/- Lists as bytes: the document's walk. -/
import Derived.Test.YthbfhlphclgnaaaDeadY
import Derived.Test.YthbfhlphclgnaaaDeadR
set_option linter.unusedSimpArgs false
namespace Go.Proofs.Ythbfhlphclgnaaa
open Go.RowKit Go.Sort

set_option maxHeartbeats 4000000 in
theorem rbytes_any (w : World) (v : Value) (l : List PtrD) (hv : IsPtrs w v l) (hwf : ∀ x ∈ l, x.wf) :
    Calls Try.prog 32 #[v] w fun e w' => BytesPost (bytesO l) w e w' := by
  have R := Lib.hid (fun W (up : Up w W) => rright_any W v l (IsRow.up hv up))
  have hlen := hv.length_le
  cases hR : rightB l
  case false =>
    have HN := Lib.hid (show bytesO l = none from if_neg (fun h => by rw [hR] at h; cases h.2))
    rw [hR] at R
    clear hR
    obtain ⟨a, cap, rfl⟩ := hv.slice
    go_enter Try.func32, Try.ntmps32
    go_wp2_with fail
    refine (R.out _ (Up.refl _)).mono ?_
    rintro e w1 ⟨rfl, up1⟩
    go_wp2_with fail
    go_ret2
    exact .inl ⟨HN.out, rfl, up1⟩
  by_cases h4 : l.length ≤ 4000
  case neg =>
    have HN := Lib.hid (show bytesO l = none from if_neg (fun h => h4 h.1))
    rw [hR] at R
    clear hR
    obtain ⟨a, cap, rfl⟩ := hv.slice
    have t1 : decide ((4000 : Int) < (l.length : Int)) = true := by simp; omega
    have t2 : decide (4000 < l.length) = true := by simp; omega
    clear h4
    go_enter Try.func32, Try.ntmps32
    go_wp2_with fail
    refine (R.out _ (Up.refl _)).mono ?_
    rintro e w1 ⟨rfl, up1⟩
    go_wp2_with fail
    go_ret2
    exact .inl ⟨HN.out, rfl, up1⟩
  have t1 : decide ((4000 : Int) < (l.length : Int)) = false := by simp; omega
  have t2 : decide (4000 < l.length) = false := by simp; omega
  have HN := Lib.hid (show bytesO l = some (bytesL l) from if_pos ⟨h4, hR⟩)
  have HG := Lib.hid (right_good hR)
  have HW := Lib.hid hwf
  rw [hR] at R
  clear hR hwf
  have HV := Lib.hid hv
  obtain ⟨a, cap, rfl⟩ := hv.slice
  clear hv
  go_enter Try.func32, Try.ntmps32
  go_wp2_with fail
  refine (R.out _ (Up.refl _)).mono ?_
  rintro e w1 ⟨rfl, up1⟩
  go_wp2_with fail
  have own0 : Own byteCell 5 (w1.alloc (.cells #[] 5)) w.heap.size (.slice (some ⟨w1.heap.size, 0, none⟩) 0 0) (bytesL (l.take 0)) := Own.made byteCell 5 w1 w.heap.size up1.size
  have upz := up1.trans (up_alloc w1 (.cells #[] 5))
  go_loopw [4, 20] (fun u i wr => ∃ k : Nat, k ≤ l.length ∧ i = .int .i64 k ∧ Own byteCell 5 wr w.heap.size u (bytesL (l.take k)) ∧ Up w wr) (fun _ i _ => l.length - (intOf i).toNat)
  case atStart => exact ⟨0, Nat.zero_le _, rfl, own0, upz⟩
  case round =>
    obtain ⟨k, hk, rfl, hown, upr⟩ := hrel
    clear own0 upz
    have HO := Lib.hid hown
    clear hown
    by_cases hlt : k < l.length
    · obtain ⟨b, off, rfl, _, _, hc⟩ := ptrs_at (IsRow.up HV.out upr) (by omega)
      have hc0 := (hc k hlt).1
      have hc1 := (hc k hlt).2.1
      have hc2 := (hc k hlt).2.2
      have b2 : ((k : Int) < (l.length : Int)) = True := by simp; omega
      have hmem := List.getElem_mem hlt
      have B := Lib.hid (fun W => refBytes_any W l[k] (HW.out _ hmem))
      have G := Lib.hid (HG.out _ hmem)
      have SN := Lib.hid (bytesL_snoc l k hlt)
      have LE := Lib.hid (show (bytesL (l.take k)).length ≤ 64000 by rw [bytesL_length, List.length_take]; omega)
      clear hc hmem
      generalize l[k] = p at *
      obtain ⟨pl, pb, ps⟩ := p
      unfold ptrV at B
      simp only at hc0 hc1 hc2 B
      have upa := up_alloc wr (.cells #[.int .i64 pl, .int .u64 (pb : Int), .int .u32 (ps : Int)] 41)
      go_wp2_with fail
      refine (B.out _).mono ?_
      rintro e w3 h3
      obtain ⟨u3, rfl, ho3, up3⟩ : ∃ u3, e = .returned (.tuple #[u3, .int .i64 0]) ∧ Own byteCell 5 w3 (wr.alloc (.cells #[.int .i64 pl, .int .u64 (pb : Int), .int .u32 (ps : Int)] 41)).heap.size u3 (ptrBytes ⟨pl, pb, ps⟩) ∧ Up (wr.alloc (.cells #[.int .i64 pl, .int .u64 (pb : Int), .int .u32 (ps : Int)] 41)) w3 := by
        rcases h3 with ⟨_, u, rfl, h, h'⟩ | ⟨h, _⟩
        · exact ⟨u, rfl, h, h'⟩
        · rw [G.out] at h; cases h
      clear h3
      have up03 := upa.trans up3
      have o3 := HO.out.up up03
      have s3 := (upr.trans up03).size
      have pl16 := ptrBytes_len ⟨pl, pb, ps⟩
      have PL := Lib.hid pl16
      have hon := ho3.ones
      clear pl16 ho3
      generalize ptrBytes ⟨pl, pb, ps⟩ = pbs at *
      generalize bytesL (l.take k) = acc at *
      go_wp2_with (at_builtin; refine wpList_append_ones byteCell byteCell_one rfl (.tmp 29) (.tmp 30) 29 rfl w.heap.size 5 (.int .u8 0) 1 Try.underlying29 info_u8 rfl _ acc rfl o3 u3 pbs rfl hon (by have := LE.out; have := PL.out; omega) (by have := LE.out; have := PL.out; omega) s3 ?_)
      intro v' w5 hown5 _ hb5
      go_wp2_with fail
      go_roundw
      case rel => exact ⟨k + 1, by omega, by go_num, by rw [SN.out]; exact hown5, (upr.trans up03).below_trans hb5 (Nat.le_refl _)⟩
      case measure => simp [intOf]; omega
    · obtain rfl : k = l.length := by omega
      have HL := Lib.hid (List.take_length (l := l))
      go_wp2_with fail
      go_ret2
      exact .inr ⟨bytesL l, _, HN.out, rfl, by have := HO.out; rw [HL.out] at this; exact this, upr⟩
end Go.Proofs.Ythbfhlphclgnaaa
