/- The walks of the document's Split and of SameTexts. -/
import Derived.Test.YthbfhlphclgnaaaFieldT
import Derived.Test.YthbfhlphclgnaaaFieldS
namespace Go.Proofs.Ythbfhlphclgnaaa
open Go.RowKit

set_option maxHeartbeats 2000000 in
theorem refSplit_any (w : World) (v : Value) (b : List UInt8) (hv : IsBytes w v b) (hreach : b.length ≤ 140737488351232) :
    Calls Try.prog 34 #[v] w fun e w' => SplitPost b w e w' := by
  obtain ⟨a, c, rfl⟩ := hv.slice
  by_cases h2 : b.length < 2
  · have hn : splitB b = none := by unfold splitB; rw [if_pos h2]
    have Hn := Lib.hid hn
    clear hn
    go_enter Try.func34, Try.ntmps34
    go_wp2_with fail
    go_ret2
    exact .inr ⟨Hn.out, rfl, Up.refl _⟩
  have hcap : b.length ≤ c := by
    rcases hv with ⟨hb, _⟩ | ⟨bb, oo, cc, h1, _, h2, _⟩
    · rw [hb]; simp
    · simp at h1; omega
  have hsl0 : ∀ W, (Instr.slice 29 (.slice a b.length c) none (some (.int .i64 2)) none).run Try.prog W = .ok (pieceOf a 0 2 c) W := run_piece_to (P := Try.prog) 29 bytes_elem bytes_size a b.length c 2 (by omega)
  have hpc0 := hv.piece (lo := 0) (hi := 2) (by omega) (by omega)
  rw [List.drop_zero] at hpc0
  have hmany := numVal_two_lt b
  have hstart := Rest.start (b := b) (by omega)
  have HV := fun W (hu : Up w W) => value_any W _ _ (hpc0.up hu) (by simp; omega)
  have HV := Lib.hid HV
  generalize numVal (b.take 2) = many at *
  have e0 : IntKind.i64.wrap (many : Int) = (many : Int) := IntWalk.i64_in _ (by omega)
  have Hstart := Lib.hid hstart
  clear hstart hpc0
  go_enter Try.func34, Try.ntmps34
  go_wp2_with fail
  refine (HV.out _ (up_alloc w _)).mono ?_
  rintro e w1 ⟨rfl, rfl⟩
  clear hsl0 HV
  go_wp2_with fail
  go_loopw [4, 5, 6] (fun x t y wr => ∃ (m p : Nat) (acc : List (List UInt8)), m ≤ many ∧ acc.length = many - m ∧ y = .int .i64 m ∧ t = .int .i64 p ∧ p ≤ b.length ∧ Rest b m (b.drop p) acc ∧ OwnTexts wr w.heap.size x acc ∧ Up w wr) (fun _ _ y _ => (intOf y).toNat)
  case atStart => exact ⟨many, 2, [], Nat.le_refl _, by simp, rfl, rfl, by omega, Hstart.out, ⟨[], rfl, Own.made slCell _ w _ (Nat.le_refl _), fun i h => absurd h (Nat.not_lt_zero i)⟩, up_alloc _ _⟩
  case round =>
    obtain ⟨m, p, acc, hm, hacc, rfl, rfl, hp, hrest, hown, upr⟩ := hrel
    obtain ⟨wo, rfl⟩ : ∃ wo : World, wo = wr := ⟨_, rfl⟩
    have Hrest := Lib.hid hrest
    have Hacc := Lib.hid hacc
    clear hrest hacc Hstart e0
    by_cases hlt : 0 < m
    · obtain ⟨j, rfl⟩ : ∃ j, m = j + 1 := ⟨m - 1, by omega⟩
      have ej : ((j + 1 : Nat) : Int) = (j : Int) + 1 := by omega
      rw [ej]
      by_cases h2r : b.length < p + 2
      · have hn := Hrest.out.short (by simp; omega)
        have Hn := Lib.hid hn
        have t1 : (b.length : Int) - (p : Int) < 2 := by omega
        clear hn ej
        go_wp2_with fail
        go_ret2
        exact .inr ⟨Hn.out, rfl, upr⟩
      have t1 : ¬ (b.length : Int) - (p : Int) < 2 := by omega
      have hdl : (b.drop p).length = b.length - p := by simp
      have hsl1 : ∀ W, (Instr.slice 29 (.slice a b.length c) (some (.int .i64 (p : Int))) (some (.int .i64 ((p : Int) + 2))) none).run Try.prog W = .ok (pieceOf a p (p + 2) c) W := by
        intro W
        have := run_piece (P := Try.prog) 29 bytes_elem bytes_size a b.length c p (p + 2) (by omega) (by omega) W
        simpa using this
      have hpc1 := hv.piece (lo := p) (hi := p + 2) (by omega) (by omega)
      rw [show (b.take (p + 2)).drop p = (b.drop p).take 2 from by rw [List.take_drop]] at hpc1
      have HV := Lib.hid (value_any wo _ _ (hpc1.up upr) (by simp; omega))
      have hsz := numVal_two_lt (b.drop p)
      have hshort := Hrest.out.long (by omega)
      have hnext := Hrest.out.next (by omega)
      rw [hdl] at hshort hnext
      generalize numVal ((b.drop p).take 2) = sz at *
      have Hshort := Lib.hid hshort
      have Hnext := Lib.hid hnext
      have e1 : IntKind.i64.wrap (sz : Int) = (sz : Int) := IntWalk.i64_in _ (by omega)
      clear hshort hnext hdl hpc1 ej
      by_cases hlong : b.length - p - 2 < sz
      · have hn := Hshort.out hlong
        have Hn := Lib.hid hn
        have t2 : (b.length : Int) - (p : Int) - 2 < (sz : Int) := by omega
        clear hn
        go_wp2_with fail
        refine HV.out.mono ?_
        rintro e w1 ⟨rfl, rfl⟩
        go_wp2_with fail
        go_ret2
        exact .inr ⟨Hn.out, rfl, upr⟩
      have t2 : ¬ (b.length : Int) - (p : Int) - 2 < (sz : Int) := by omega
      have hnext := Hnext.out hlong
      rw [List.drop_drop (i := 2), show (b.drop (p + 2)).drop sz = b.drop (p + 2 + sz) from by rw [List.drop_drop]] at hnext
      have Hnext2 := Lib.hid hnext
      have hsl2 : ∀ W, (Instr.slice 29 (.slice a b.length c) (some (.int .i64 ((p : Int) + 2))) (some (.int .i64 ((p : Int) + 2 + (sz : Int)))) none).run Try.prog W = .ok (pieceOf a (p + 2) (p + 2 + sz) c) W := by
        intro W
        have := run_piece (P := Try.prog) 29 bytes_elem bytes_size a b.length c (p + 2) (p + 2 + sz) (by omega) (by omega) W
        simpa using this
      have hpc2 := hv.piece (lo := p + 2) (hi := p + 2 + sz) (by omega) (by omega)
      rw [show (b.take (p + 2 + sz)).drop (p + 2) = (b.drop (p + 2)).take sz from by rw [List.take_drop]] at hpc2
      have hpl : ((b.drop (p + 2)).take sz).length * 1 ≤ 140737488355328 := by simp; omega
      clear hnext Hnext
      go_wp2_with fail
      refine HV.out.mono ?_
      rintro e w1 ⟨rfl, rfl⟩
      have hpc3 := hpc2.up upr
      go_wp2_with (at_builtin; refine wpList_fresh_ones byteCell byteCell_one rfl (.tmp 40) (.tmp 48) 29 rfl 5 (.int .u8 0) 1 Try.underlying29 info_u8 rfl rfl (pieceOf a (p + 2) (p + 2 + sz) c) ((b.drop (p + 2)).take sz) rfl hpc3 hpl ?_)
      intro v1 w2 hcop up2
      have hcop := hcop.mono upr.size
      have hown2 := hown.up up2
      obtain ⟨vs, hvl, hvo, hve⟩ := hown2
      have hvl2 : vs.length ≤ 65535 := by have := Hacc.out; omega
      obtain ⟨a5, c5, hs5⟩ := hcop.ones.slice
      subst hs5
      generalize htt : (b.drop (p + 2)).take sz = tt at *
      have Htt := Lib.hid htt
      have up12 : Up w w2 := upr.trans up2
      have hcop2 : Own byteCell 5 w2 w.heap.size (slCell ⟨a5, tt.length, c5⟩) tt := hcop
      clear hown hcop hpc2 hpc3 htt hsl1 hsl2 HV hpl
      go_wp2_with (at_builtin; refine wpList_append_ones slCell slCell_one rfl (.tmp 39) (.tmp 50) 50 rfl w.heap.size 29 (.slice none 0 0) 24 Try.underlying50 info_bytes rfl _ _ rfl (hvo.up (up_alloc w2 _)) (.slice (some ⟨w2.heap.size, 0, none⟩) 1 1) [⟨a5, tt.length, c5⟩] rfl (IsOnes.lit w2 #[.slice a5 tt.length c5] 29 (0, 0) [_] 1 rfl (by unfold maxLen; omega) rfl) (by simp; omega) (by simp; omega) ((up12.alloc _).size) ?_)
      intro v' w4 hown4 hg4 hb4
      have up4 : Up w w4 := (up12.alloc _).below_trans hb4 (Nat.le_refl _)
      have hot := OwnTexts.snoc hvl (hvo.up (up_alloc w2 _)) (fun i a b => (hve i a b).up (up_alloc w2 _)) (hcop2.up (up_alloc w2 _)) hown4 hg4
      have Hot := Lib.hid hot
      clear hot hown4 hve hvo hcop2
      go_wp2_with fail
      go_roundw
      case rel => exact ⟨j, p + 2 + sz, acc ++ [tt], by omega, by rw [List.length_append, Hacc.out]; simp; omega, by first | rfl | (congr 1; omega), by first | rfl | (congr 1; omega), by omega, Hnext2.out, Hot.out, up4⟩
      case measure => first | (simp [intOf]; done) | (simp [intOf]; omega)
    · obtain rfl : m = 0 := by omega
      by_cases hr0 : p = b.length
      · have hd := Hrest.out.done (by rw [hr0]; simp)
        have Hd := Lib.hid hd
        have t3 : ((p : Int) != (b.length : Int)) = false := by simp; omega
        clear hd hr0
        go_wp2_with fail
        go_ret2
        exact .inl ⟨acc, Hd.out, _, rfl, hown, upr⟩
      · have hd := Hrest.out.more (by intro h; have := congrArg List.length h; simp at this; omega)
        have Hd := Lib.hid hd
        have t3 : ((p : Int) != (b.length : Int)) = true := by simp; omega
        clear hd hr0
        go_wp2_with fail
        go_ret2
        exact .inr ⟨Hd.out, rfl, upr⟩

end Go.Proofs.Ythbfhlphclgnaaa
